/- Readings of arguments as plain lists and values: what each kind of argument of the laws gives to a walk. Of no program. -/
import Derived.WalkKit
import Derived.ProofKit
import Derived.OpenShut
import Derived.ShutString
import Derived.ChangeOld
import Derived.Below
import Derived.Deep.Slices
import Derived.Deep.Fields
import Derived.ChangeSame
import Derived.Lib.SmallJoins
namespace Go.Proofs.YtjlmoghifkgehaaDoor
open Go.ChangeShapes Go.WideShapes Go.ChangeAt Go.RowKit Go.Deep

/-- The slice (address a) holds the elements xs, each of k cells, as 'enc' lays them. -/
def Reads {α : Type} (w : World) (a : Option Addr) (k : Nat) (enc : α → List Value) (xs : List α) : Prop :=
  xs = [] ∨ ∃ b off, a = some ⟨b, off, none⟩ ∧ b < w.heap.size ∧ ∀ i x, xs[i]? = some x → ∀ j v, (enc x)[j]? = some v → w.cell? ⟨b, off + (i * k + j), none⟩ = some v

theorem Reads.below {α : Type} {w w' : World} {a : Option Addr} {k : Nat} {enc : α → List Value} {xs : List α} (h : Reads w a k enc xs) (hb : Below w.heap.size w w') : Reads w' a k enc xs := by
  rcases h with h | ⟨b, off, h1, h2, h3⟩
  · exact .inl h
  · exact .inr ⟨b, off, h1, Nat.lt_of_lt_of_le h2 hb.size, fun i x hx j v hv => (hb.cell (p := ⟨b, off + (i * k + j), none⟩) h2).trans (h3 i x hx j v hv)⟩

theorem Reads.nil {α : Type} (w : World) (a : Option Addr) (k : Nat) (enc : α → List Value) : Reads w a k enc [] := .inl rfl

theorem bcell {W w1 : World} (hb : Below W.heap.size W w1) : (∀ b o, b < W.heap.size → w1.cell? ⟨b, o, none⟩ = W.cell? ⟨b, o, none⟩) ∧ (∀ b o, b < W.heap.size → w1.frozen? ⟨b, o, none⟩ = W.frozen? ⟨b, o, none⟩) :=
  ⟨fun b o h => hb.cell (p := ⟨b, o, none⟩) h, fun b o h => hb.frozen (p := ⟨b, o, none⟩) h⟩

theorem Below.chain {w W w' : World} (h1 : Below w.heap.size w W) (h2 : Below W.heap.size W w') : Below w.heap.size w w' := h1.trans (h2.mono h1.size)
theorem Below.allocC {w W : World} (h1 : Below w.heap.size w W) (o : Obj) : Below w.heap.size w (W.alloc o) := h1.alloc h1.size o
theorem keepS {W w' : World} (hb : Below W.heap.size W w') {b j : Nat} {v : Value} (h : W.cell? ⟨b, j, none⟩ = some v) : w'.cell? ⟨b, j, none⟩ = some v :=
  (hb.cell (p := ⟨b, j, none⟩) (World.block_lt_of_cell? W _ h)).trans h
/-- Block b of the world is the row xs. -/
def Box (w : World) (b : Nat) (xs : List Value) : Prop := b < w.heap.size ∧ ∃ T, w.heap[b]? = some (.cells xs.toArray T (0, 0))
theorem Box.below {w w' : World} {b : Nat} {xs : List Value} (h : Box w b xs) (hb : Below w.heap.size w w') : Box w' b xs :=
  ⟨Nat.lt_of_lt_of_le h.1 hb.size, h.2.elim fun T hT => ⟨T, (hb.block b h.1).trans hT⟩⟩
theorem Box.drew {w : World} {b : Nat} {xs : List Value} (h : Box w b xs) : Box w.drew b xs := h
theorem Box.cell {w : World} {b : Nat} {xs : List Value} (h : Box w b xs) (j : Nat) (v : Value) (hv : xs[j]? = some v) : w.cell? ⟨b, j, none⟩ = some v := by
  obtain ⟨_, T, hT⟩ := h
  rw [cell_of_row w b j _ T (0, 0) hT]
  simpa using hv
theorem Box.free {w : World} {b : Nat} {xs : List Value} (h : Box w b xs) (j : Nat) : w.frozen? ⟨b, j, none⟩ = false := by
  obtain ⟨_, T, hT⟩ := h
  simp [World.frozen?, hT]
theorem Box.new (w : World) (xs : List Value) (T : TypeId) : Box (w.alloc (.cells xs.toArray T)) w.heap.size xs :=
  ⟨by simp, T, heap_alloc_new w _⟩
theorem Box.alloc {w : World} {b : Nat} {xs : List Value} (h : Box w b xs) (o : Obj) : Box (w.alloc o) b xs :=
  h.below ((Below.refl _ _).alloc (Nat.le_refl _) o)
theorem Below.sized {W w : World} (h : Below W.heap.size W w) {n : Nat} (hn : n < W.heap.size) : n < w.heap.size := Nat.lt_of_lt_of_le hn h.size

/-- The string that a cell's value holds. -/
def strOf : Value → ByteArray | .string s => s | _ => ByteArray.empty
def intVal : Value → Int | .int _ n => n | _ => 0

def encS (s : ByteArray) : List Value := [.string s]
/-- A key and a value. -/
def encC (c : ByteArray × ByteArray) : List Value := [.string c.1, .string c.2]
structure Ans where
  code : Int
  n : Int
  text : ByteArray
def encA (x : Ans) : List Value := [.int .i64 x.code, .int .i64 x.n, .string x.text]
structure Cal where
  kind : Int
  name : ByteArray
  dest : ByteArray
  a : Int
  b : Int
  text : ByteArray
def encCal (c : Cal) : List Value := [.int .i64 c.kind, .string c.name, .string c.dest, .int .i64 c.a, .int .i64 c.b, .string c.text]
structure Stp where
  proc : Int
  call : Cal
def encStp (s : Stp) : List Value := .int .i64 s.proc :: encCal s.call

theorem list_of_choice {α : Type} {n : Nat} {R : Nat → α → Prop} (h : ∀ i, i < n → ∃ x, R i x) : ∃ xs : List α, xs.length = n ∧ ∀ i x, xs[i]? = some x → R i x := by
  induction n with
  | zero => exact ⟨[], rfl, fun i x hx => by simp at hx⟩
  | succ n ih =>
    obtain ⟨xs, hl, hx⟩ := ih fun i hi => h i (by omega)
    obtain ⟨y, hy⟩ := h n (by omega)
    refine ⟨xs ++ [y], by simp [hl], fun i x hix => ?_⟩
    by_cases hi : i < n
    · rw [List.getElem?_append_left (by omega)] at hix
      exact hx i x hix
    · have hlt : i < (xs ++ [y]).length := (List.getElem?_eq_some_iff.1 hix).1
      have : i = n := by simp [hl] at hlt; omega
      subst this
      rw [List.getElem?_append_right (by omega)] at hix
      simp [hl] at hix
      subst hix
      exact hy

theorem add_none (b off n : Nat) : (⟨b, off, none⟩ : Addr).add n = ⟨b, off + n, none⟩ := by unfold Addr.add; split <;> simp_all

section
variable {H : Type} {enc : TypeId × Value → H} {P : Program} {w : World} {base : Nat} {spare : Nat → Bool} {held : Bool}

/-- A slice argument whose elements each read as some x by a law of its own. -/
theorem open_rows {α : Type} (encE : α → List Value) (okE : α → Prop) (k : Nat) {t e : TypeId} {a : Option Addr} {len cap : Nat} {d : DataW H} {ps : List MemPlace}
    (ht : P.underlying t = some (.slice e)) (hC : P.cellsOf e = k) (hk : 0 < k)
    (hE : ∀ (n : Nat) (cs : List Value) (y : DataW H × List MemPlace), cs.length = k → DataW.trod enc P w base spare held n e cs = some y → ∃ x, cs = encE x ∧ okE x)
    (h : DataW.Trod enc P w base spare held t (.slice a len cap) d ps) :
    len ≤ maxLen ∧ ∃ xs : List α, xs.length = len ∧ Reads w a k encE xs ∧ ∀ x ∈ xs, okE x := by
  obtain ⟨fuel, hf⟩ := h
  rcases open_slice ht hf with ⟨hcs, _⟩ | ⟨a', len', cap', m, n, D, Pl, hcs, hb, hl, hm, hmm, hx, hi⟩
  · simp [Value.cells] at hcs
    obtain ⟨rfl, rfl, rfl⟩ := hcs
    exact ⟨Nat.zero_le _, [], rfl, .inl rfl, by simp⟩
  · simp [Value.cells] at hcs
    obtain ⟨rfl, rfl, rfl⟩ := hcs
    have hlm : len ≤ m := by rw [hmm]; split <;> omega
    have hch : ∀ i, i < len → ∃ x, (∀ j v, (encE x)[j]? = some v → w.cell? (a'.add (i * k + j)) = some v) ∧ okE x ∧ (encE x).length = k := by
      intro i hi'
      obtain ⟨cs', hc, ht'⟩ := hi i (by omega)
      rw [hC] at hc
      obtain ⟨_, hcl, hat⟩ := World.cells?_some hc
      obtain ⟨x, hx1, hx2⟩ := hE _ _ _ hcl ht'
      refine ⟨x, fun j v hv => ?_, hx2, by rw [← hx1]; exact hcl⟩
      have hj : j < cs'.length := by rw [hx1]; exact (List.getElem?_eq_some_iff.1 hv).1
      have := hat j (by omega)
      rw [← Go.Deep.add_add, this]
      rw [← hx1] at hv
      exact hv
    obtain ⟨xs, hxl, hxs⟩ := list_of_choice hch
    refine ⟨by omega, xs, hxl, ?_, fun x hx => ?_⟩
    · by_cases hz : len = 0
      · exact .inl (List.eq_nil_of_length_eq_zero (by omega))
      · obtain ⟨x0, h0, _, hl0⟩ := hch 0 (by omega)
        obtain ⟨b, off, spot⟩ := a'
        have hv0 : (encE x0)[0]? = some ((encE x0)[0]'(by omega)) := List.getElem?_eq_getElem (by omega)
        have hc0 := h0 0 _ hv0
        have hspot : spot = none := by simpa [Addr.add] using World.cell?_spot hc0
        subst hspot
        have hlt : b < w.heap.size := by simpa [Addr.add] using World.block_lt_of_cell? w _ hc0
        refine .inr ⟨b, off, rfl, hlt, fun i x hix j v hv => ?_⟩
        have := (hxs i x hix).1 j v hv
        rw [add_none] at this
        exact this
    · obtain ⟨i, hi2⟩ := List.getElem?_of_mem hx
      exact (hxs i x hi2).2.1

/-- The same, of a slice that lies in one cell. -/
theorem open_rows_cell {α : Type} (encE : α → List Value) (okE : α → Prop) (k : Nat) {t e : TypeId} {v : Value} {n : Nat} {y : DataW H × List MemPlace}
    (ht : P.underlying t = some (.slice e)) (hC : P.cellsOf e = k) (hk : 0 < k)
    (hE : ∀ (n : Nat) (cs : List Value) (y : DataW H × List MemPlace), cs.length = k → DataW.trod enc P w base spare held n e cs = some y → ∃ x, cs = encE x ∧ okE x)
    (h : DataW.trod enc P w base spare held n t [v] = some y) :
    ∃ a cap, ∃ xs : List α, v = .slice a xs.length cap ∧ xs.length ≤ maxLen ∧ Reads w a k encE xs ∧ ∀ x ∈ xs, okE x := by
  have hv : ∃ a len cap, v = .slice a len cap := by
    rcases open_slice ht h with ⟨hcs, _⟩ | ⟨a', len', cap', m, n, D, Pl, hcs, _⟩
    · simp at hcs; exact ⟨_, _, _, hcs⟩
    · simp at hcs; exact ⟨_, _, _, hcs⟩
  obtain ⟨a, len, cap, rfl⟩ := hv
  obtain ⟨hl, xs, hx, hr, ho⟩ := open_rows (d := y.1) (ps := y.2) encE okE k ht hC hk hE ⟨n, by simpa [Value.cells] using h⟩
  subst hx
  exact ⟨a, cap, xs, rfl, hl, hr, ho⟩

theorem elem_string {e : TypeId} (he : P.underlying e = some .string) (n : Nat) (cs : List Value) (y : DataW H × List MemPlace) (_hl : cs.length = 1) (h : DataW.trod enc P w base spare held n e cs = some y) :
    ∃ x : ByteArray, cs = encS x ∧ x.size ≤ maxLen := by
  obtain ⟨s, h1, _, h3⟩ := DataW.trod_string he h
  exact ⟨s, h1, h3⟩

/-- One field of a struct whose fields are one cell each. -/
theorem field_string {fs : Array Field} (hone : oneCellFields P fs = true) {cs : List Value} {n : Nat} {ys : List (DataW H × List MemPlace)}
    (hf : ∀ (j : Nat) (f : Field), fs[j]? = some f → DataW.trod enc P w base spare held n f.type ((cs.drop f.offset).take (P.cellsOf f.type)) = ys[j]?) (hy : ys.length = fs.size) (hl : cs.length = fs.size)
    (j : Nat) (f : Field) (hj : fs[j]? = some f) (ht : P.underlying f.type = some .string) : ∃ s : ByteArray, cs[j]? = some (.string s) ∧ s.size ≤ maxLen := by
  obtain ⟨ho, hk⟩ := hone_of hone j f hj
  have hjl : j < fs.size := (Array.getElem?_eq_some_iff.1 hj).1
  have h1 := hf j f hj
  rw [ho, hk] at h1
  have hone' : (cs.drop j).take 1 = [cs[j]'(by omega)] := by rw [List.drop_eq_getElem_cons (by omega)]; rfl
  rw [hone', List.getElem?_eq_getElem (by omega)] at h1
  obtain ⟨s, e, _, hs⟩ := DataW.trod_string ht h1
  simp at e
  exact ⟨s, by rw [List.getElem?_eq_getElem (by omega), e], hs⟩

theorem field_int {fs : Array Field} (hone : oneCellFields P fs = true) {cs : List Value} {n : Nat} {ys : List (DataW H × List MemPlace)}
    (hf : ∀ (j : Nat) (f : Field), fs[j]? = some f → DataW.trod enc P w base spare held n f.type ((cs.drop f.offset).take (P.cellsOf f.type)) = ys[j]?) (hy : ys.length = fs.size) (hl : cs.length = fs.size)
    (j : Nat) (f : Field) (hj : fs[j]? = some f) (ht : P.underlying f.type = some (.int .i64)) : ∃ m : Int, cs[j]? = some (.int .i64 m) ∧ (Lit.int .i64 m).wf = true := by
  obtain ⟨ho, hk⟩ := hone_of hone j f hj
  have hjl : j < fs.size := (Array.getElem?_eq_some_iff.1 hj).1
  have h1 := hf j f hj
  rw [ho, hk] at h1
  have hone' : (cs.drop j).take 1 = [cs[j]'(by omega)] := by rw [List.drop_eq_getElem_cons (by omega)]; rfl
  rw [hone', List.getElem?_eq_getElem (by omega)] at h1
  obtain ⟨m, e, _, hs⟩ := DataW.trod_int ht h1
  simp at e
  exact ⟨m, by rw [List.getElem?_eq_getElem (by omega), e], hs⟩

def okC (c : ByteArray × ByteArray) : Prop := c.1.size ≤ maxLen ∧ c.2.size ≤ maxLen
def okA (x : Ans) : Prop := (Lit.int .i64 x.code).wf = true ∧ (Lit.int .i64 x.n).wf = true ∧ x.text.size ≤ maxLen
def okCal (c : Cal) : Prop := (Lit.int .i64 c.kind).wf = true ∧ (Lit.int .i64 c.a).wf = true ∧ (Lit.int .i64 c.b).wf = true ∧ c.name.size ≤ maxLen ∧ c.dest.size ≤ maxLen ∧ c.text.size ≤ maxLen
def okStp (s : Stp) : Prop := (Lit.int .i64 s.proc).wf = true ∧ okCal s.call

theorem elem_cell {e : TypeId} {f0 f1 : Field} (he : P.underlying e = some (.struct #[f0, f1])) (hone : oneCellFields P #[f0, f1] = true)
    (h0 : P.underlying f0.type = some .string) (h1 : P.underlying f1.type = some .string)
    (n : Nat) (cs : List Value) (y : DataW H × List MemPlace) (hl : cs.length = 2) (h : DataW.trod enc P w base spare held n e cs = some y) :
    ∃ x : ByteArray × ByteArray, cs = encC x ∧ okC x := by
  obtain ⟨ys, n', _, hy, _, hyl, hf⟩ := DataW.trod_struct he h
  obtain ⟨s0, e0, b0⟩ := field_string hone hf hyl hl 0 f0 rfl h0
  obtain ⟨s1, e1, b1⟩ := field_string hone hf hyl hl 1 f1 rfl h1
  refine ⟨(s0, s1), ?_, b0, b1⟩
  match cs, hl with
  | [c0, c1], _ => simp at e0 e1; subst e0 e1; rfl

theorem elem_answer {e : TypeId} {f0 f1 f2 : Field} (he : P.underlying e = some (.struct #[f0, f1, f2])) (hone : oneCellFields P #[f0, f1, f2] = true)
    (h0 : P.underlying f0.type = some (.int .i64)) (h1 : P.underlying f1.type = some (.int .i64)) (h2 : P.underlying f2.type = some .string)
    (n : Nat) (cs : List Value) (y : DataW H × List MemPlace) (hl : cs.length = 3) (h : DataW.trod enc P w base spare held n e cs = some y) :
    ∃ x : Ans, cs = encA x ∧ okA x := by
  obtain ⟨ys, n', _, hy, _, hyl, hf⟩ := DataW.trod_struct he h
  obtain ⟨s0, e0, b0⟩ := field_int hone hf hyl hl 0 f0 rfl h0
  obtain ⟨s1, e1, b1⟩ := field_int hone hf hyl hl 1 f1 rfl h1
  obtain ⟨s2, e2, b2⟩ := field_string hone hf hyl hl 2 f2 rfl h2
  refine ⟨⟨s0, s1, s2⟩, ?_, b0, b1, b2⟩
  match cs, hl with
  | [c0, c1, c2], _ => simp at e0 e1 e2; subst e0 e1 e2; rfl

theorem elem_call {e : TypeId} {f0 f1 f2 f3 f4 f5 : Field} (he : P.underlying e = some (.struct #[f0, f1, f2, f3, f4, f5])) (hone : oneCellFields P #[f0, f1, f2, f3, f4, f5] = true)
    (h0 : P.underlying f0.type = some (.int .i64)) (h1 : P.underlying f1.type = some .string) (h2 : P.underlying f2.type = some .string)
    (h3 : P.underlying f3.type = some (.int .i64)) (h4 : P.underlying f4.type = some (.int .i64)) (h5 : P.underlying f5.type = some .string)
    (n : Nat) (cs : List Value) (y : DataW H × List MemPlace) (hl : cs.length = 6) (h : DataW.trod enc P w base spare held n e cs = some y) :
    ∃ x : Cal, cs = encCal x ∧ okCal x := by
  obtain ⟨ys, n', _, hy, _, hyl, hf⟩ := DataW.trod_struct he h
  obtain ⟨s0, e0, b0⟩ := field_int hone hf hyl hl 0 f0 rfl h0
  obtain ⟨s1, e1, b1⟩ := field_string hone hf hyl hl 1 f1 rfl h1
  obtain ⟨s2, e2, b2⟩ := field_string hone hf hyl hl 2 f2 rfl h2
  obtain ⟨s3, e3, b3⟩ := field_int hone hf hyl hl 3 f3 rfl h3
  obtain ⟨s4, e4, b4⟩ := field_int hone hf hyl hl 4 f4 rfl h4
  obtain ⟨s5, e5, b5⟩ := field_string hone hf hyl hl 5 f5 rfl h5
  refine ⟨⟨s0, s1, s2, s3, s4, s5⟩, ?_, b0, b3, b4, b1, b2, b5⟩
  match cs, hl with
  | [c0, c1, c2, c3, c4, c5], _ => simp at e0 e1 e2 e3 e4 e5; subst e0 e1 e2 e3 e4 e5; rfl

theorem elem_step {e : TypeId} {f0 f1 : Field} (he : P.underlying e = some (.struct #[f0, f1])) (o0 : f0.offset = 0) (k0 : P.cellsOf f0.type = 1) (o1 : f1.offset = 1) (k1 : P.cellsOf f1.type = 6)
    (h0 : P.underlying f0.type = some (.int .i64))
    (hE : ∀ (n : Nat) (cs : List Value) (y : DataW H × List MemPlace), cs.length = 6 → DataW.trod enc P w base spare held n f1.type cs = some y → ∃ x, cs = encCal x ∧ okCal x)
    (n : Nat) (cs : List Value) (y : DataW H × List MemPlace) (hl : cs.length = 7) (h : DataW.trod enc P w base spare held n e cs = some y) :
    ∃ x : Stp, cs = encStp x ∧ okStp x := by
  obtain ⟨ys, n', _, hy, _, hyl, hf⟩ := DataW.trod_struct he h
  match cs, hl with
  | [c0, c1, c2, c3, c4, c5, c6], _ =>
    match ys, hyl with
    | [y0, y1], _ =>
      have g0 := hf 0 f0 rfl
      have g1 := hf 1 f1 rfl
      rw [o0, k0] at g0
      rw [o1, k1] at g1
      simp only [List.drop_zero, List.take_succ_cons, List.take_zero, List.drop_succ_cons, List.getElem?_cons_zero, List.getElem?_cons_succ] at g0 g1
      obtain ⟨m, e0, _, b0⟩ := DataW.trod_int h0 g0
      obtain ⟨x, e1, b1⟩ := hE _ _ _ rfl g1
      simp at e0
      subst e0
      exact ⟨⟨m, x⟩, by rw [e1]; rfl, b0, b1⟩

/-- A struct by value as its cells. -/
theorem open_aggE {α : Type} (encE : α → List Value) (okE : α → Prop) (k : Nat) {r : Reach} {b0 : Nat} {t : TypeId} {v : Value} {d : DataW H} {p : List MemPlace} {fs : Array Field}
    (hs : P.underlying t = some (.struct fs)) (hC : P.cellsOf t = k)
    (hE : ∀ (n : Nat) (cs : List Value) (y : DataW H × List MemPlace), cs.length = k → DataW.trod enc P w base spare held n t cs = some y → ∃ x, cs = encE x ∧ okE x)
    (hv : Value.okWide P w r b0 t v) (h : DataW.Trod enc P w base spare held t v d p) : ∃ x, v = .agg (encE x).toArray ∧ okE x := by
  obtain ⟨cs, rfl, hsz⟩ := okWide_struct hs hv
  obtain ⟨fuel, hf⟩ := h
  obtain ⟨x, e, hx⟩ := hE _ _ _ (by simp only [Value.cells, Array.length_toList]; exact hsz.trans hC) hf
  refine ⟨x, ?_, hx⟩
  rw [← e]
  simp [Value.cells]
theorem field_slice {α : Type} (encE : α → List Value) (okE : α → Prop) (k : Nat) {fs : Array Field} (hone : oneCellFields P fs = true) {cs : List Value} {n : Nat} {ys : List (DataW H × List MemPlace)}
    (hf : ∀ (j : Nat) (f : Field), fs[j]? = some f → DataW.trod enc P w base spare held n f.type ((cs.drop f.offset).take (P.cellsOf f.type)) = ys[j]?) (hy : ys.length = fs.size) (hl : cs.length = fs.size)
    (j : Nat) (f : Field) (hj : fs[j]? = some f) {e : TypeId} (ht : P.underlying f.type = some (.slice e)) (hC : P.cellsOf e = k) (hk : 0 < k)
    (hE : ∀ (n : Nat) (cs : List Value) (y : DataW H × List MemPlace), cs.length = k → DataW.trod enc P w base spare held n e cs = some y → ∃ x, cs = encE x ∧ okE x) :
    ∃ a cap, ∃ xs : List α, cs[j]? = some (.slice a xs.length cap) ∧ xs.length ≤ maxLen ∧ Reads w a k encE xs ∧ ∀ x ∈ xs, okE x := by
  obtain ⟨ho, hk1⟩ := hone_of hone j f hj
  have hjl : j < fs.size := (Array.getElem?_eq_some_iff.1 hj).1
  have h1 := hf j f hj
  rw [ho, hk1] at h1
  have hone' : (cs.drop j).take 1 = [cs[j]'(by omega)] := by rw [List.drop_eq_getElem_cons (by omega)]; rfl
  rw [hone', List.getElem?_eq_getElem (by omega)] at h1
  obtain ⟨a, cap, xs, e1, h2⟩ := open_rows_cell encE okE k ht hC hk hE h1
  exact ⟨a, cap, xs, by rw [List.getElem?_eq_getElem (by omega), e1], h2⟩
/-- A Touch by value: two slices of strings. -/
theorem open_touch {r : Reach} {b0 : Nat} {t e : TypeId} {v : Value} {d : DataW H} {p : List MemPlace} {f0 f1 : Field}
    (hs : P.underlying t = some (.struct #[f0, f1])) (hone : oneCellFields P #[f0, f1] = true) (hCt : P.cellsOf t = 2) (h0 : P.underlying f0.type = some (.slice e)) (h1 : P.underlying f1.type = some (.slice e)) (hC : P.cellsOf e = 1)
    (he : P.underlying e = some .string) (hv : Value.okWide P w r b0 t v) (h : DataW.Trod enc P w base spare held t v d p) :
    ∃ a0 c0 rs a1 c1 ws, v = .agg #[.slice a0 (rs : List ByteArray).length c0, .slice a1 (ws : List ByteArray).length c1] ∧ (rs.length ≤ maxLen ∧ Reads w a0 1 encS rs ∧ ∀ x ∈ rs, x.size ≤ maxLen) ∧ (ws.length ≤ maxLen ∧ Reads w a1 1 encS ws ∧ ∀ x ∈ ws, x.size ≤ maxLen) := by
  obtain ⟨cs, rfl, hsz⟩ := okWide_struct hs hv
  obtain ⟨fuel, hf⟩ := h
  obtain ⟨ys, n', _, hy, _, hyl, hff⟩ := DataW.trod_struct hs hf
  have hl : (Value.agg cs).cells.toList.length = 2 := by simp only [Value.cells, Array.length_toList]; exact hsz.trans hCt
  obtain ⟨a0, c0, rs, e0, g0⟩ := field_slice encS (fun s => s.size ≤ maxLen) 1 hone hff hyl hl 0 f0 rfl h0 hC (by decide) (elem_string he)
  obtain ⟨a1, c1, ws, e1, g1⟩ := field_slice encS (fun s => s.size ≤ maxLen) 1 hone hff hyl hl 1 f1 rfl h1 hC (by decide) (elem_string he)
  refine ⟨a0, c0, rs, a1, c1, ws, ?_, g0, g1⟩
  obtain ⟨l⟩ := cs
  simp only [Value.cells] at hl e0 e1
  match l, hl with
  | [x0, x1], _ => simp at e0 e1; subst e0 e1; rfl

theorem trodVars_length : ∀ {ns : List String} {gs : List (DataW H)} {q : List MemPlace}, DataW.TrodVars enc P w spare ns gs q → gs.length = ns.length
  | [], [], _, _ => rfl
  | [], _ :: _, _, h => h.elim
  | _ :: _, [], _, h => h.elim
  | _ :: _, _ :: _, _, h => by
    obtain ⟨_, _, _, _, _, _, _, _, _, _, hs, _⟩ := h
    simp [trodVars_length hs]
end
end Go.Proofs.YtjlmoghifkgehaaDoor
