/- Lemmas and contracts that the last text leans on, joined: Read, Same, Own, Run, Find, SliceString, InsertS, Ord, SliceCell, Clone, Span, AddSpan. Conditions: as each theorem says. -/
import Derived.Test.YtihghflppegnmaaGreatDoorCv0
import Derived.Lib.SmallJoins
import Derived.Lib.Overlaps
import Derived.Lib.AppendZerosOnto
import Derived.Test.YtihghflppegnmaaGreatDoorProg
import Derived.WalkSpells
import Derived.WalkLawsBesides
import Derived.Shelf.Abstract
import Derived.Lib.Hide
import Derived.Deep.RegionHeld3
import Derived.Deep.DrawnRows
import Derived.Deep.RegionLaw
import Derived.BigQuiet
set_option linter.unusedSimpArgs false
set_option linter.unusedVariables false
set_option maxHeartbeats 40000000
namespace Go.Proofs.YtihghflppegnmaaGreatDoor
open Go.Proofs.Tryz
section
open Go.ChangeShapes Go.WideShapes Go.ChangeAt Go.RowKit Go.Deep
def Reads {α : Type} (w : World) (a : Option Addr) (k : Nat) (enc : α → List Value) (xs : List α) : Prop :=
 xs = [] ∨ ∃ b off, a = some ⟨b, off, none⟩ ∧ b < w.heap.size ∧ ∀ i x, xs[i]? = some x → ∀ j v, (enc x)[j]? = some v → w.cell? ⟨b, off + (i * k + j), none⟩ = some v
theorem Reads.below {α : Type} {w w' : World} {a : Option Addr} {k : Nat} {enc : α → List Value} {xs : List α} (h : Reads w a k enc xs) (hb : Below w.heap.size w w') : Reads w' a k enc xs := by
 rcases h with h | ⟨b, off, h1, h2, h3⟩
 ·exact .inl h
 ·exact .inr ⟨b, off, h1, Nat.lt_of_lt_of_le h2 hb.size, fun i x hx j v hv => (hb.cell (p := ⟨b, off + (i * k + j), none⟩) h2).trans (h3 i x hx j v hv)⟩
theorem Below.chain {w W w' : World} (h1 : Below w.heap.size w W) (h2 : Below W.heap.size W w') : Below w.heap.size w w' := h1.trans (h2.mono h1.size)
theorem Below.allocC {w W : World} (h1 : Below w.heap.size w W) (o : Obj) : Below w.heap.size w (W.alloc o) := h1.alloc h1.size o
theorem keepS {W w' : World} (hb : Below W.heap.size W w') {b j : Nat} {v : Value} (h : W.cell? ⟨b, j, none⟩ = some v) : w'.cell? ⟨b, j, none⟩ = some v :=
 (hb.cell (p := ⟨b, j, none⟩) (World.block_lt_of_cell? W _ h)).trans h
def Box (w : World) (b : Nat) (xs : List Value) : Prop := b < w.heap.size ∧ ∃ T, w.heap[b]? = some (.cells xs.toArray T (0, 0))
theorem Box.below {w w' : World} {b : Nat} {xs : List Value} (h : Box w b xs) (hb : Below w.heap.size w w') : Box w' b xs :=
 ⟨Nat.lt_of_lt_of_le h.1 hb.size, h.2.elim fun T hT => ⟨T, (hb.block b h.1).trans hT⟩⟩
theorem Box.drew {w : World} {b : Nat} {xs : List Value} (h : Box w b xs) : Box w.drew b xs := h
theorem Box.cell {w : World} {b : Nat} {xs : List Value} (h : Box w b xs) (j : Nat) (v : Value) (hv : xs[j]? = some v) : w.cell? ⟨b, j, none⟩ = some v := by
 obtain ⟨_, T, hT⟩ := h;rw [cell_of_row w b j _ T (0, 0) hT];simpa using hv
theorem Box.free {w : World} {b : Nat} {xs : List Value} (h : Box w b xs) (j : Nat) : w.frozen? ⟨b, j, none⟩ = false := by
 obtain ⟨_, T, hT⟩ := h;simp [World.frozen?, hT]
theorem Box.new (w : World) (xs : List Value) (T : TypeId) : Box (w.alloc (.cells xs.toArray T)) w.heap.size xs :=
 ⟨by simp, T, heap_alloc_new w _⟩
theorem Box.alloc {w : World} {b : Nat} {xs : List Value} (h : Box w b xs) (o : Obj) : Box (w.alloc o) b xs :=
 h.below ((Below.refl _ _).alloc (Nat.le_refl _) o)
def encS (s : ByteArray) : List Value := [.string s]
def encC (c : ByteArray × ByteArray) : List Value := [.string c.1, .string c.2]
structure Ans where
 code : Int
 n : Int
 text : ByteArray
def encA (x : Ans) : List Value := [.int .i64 x.code, .int .i64 x.n, .string x.text]
structure Cal where
 kind : Int
 name : ByteArray
 dest : ByteArray
 a : Int
 b : Int
 text : ByteArray
def encCal (c : Cal) : List Value := [.int .i64 c.kind, .string c.name, .string c.dest, .int .i64 c.a, .int .i64 c.b, .string c.text]
structure Stp where
 proc : Int
 call : Cal
def encStp (s : Stp) : List Value := .int .i64 s.proc :: encCal s.call
theorem list_of_choice {α : Type} {n : Nat} {R : Nat → α → Prop} (h : ∀ i, i < n → ∃ x, R i x) : ∃ xs : List α, xs.length = n ∧ ∀ i x, xs[i]? = some x → R i x := by
 induction n with
 | zero => exact ⟨[], rfl, fun i x hx => by simp at hx⟩
 | succ n ih =>
  obtain ⟨xs, hl, hx⟩ := ih fun i hi => h i (by omega);obtain ⟨y, hy⟩ := h n (by omega);refine ⟨xs ++ [y], by simp [hl], fun i x hix => ?_⟩;by_cases hi : i < n
  ·rw [List.getElem?_append_left (by omega)] at hix;exact hx i x hix
  ·have hlt : i < (xs ++ [y]).length := (List.getElem?_eq_some_iff.1 hix).1;have : i = n := by simp [hl] at hlt; omega
   subst this;rw [List.getElem?_append_right (by omega)] at hix;simp [hl] at hix;subst hix;exact hy
theorem add_none (b off n : Nat) : (⟨b, off, none⟩ : Addr).add n = ⟨b, off + n, none⟩ := by unfold Addr.add; split <;> simp_all
section
variable {H : Type} {enc : TypeId × Value → H} {P : Program} {w : World} {base : Nat} {spare : Nat → Bool} {held : Bool}
theorem open_rows {α : Type} (encE : α → List Value) (okE : α → Prop) (k : Nat) {t e : TypeId} {a : Option Addr} {len cap : Nat} {d : DataW H} {ps : List MemPlace}
 (ht : P.underlying t = some (.slice e)) (hC : P.cellsOf e = k) (hk : 0 < k)
 (hE : ∀ (n : Nat) (cs : List Value) (y : DataW H × List MemPlace), cs.length = k → DataW.trod enc P w base spare held n e cs = some y → ∃ x, cs = encE x ∧ okE x)
 (h : DataW.Trod enc P w base spare held t (.slice a len cap) d ps) :
 len ≤ maxLen ∧ ∃ xs : List α, xs.length = len ∧ Reads w a k encE xs ∧ ∀ x ∈ xs, okE x := by
 obtain ⟨fuel, hf⟩ := h;rcases open_slice ht hf with ⟨hcs, _⟩ | ⟨a', len', cap', m, n, D, Pl, hcs, hb, hl, hm, hmm, hx, hi⟩
 ·simp [Value.cells] at hcs;obtain ⟨rfl, rfl, rfl⟩ := hcs;exact ⟨Nat.zero_le _, [], rfl, .inl rfl, by simp⟩
 ·simp [Value.cells] at hcs;obtain ⟨rfl, rfl, rfl⟩ := hcs;have hlm : len ≤ m := by rw [hmm]; split <;> omega
  have hch : ∀ i, i < len → ∃ x, (∀ j v, (encE x)[j]? = some v → w.cell? (a'.add (i * k + j)) = some v) ∧ okE x ∧ (encE x).length = k := by
   intro i hi';obtain ⟨cs', hc, ht'⟩ := hi i (by omega);rw [hC] at hc;obtain ⟨_, hcl, hat⟩ := World.cells?_some hc;obtain ⟨x, hx1, hx2⟩ := hE _ _ _ hcl ht';refine ⟨x, fun j v hv => ?_, hx2, by rw [← hx1]; exact hcl⟩;have hj : j < cs'.length := by rw [hx1]; exact (List.getElem?_eq_some_iff.1 hv).1
   have := hat j (by omega);rw [← Go.Deep.add_add, this];rw [← hx1] at hv;exact hv
  obtain ⟨xs, hxl, hxs⟩ := list_of_choice hch;refine ⟨by omega, xs, hxl, ?_, fun x hx => ?_⟩
  ·by_cases hz : len = 0
   ·exact .inl (List.eq_nil_of_length_eq_zero (by omega))
   ·obtain ⟨x0, h0, _, hl0⟩ := hch 0 (by omega);obtain ⟨b, off, spot⟩ := a';have hv0 : (encE x0)[0]? = some ((encE x0)[0]'(by omega)) := List.getElem?_eq_getElem (by omega);have hc0 := h0 0 _ hv0;have hspot : spot = none := by simpa [Addr.add] using World.cell?_spot hc0
    subst hspot;have hlt : b < w.heap.size := by simpa [Addr.add] using World.block_lt_of_cell? w _ hc0
    refine .inr ⟨b, off, rfl, hlt, fun i x hix j v hv => ?_⟩;have := (hxs i x hix).1 j v hv;rw [add_none] at this;exact this
  ·obtain ⟨i, hi2⟩ := List.getElem?_of_mem hx;exact (hxs i x hi2).2.1
theorem trodVars_length : ∀ {ns : List String} {gs : List (DataW H)} {q : List MemPlace}, DataW.TrodVars enc P w spare ns gs q → gs.length = ns.length
 | [], [], _, _ => rfl
 | [], _ :: _, _, h => h.elim
 | _ :: _, [], _, h => h.elim
 | _ :: _, _ :: _, _, h => by
  obtain ⟨_, _, _, _, _, _, _, _, _, _, hs, _⟩ := h;simp [trodVars_length hs]
end
end
section
open Go.RowKit
open Classical in
noncomputable def same {α : Type} (a b : α) : Bool := decide (a = b)
theorem same_self {α : Type} (a : α) : same a a = true := by simp [same]
theorem same_ne {α : Type} {a b : α} (h : a ≠ b) : same a b = false := by simp [same, h]
theorem same_iff {α : Type} {a b : α} : same a b = true ↔ a = b := by simp [same]
theorem toList_eq_iff {a b : ByteArray} : a.toList = b.toList ↔ a = b := by
 rw [Lib.toList_data, Lib.toList_data];exact ⟨fun h => ByteArray.ext (Array.ext' h), fun h => by rw [h]⟩
theorem beq_toList_false {a b : ByteArray} (h : a ≠ b) : (a.toList == b.toList) = false := by
 rw [beq_eq_false_iff_ne]; exact fun e => h (toList_eq_iff.1 e)
theorem bne_toList_true {a b : ByteArray} (h : a ≠ b) : (a.toList != b.toList) = true := by
 rw [bne, beq_toList_false h]; rfl
theorem toList_ne {a b : ByteArray} (h : a ≠ b) : ¬ a.toList = b.toList := fun e => h (toList_eq_iff.1 e)
section
variable {α : Type}
theorem take_snoc_of {xs : List α} {k : Nat} {x : α} (h : xs[k]? = some x) : xs.take (k + 1) = xs.take k ++ [x] := by
 rw [List.take_add_one, h]; rfl
theorem some_of_lt {xs : List α} {k : Nat} (h : k < xs.length) : ∃ x, xs[k]? = some x := ⟨xs[k], List.getElem?_eq_getElem h⟩
theorem lt_of_some {xs : List α} {k : Nat} {x : α} (h : xs[k]? = some x) : k < xs.length := (List.getElem?_eq_some_iff.1 h).1
theorem same_len {xs ys : List α} (h : xs.length ≠ ys.length) : same xs ys = false := same_ne fun e => h (by rw [e])
theorem same_at {xs ys : List α} {k : Nat} {x y : α} (hx : xs[k]? = some x) (hy : ys[k]? = some y) (h : same x y = false) : same xs ys = false :=
 same_ne fun e => by
  rw [e, hy] at hx;obtain rfl := Option.some.inj hx;rw [same_self] at h;cases h
def upTo (xs ys : List α) (k : Nat) : Prop := xs.take k = ys.take k
theorem upTo_zero (xs ys : List α) : upTo xs ys 0 := by simp [upTo]
theorem upTo_succ {xs ys : List α} {k : Nat} {x y : α} (hk : upTo xs ys k) (hx : xs[k]? = some x) (hy : ys[k]? = some y) (h : same x y = true) : upTo xs ys (k + 1) := by
 unfold upTo at *;rw [take_snoc_of hx, take_snoc_of hy, hk, same_iff.1 h]
theorem same_end {xs ys : List α} {k : Nat} (hk : upTo xs ys k) (h1 : xs.length ≤ k) (h2 : ys.length ≤ k) : same xs ys = true := by
 unfold upTo at hk;rw [List.take_of_length_le h1, List.take_of_length_le h2] at hk;rw [hk]; exact same_self _
end
end
section
open Go.RowKit
def sets (w : World) (b : Nat) : Nat → List Value → World
 | _, [] => w
 | o, v :: vs => sets (w.setCell ⟨b, o, none⟩ v) b (o + 1) vs
def Fresh (T K : Nat) (cells : List Value) (n : Nat) (w : World) (e : Ending) (w' : World) : Prop :=
 ∃ v, e = .returned v ∧ w'.ownsRow w.heap.size T K v n cells ∧ Below w.heap.size w w'
theorem make_eq {P : Program} (t e K bytes : Nat) (z : Value) (ht : P.underlying t = some (.slice e)) (hinfo : (P.info? e).map (fun i => (i.zero, i.size, i.bytes)) = some (some z, K, bytes))
 (n : Nat) (hb : bytes * n ≤ 281474976710656) (h63 : n ≤ 9223372036854775807) (w : World) :
 (Instr.makeSlice t (.int .i64 (n : Int)) (.int .i64 (n : Int))).run P w = .ok (.slice (some ⟨w.heap.size, 0, none⟩) n n) (w.alloc (.cells (madeCells z.cells (n * K)) e)) := by
 obtain ⟨i, hi, hzz⟩ := Option.map_eq_some_iff.1 hinfo;simp only [Prod.mk.injEq] at hzz;obtain ⟨hz, hs, hby⟩ := hzz;have hbb : ((bytes * n : Nat) : Int) ≤ 281474976710656 := by omega
 rw [Int.natCast_mul, ← hby] at hbb;have h := run_make (P := P) w t e i z ht hi hz .i64 .i64 n n (by omega) (Int.le_refl _) hbb (by omega);rw [hs] at h;simpa using h
def setL (cur : Array Value) : Nat → List Value → Array Value
 | _, [] => cur
 | o, v :: vs => setL (cur.setIfInBounds o v) (o + 1) vs
theorem size_setL : ∀ (vs : List Value) (cur : Array Value) (o : Nat), (setL cur o vs).size = cur.size
 | [], _, _ => rfl
 | v :: vs, cur, o => by unfold setL; rw [size_setL vs]; simp
theorem take_setL : ∀ (vs : List Value) (cur : Array Value) (o : Nat), o + vs.length ≤ cur.size → (setL cur o vs).toList.take (o + vs.length) = cur.toList.take o ++ vs
 | [], cur, o, _ => by simp [setL]
 | v :: vs, cur, o, h => by
  simp only [List.length_cons] at h;unfold setL;have := take_setL vs (cur.setIfInBounds o v) (o + 1) (by simp; omega);rw [List.length_cons, show o + (vs.length + 1) = o + 1 + vs.length by omega, this];have hs : (cur.toList.set o v).take (o + 1) = cur.toList.take o ++ [v] := by
   rw [List.take_add_one, List.take_set_of_le (Nat.le_refl o), List.getElem?_set_self (by simp; omega)];rfl
  rw [Array.toList_setIfInBounds, hs, List.append_assoc];rfl
theorem heap_sets : ∀ (vs : List Value) (w : World) (b o : Nat) (cur : Array Value) (e : TypeId), w.heap[b]? = some (.cells cur e (0, 0)) → (sets w b o vs).heap[b]? = some (.cells (setL cur o vs) e (0, 0))
 | [], _, _, _, _, _, h => h
 | v :: vs, w, b, o, cur, e, h => heap_sets vs _ b (o + 1) _ e (heap_setCell_same w b o cur e v h)
theorem grownBy_trans {a b c : World} {row : Option Nat} (h : a.grownBy b row) (k : b.grownBy c row) : a.grownBy c row :=
 ⟨k.os.trans h.os, k.tape.trans h.tape, k.output.trans h.output, Nat.le_trans h.size k.size, fun i hi hr => (k.block i (Nat.lt_of_lt_of_le hi h.size) hr).trans (h.block i hi hr)⟩
theorem grownBy_refl (w : World) (row : Option Nat) : w.grownBy w row := ⟨rfl, rfl, rfl, Nat.le_refl _, fun _ _ _ => rfl⟩
theorem grownBy_setCell (w : World) (b o : Nat) (v : Value) : w.grownBy (w.setCell ⟨b, o, none⟩ v) (some b) :=
 ⟨rfl, rfl, rfl, by simp [World.setCell], fun k _ hk => heap_setCell_other w ⟨b, o, none⟩ k v (fun e => hk (by simp [e]))⟩
theorem sets_grown : ∀ (vs : List Value) (w : World) (b o : Nat), w.grownBy (sets w b o vs) (some b)
 | [], w, _, _ => grownBy_refl w _
 | v :: vs, w, b, o => grownBy_trans (grownBy_setCell w b o v) (sets_grown vs _ b (o + 1))
theorem grownBy_of_below {w w' : World} (h : Below w.heap.size w w') (row : Option Nat) : w.grownBy w' row := ⟨h.os, h.tape, h.output, h.size, fun k hk _ => h.block k hk⟩
theorem below_of_grown {w w' : World} {B b : Nat} (h : w.grownBy w' (some b)) (hb : B ≤ b) (hw : B ≤ w.heap.size) : Below B w w' :=
 ⟨h.os, h.tape, h.output, h.size, fun k hk => h.block k (by omega) (by intro e; cases e; omega)⟩
def Filling (w : World) (b e K n : Nat) (done : List Value) : Prop :=
 ∃ cur : Array Value, w.heap[b]? = some (.cells cur e (0, 0)) ∧ cur.size = n * K ∧ cur.toList.take done.length = done
theorem Filling.made (w : World) (z : Array Value) (e K n : Nat) : Filling (w.alloc (.cells (madeCells z (n * K)) e)) w.heap.size e K n [] :=
 ⟨_, heap_alloc_new w _, size_madeCells _ _, by simp⟩
theorem Filling.lt {w : World} {b e K n : Nat} {done : List Value} (h : Filling w b e K n done) : b < w.heap.size := by
 obtain ⟨cur, h1, _⟩ := h;exact (Array.getElem?_eq_some_iff.1 h1).1
theorem Filling.below {w w' : World} {b e K n : Nat} {done : List Value} (h : Filling w b e K n done) (hb : Below w.heap.size w w') : Filling w' b e K n done := by
 have hlt := h.lt;obtain ⟨cur, h1, h2, h3⟩ := h;exact ⟨cur, (hb.block b hlt).trans h1, h2, h3⟩
theorem Filling.free {w : World} {b e K n : Nat} {done : List Value} (h : Filling w b e K n done) (j : Nat) : w.frozen? ⟨b, j, none⟩ = false := by
 obtain ⟨cur, h1, _⟩ := h;exact frozen_of_row w b j cur e h1
theorem Filling.cell {w : World} {b e K n : Nat} {done : List Value} (h : Filling w b e K n done) (j : Nat) (hj : j < n * K) : ∃ v, w.cell? ⟨b, j, none⟩ = some v := by
 obtain ⟨cur, h1, h2, _⟩ := h;rw [cell_of_row w b j cur e (0, 0) h1];exact ⟨cur[j]'(by omega), by simp⟩
theorem Filling.stores {w : World} {b e K n : Nat} {done : List Value} (h : Filling w b e K n done) (vs : List Value) (o : Nat) (ho : o = done.length) (hfit : done.length + vs.length ≤ n * K) : Filling (sets w b o vs) b e K n (done ++ vs) := by
 obtain ⟨cur, h1, h2, h3⟩ := h;subst ho;refine ⟨setL cur done.length vs, heap_sets vs w b _ cur e h1, by rw [size_setL]; exact h2, ?_⟩;rw [List.length_append, take_setL vs cur _ (by omega), h3]
theorem Filling.owns {w : World} {b e K n base : Nat} {done : List Value} (h : Filling w b e K n done) (hd : done.length = n * K) (hb : base ≤ b) (hn : n ≤ maxLen) : w.ownsRow base e K (.slice (some ⟨b, 0, none⟩) n n) n done := by
 obtain ⟨cur, h1, h2, h3⟩ := h;exact ⟨hd, .inr ⟨b, n, cur, rfl, hb, h1, Nat.le_refl _, hn, h2, by rw [← hd]; exact h3⟩⟩
section
variable {α : Type}
theorem length_flatMap_const {enc : α → List Value} {K : Nat} (hk : ∀ x, (enc x).length = K) : ∀ xs : List α, (xs.flatMap enc).length = xs.length * K
 | [] => by simp
 | x :: xs => by rw [List.flatMap_cons, List.length_append, length_flatMap_const hk xs, hk, List.length_cons, Nat.succ_mul, Nat.add_comm]
theorem getElem_flatMap {enc : α → List Value} {K : Nat} (hk : ∀ x, (enc x).length = K) : ∀ (xs : List α) (i j : Nat) (x : α), xs[i]? = some x → j < K → (xs.flatMap enc)[i * K + j]? = (enc x)[j]?
 | [], i, j, x, h, _ => by simp at h
 | y :: xs, 0, j, x, h, hj => by
  simp at h;subst h;rw [List.flatMap_cons, Nat.zero_mul, Nat.zero_add, List.getElem?_append_left (by rw [hk]; exact hj)]
 | y :: xs, i + 1, j, x, h, hj => by
  rw [List.flatMap_cons, List.getElem?_append_right (by rw [hk, Nat.succ_mul]; omega), hk, show (i + 1) * K + j - K = i * K + j by rw [Nat.succ_mul]; omega];exact getElem_flatMap hk xs i j x (by simpa using h) hj
theorem reads_of_owns {w : World} {base e K : Nat} {v : Value} {enc : α → List Value} {xs : List α} (hk : ∀ x, (enc x).length = K) (h : w.ownsRow base e K v xs.length (xs.flatMap enc)) :
 ∃ a cap, v = .slice a xs.length cap ∧ Reads w a K enc xs := by
 rcases h.2 with ⟨rfl, h0⟩ | ⟨g, cap, cur, rfl, _, hg, _, _, _, _⟩
 ·have : xs = [] := List.eq_nil_of_length_eq_zero h0;subst this;exact ⟨none, 0, rfl, .inl rfl⟩
 ·refine ⟨some ⟨g, 0, none⟩, cap, rfl, .inr ⟨g, 0, rfl, (Array.getElem?_eq_some_iff.1 hg).1, fun i x hx j u hu => ?_⟩⟩;have hj : j < K := by rw [← hk x]; exact (List.getElem?_eq_some_iff.1 hu).1
  have hi := lt_of_some hx;have := h.cells (g := g) rfl (i * K + j) u (by rw [getElem_flatMap hk xs i j x hx hj]; exact hu);rw [add_none] at this;exact this
theorem reads_of_owns' {w : World} {base e K : Nat} {v : Value} {enc : α → List Value} {xs : List α} (hk : ∀ x, (enc x).length = K) (h : w.ownsRow base e K v xs.length (xs.flatMap enc)) :
 ∃ a cap, v = .slice a xs.length cap ∧ Reads w a K enc xs ∧ xs.length ≤ cap ∧ cap ≤ maxLen := by
 obtain ⟨a, cap, rfl, hr⟩ := reads_of_owns hk h;refine ⟨a, cap, rfl, hr, ?_⟩;rcases h.2 with ⟨h1, h0⟩ | ⟨g, cap', cur, h1, _, _, h4, h5, _⟩
 ·simp only [Value.slice.injEq] at h1;obtain ⟨_, _, h3⟩ := h1;exact ⟨by omega, by rw [h3]; exact Nat.zero_le _⟩
 ·simp only [Value.slice.injEq] at h1;obtain ⟨_, _, rfl⟩ := h1;exact ⟨h4, h5⟩
theorem Reads.take {w : World} {a : Option Addr} {k : Nat} {enc : α → List Value} {xs : List α} (h : Reads w a k enc xs) (n : Nat) : Reads w a k enc (xs.take n) := by
 rcases h with rfl | ⟨b, off, h1, h2, h3⟩
 ·exact .inl (by simp)
 ·refine .inr ⟨b, off, h1, h2, fun i x hx j v hv => h3 i x ?_ j v hv⟩;rw [List.getElem?_take] at hx;split at hx
  ·exact hx
  ·cases hx
theorem ownsRow_shape {w : World} {base e K n : Nat} {v : Value} {cells : List Value} (h : w.ownsRow base e K v n cells) : ∃ a cap, v = .slice a n cap := by
 rcases h.2 with ⟨rfl, rfl⟩ | ⟨g, cap, cur, rfl, _⟩
 ·exact ⟨none, 0, rfl⟩
 ·exact ⟨_, cap, rfl⟩
theorem ownsRow_below {w w' : World} {base e K n : Nat} {v : Value} {cells : List Value} (h : w.ownsRow base e K v n cells) (hb : Below w.heap.size w w') : w'.ownsRow base e K v n cells :=
 h.kept (grownBy_of_below hb none) (by cases v.ownBlock <;> simp)
theorem ownsRow_base {w : World} {base base' e K n : Nat} {v : Value} {cells : List Value} (h : w.ownsRow base e K v n cells) (hb : base' ≤ base) : w.ownsRow base' e K v n cells := by
 refine ⟨h.1, ?_⟩;rcases h.2 with h2 | ⟨g, cap, cur, h3, h4, r⟩
 ·exact .inl h2
 ·exact .inr ⟨g, cap, cur, h3, by omega, r⟩
end
theorem encS_len (x : ByteArray) : (encS x).length = 1 := rfl
theorem encC_len (x : ByteArray × ByteArray) : (encC x).length = 2 := rfl
theorem encA_len (x : Ans) : (encA x).length = 3 := rfl
theorem encStp_len (x : Stp) : (encStp x).length = 7 := rfl
section
variable {P : Program}
theorem run_copyK (w : World) (dT sT ty elem : TypeId) (g o dLen dCap : Nat) (a : Addr) (sLen sCap K m : Nat) (cur : Array Value) (t : TypeId) (cs : List Value)
 (hu : P.underlying dT = some (.slice elem)) (hs : (P.info? elem).map (·.size) = some K)
 (hg : w.heap[g]? = some (.cells cur t (0, 0))) (hm : m = Nat.min sLen dLen) (hn : cs.length = m * K)
 (hsrc : ∀ j v, cs[j]? = some v → w.cell? (a.add j) = some v) (hfit : o + cs.length ≤ cur.size) (h1 : ∀ v ∈ cs, v.oneCell' = true) :
 (Builtin.copy_ #[dT, sT] ty #[.slice (some ⟨g, o, none⟩) dLen dCap, .slice (some a) sLen sCap]).run P w =
  .ok (goInt m) (w.setRow g (cur.toList.take o ++ cs ++ cur.toList.drop (o + cs.length)).toArray) := by
 have hl := run_loadCells_list (P := P) w a cs hsrc;have hst := run_storeCells_at P g o t cs 0 cur w hg (by simpa using hfit) h1;cases hq : P.info? elem with
 | none => simp [hq] at hs
 | some i =>
  have hi : i.size = K := by simpa [hq] using hs
  simp [Builtin.copy_, run_underlying hu, Builtin.lenOf, Builtin.firstCells, sizeOf, typeInfo, hq, hi, ← hm, ← hn, hl, hst]
theorem zeroCells_toList (zs : Array Value) (n : Nat) : (Builtin.zeroCells zs n).size = n * zs.size := by simp [Builtin.zeroCells]
theorem run_clearK (w : World) (t e ty : TypeId) (z : Value) (ht : P.underlying t = some (.slice e)) (hv : ∀ w, (zeroValue e).run P w = .ok z w)
 (g o n c K : Nat) (hz : z.cells.size = K) (h1 : ∀ v ∈ (Builtin.zeroCells z.cells n).toList, v.oneCell' = true) (cur : Array Value) (T : TypeId) (hg : w.heap[g]? = some (.cells cur T (0, 0))) (hfit : o + n * K ≤ cur.size) :
 (Builtin.clear_ #[t] ty #[.slice (some ⟨g, o, none⟩) n c]).run P w = .ok (.tuple #[]) (w.setRow g (cur.toList.take o ++ (Builtin.zeroCells z.cells n).toList ++ cur.toList.drop (o + n * K)).toArray) := by
 have hzl : (Builtin.zeroCells z.cells n).toList.length = n * K := by rw [Array.length_toList, zeroCells_toList, hz]
 have hst := run_storeCells_at P g o T (Builtin.zeroCells z.cells n).toList 0 cur w hg (by rw [hzl]; simpa using hfit) h1;rw [hzl] at hst;simp only [Nat.add_zero] at hst;cases n with
 | zero =>
  have h0 : (Builtin.zeroCells z.cells 0).toList = [] := List.eq_nil_of_length_eq_zero (by rw [hzl]; simp);rw [h0];simp only [Nat.zero_mul, Nat.add_zero, List.append_nil, List.take_append_drop, Array.toArray_toList];rw [setRow_self w g cur T (0, 0) hg];simp [Builtin.clear_, run_underlying ht]
 | succ m => simp [Builtin.clear_, run_underlying ht, hv, hst]
def OwnOr (w : World) (v v' : Value) : Prop := v'.ownBlock = v.ownBlock ∨ ∀ k, v'.ownBlock = some k → w.heap.size ≤ k
theorem OwnOr.from {w W : World} {v v' : Value} (h : OwnOr W v v') (hs : w.heap.size ≤ W.heap.size) : OwnOr w v v' := h.imp id fun h k hk => Nat.le_trans hs (h k hk)
theorem run_append_own2 (w : World) (base : Nat) (t ty e : TypeId) (i : TypeInfo) (z : Value) (size bytes : Nat) (ht : P.underlying t = some (.slice e)) (hi : P.info? e = some i) (hz : i.zero = some z)
 (hsize : i.size = size) (hby : i.bytes = bytes) (hzs : z.cells.size = size) (hsz : 0 < size)
 (v : Value) (n : Nat) (xs : List Value) (hown : w.ownsRow base e size v n xs)
 (a : Addr) (m c : Nat) (news : List Value) (hl : news.length = m * size) (hnews : ∀ j u, news[j]? = some u → w.cell? (a.add j) = some u) (h1 : ∀ u ∈ news, u.oneCell' = true)
 (h63 : n + m ≤ maxLen) (hbytes : (n + m) * bytes ≤ 140737488355328) (hbase : base ≤ w.heap.size) :
 ∃ v' w', (Builtin.append_ #[t, t] ty #[v, .slice (some a) m c]).run P w = .ok v' w' ∧ w'.ownsRow base e size v' (n + m) (xs ++ news) ∧ w.grownBy w' v.ownBlock ∧ OwnOr w v v' := by
 obtain ⟨v', w', hr, h2, h3, h4⟩ := run_append_own (P := P) w base t ty e i z size bytes ht hi hz hsize hby hzs hsz v n xs hown a m c news hl hnews h1 h63 hbytes hbase;refine ⟨v', w', hr, h2, h3, ?_⟩;have hsmall : n + m ≤ 9223372036854775807 := by simp only [maxLen] at h63; omega
 subst hsize;subst hby;rcases hown.2 with ⟨rfl, rfl⟩ | ⟨g, cap, cur, rfl, hbg, hg, hnc, hcm, hcs, htake⟩
 ·by_cases hm : m = 0
  ·exact .inl (by rw [h4.2 ⟨rfl, hm⟩])
  ·have hr2 := run_append_nil (P := P) w t ty e i z ht hi hz a m c news hl hnews (by omega) (by omega) (by have hb := hbytes; simp only [Nat.zero_add] at hb; omega);rw [hr] at hr2;cases hr2;exact .inr fun k hk => by simp [Value.ownBlock] at hk; omega
 ·by_cases hroom : n + m ≤ cap
  ·have hfit : n * i.size + news.length ≤ cur.size := by rw [hl, hcs, ← Nat.add_mul]; exact Nat.mul_le_mul_right _ hroom
   have hr2 := run_append_room (P := P) w t ty e i ht hi g n cap cur hg a m c news hl hnews h1 hroom hfit;rw [hr] at hr2;cases hr2;exact .inl rfl
  ·have holds : ∀ j u, xs[j]? = some u → w.cell? ((⟨g, 0, none⟩ : Addr).add j) = some u := hown.cells (g := g) rfl;have hr2 := run_append_grow (P := P) w t ty e i z ht hi hz ⟨g, 0, none⟩ n cap xs hown.1 holds a m c news hl hnews (by omega) (by omega) (growslice_fits (by omega) hbytes);rw [hr] at hr2;cases hr2;exact .inr fun k hk => by simp [Value.ownBlock] at hk; omega
theorem wpList_append_own2 (w : World) {ops : Array Oper} {rest : List Oper} {o : Oper} {a : Act} {Q : Exit → Act → World → Prop} (hgd : o.guard = none) (s x : Operand) (t : TypeId)
 (ho : o.op = .call { callee := .builtin .append, args := #[s, x], argTypes := #[t, t] })
 (base : Nat) (e : TypeId) (i : TypeInfo) (z : Value) (size bytes : Nat) (ht : P.underlying t = some (.slice e)) (hi : P.info? e = some i) (hz : i.zero = some z)
 (hsize : i.size = size) (hby : i.bytes = bytes) (hzs : z.cells.size = size) (hsz : 0 < size)
 (v : Value) (n : Nat) (xs : List Value) (hs : a.eval s = v) (hown : w.ownsRow base e size v n xs)
 (ad : Addr) (m c : Nat) (news : List Value) (hx : a.eval x = .slice (some ad) m c) (hl : news.length = m * size) (hnews : ∀ j u, news[j]? = some u → w.cell? (ad.add j) = some u) (h1 : ∀ u ∈ news, u.oneCell' = true)
 (h63 : n + m ≤ maxLen) (hbytes : (n + m) * bytes ≤ 140737488355328) (hbase : base ≤ w.heap.size)
 (h : ∀ v' w', w'.ownsRow base e size v' (n + m) (xs ++ news) → w.grownBy w' v.ownBlock → OwnOr w v v' → wpList P ops Q rest (a.put o.dst v') w') : wpList P ops Q (o :: rest) a w := by
 obtain ⟨v', w', hr, h2, h3, h4⟩ := run_append_own2 (P := P) w base t o.type e i z size bytes ht hi hz hsize hby hzs hsz v n xs hown ad m c news hl hnews h1 h63 hbytes hbase;refine wpList_plain hgd fun K hK => ?_;unfold Oper.wp execOp;simp only [ho, resolve, invoke, builtin, Sem.run_bind, Sem.run_pure, Result.andThen_ok, List.map_toArray, List.map_cons, List.map_nil, hs, hx, hr];exact hK _ _ (h v' w' h2 h3 h4)
theorem step_append_own2 (w : World) {ops : Array Oper} {o : Oper} {a : Act} {K : Act → World → Prop} {Q : Exit → Act → World → Prop} {E : Prop} (hgd : o.guard = none) (s x : Operand) (t : TypeId)
 (ho : o.op = .call { callee := .builtin .append, args := #[s, x], argTypes := #[t, t] })
 (base : Nat) (e : TypeId) (i : TypeInfo) (z : Value) (size bytes : Nat) (ht : P.underlying t = some (.slice e)) (hi : P.info? e = some i) (hz : i.zero = some z)
 (hsize : i.size = size) (hby : i.bytes = bytes) (hzs : z.cells.size = size) (hsz : 0 < size)
 (v : Value) (n : Nat) (xs : List Value) (hs : a.eval s = v) (hown : w.ownsRow base e size v n xs)
 (ad : Addr) (m c : Nat) (news : List Value) (hx : a.eval x = .slice (some ad) m c) (hl : news.length = m * size) (hnews : ∀ j u, news[j]? = some u → w.cell? (ad.add j) = some u) (h1 : ∀ u ∈ news, u.oneCell' = true)
 (h63 : n + m ≤ maxLen) (hbytes : (n + m) * bytes ≤ 140737488355328) (hbase : base ≤ w.heap.size)
 (h : ∀ v' w', w'.ownsRow base e size v' (n + m) (xs ++ news) → w.grownBy w' v.ownBlock → OwnOr w v v' → K (a.put o.dst v') w') :
 if Region.wanted o (yielded ops a.tmps) = true then Oper.wp P o a w K Q else E := by
 have hw : Region.wanted o (yielded ops a.tmps) = true := by simp [Region.wanted, hgd]
 rw [if_pos hw];obtain ⟨v', w', hr, h2, h3, h4⟩ := run_append_own2 (P := P) w base t o.type e i z size bytes ht hi hz hsize hby hzs hsz v n xs hown ad m c news hl hnews h1 h63 hbytes hbase;unfold Oper.wp execOp;simp only [ho, resolve, invoke, builtin, Sem.run_bind, Sem.run_pure, Result.andThen_ok, List.map_toArray, List.map_cons, List.map_nil, hs, hx, hr];exact h v' w' h2 h3 h4
theorem run_append_nil2 (w : World) (base : Nat) (t ty e : TypeId) (i : TypeInfo) (size : Nat) (ht : P.underlying t = some (.slice e)) (hi : P.info? e = some i)
 (v : Value) (n : Nat) (xs : List Value) (hown : w.ownsRow base e size v n xs) (c : Nat) : (Builtin.append_ #[t, t] ty #[v, .slice none 0 c]).run P w = .ok v w := by
 rcases hown.2 with ⟨rfl, rfl⟩ | ⟨g, cap, cur, rfl, _, _, hnc, _⟩
 ·simp [Builtin.append_, run_underlying ht, sizeOf, typeInfo, hi, Builtin.lenOf, Builtin.firstCells]
 ·simp [Builtin.append_, run_underlying ht, sizeOf, typeInfo, hi, Builtin.lenOf, Builtin.firstCells, hnc, storeCells]
theorem run_append_reads {α : Type} {enc : α → List Value} (w : World) (base : Nat) (t ty e : TypeId) (i : TypeInfo) (z : Value) (size bytes : Nat) (ht : P.underlying t = some (.slice e)) (hi : P.info? e = some i) (hz : i.zero = some z)
 (hsize : i.size = size) (hby : i.bytes = bytes) (hzs : z.cells.size = size) (hsz : 0 < size) (hk : ∀ x, (enc x).length = size) (h1 : ∀ x, ∀ u ∈ enc x, u.oneCell' = true)
 (v : Value) (n : Nat) (xs : List Value) (hown : w.ownsRow base e size v n xs)
 (A : Option Addr) (c : Nat) (ys : List α) (hr : Reads w A size enc ys)
 (h63 : n + ys.length ≤ maxLen) (hbytes : (n + ys.length) * bytes ≤ 140737488355328) (hbase : base ≤ w.heap.size) :
 ∃ v' w', (Builtin.append_ #[t, t] ty #[v, .slice A ys.length c]).run P w = .ok v' w' ∧ w'.ownsRow base e size v' (n + ys.length) (xs ++ ys.flatMap enc) ∧ w.grownBy w' v.ownBlock ∧ OwnOr w v v' := by
 cases A with
 | none =>
  have hy : ys = [] := by
   rcases hr with h | ⟨_, _, h, _⟩
   ·exact h
   ·cases h
  subst hy;exact ⟨v, w, run_append_nil2 w base t ty e i size ht hi v n xs hown c, by simpa using hown, grownBy_refl _ _, .inl rfl⟩
 | some ad =>
  refine run_append_own2 w base t ty e i z size bytes ht hi hz hsize hby hzs hsz v n xs hown ad ys.length c (ys.flatMap enc) (length_flatMap_const hk ys) (fun j u hu => ?_) (fun u hu => ?_) h63 hbytes hbase
  ·rcases hr with rfl | ⟨b, off, e', _, h3⟩
   ·simp at hu
   ·cases e';have hj : j < ys.length * size := by
     have := (List.getElem?_eq_some_iff.1 hu).1
     rwa [length_flatMap_const hk] at this
    obtain ⟨x, hx⟩ := some_of_lt ((Nat.div_lt_iff_lt_mul hsz).2 hj);have hd : j / size * size + j % size = j := by rw [Nat.mul_comm]; exact Nat.div_add_mod j size
    have h4 := getElem_flatMap hk ys (j / size) (j % size) x hx (Nat.mod_lt _ hsz);rw [hd, hu] at h4;have h5 := h3 (j / size) x hx (j % size) u h4.symm;rw [hd] at h5;rw [add_none];exact h5
  ·obtain ⟨x, _, hx⟩ := List.mem_flatMap.1 hu;exact h1 x u hx
theorem wpList_append_reads {α : Type} {enc : α → List Value} (w : World) {ops : Array Oper} {rest : List Oper} {o : Oper} {a : Act} {Q : Exit → Act → World → Prop} (hgd : o.guard = none) (s x : Operand) (t : TypeId)
 (ho : o.op = .call { callee := .builtin .append, args := #[s, x], argTypes := #[t, t] })
 (base : Nat) (e : TypeId) (i : TypeInfo) (z : Value) (size bytes : Nat) (ht : P.underlying t = some (.slice e)) (hi : P.info? e = some i) (hz : i.zero = some z)
 (hsize : i.size = size) (hby : i.bytes = bytes) (hzs : z.cells.size = size) (hsz : 0 < size) (hk : ∀ x, (enc x).length = size) (h1 : ∀ x, ∀ u ∈ enc x, u.oneCell' = true)
 (v : Value) (n : Nat) (xs : List Value) (hs : a.eval s = v) (hown : w.ownsRow base e size v n xs)
 (A : Option Addr) (m c : Nat) (ys : List α) (hx : a.eval x = .slice A m c) (hm : m = ys.length) (hr : Reads w A size enc ys)
 (h63 : n + ys.length ≤ maxLen) (hbytes : (n + ys.length) * bytes ≤ 140737488355328) (hbase : base ≤ w.heap.size)
 (h : ∀ v' w', w'.ownsRow base e size v' (n + ys.length) (xs ++ ys.flatMap enc) → w.grownBy w' v.ownBlock → OwnOr w v v' → wpList P ops Q rest (a.put o.dst v') w') : wpList P ops Q (o :: rest) a w := by
 subst hm;obtain ⟨v', w', hrun, h2, h3, h4⟩ := run_append_reads (P := P) w base t o.type e i z size bytes ht hi hz hsize hby hzs hsz hk h1 v n xs hown A c ys hr h63 hbytes hbase;refine wpList_plain hgd fun K hK => ?_;unfold Oper.wp execOp;simp only [ho, resolve, invoke, builtin, Sem.run_bind, Sem.run_pure, Result.andThen_ok, List.map_toArray, List.map_cons, List.map_nil, hs, hx, hrun];exact hK _ _ (h v' w' h2 h3 h4)
end
theorem take_flatMap_const {α : Type} {enc : α → List Value} {K : Nat} (hk : ∀ x, (enc x).length = K) (xs : List α) (k : Nat) (h : k ≤ xs.length) : (xs.flatMap enc).take (k * K) = (xs.take k).flatMap enc := by
 have hl : ((xs.take k).flatMap enc).length = k * K := by rw [length_flatMap_const hk, List.length_take, Nat.min_eq_left h]
 conv => lhs; rw [← List.take_append_drop k xs, List.flatMap_append, ← hl, List.take_left]
theorem encS_one (x : ByteArray) : ∀ u ∈ encS x, u.oneCell' = true := fun u hu => by simp [encS] at hu; subst hu; rfl
theorem encC_one (x : ByteArray × ByteArray) : ∀ u ∈ encC x, u.oneCell' = true := fun u hu => by simp [encC] at hu; rcases hu with rfl | rfl <;> rfl
def OwnStep (T K base : Nat) (v : Value) (n : Nat) (cells : List Value) (w : World) (e : Ending) (w' : World) : Prop :=
 ∃ v', e = .returned v' ∧ w'.ownsRow base T K v' n cells ∧ w.grownBy w' v.ownBlock ∧ OwnOr w v v'
theorem OwnStep.after {T K base n : Nat} {v : Value} {cells : List Value} {w W w' : World} {e : Ending} (hb : Below w.heap.size w W) (h : OwnStep T K base v n cells W e w') : OwnStep T K base v n cells w e w' := by
 obtain ⟨v', rfl, h1, h2, h3⟩ := h;exact ⟨v', rfl, h1, grownBy_trans (grownBy_of_below hb _) h2, h3.imp id fun h k hk => Nat.le_trans hb.size (h k hk)⟩
theorem OwnStep.stay {T K base n : Nat} {v : Value} {cells : List Value} {w w' : World} (ho : w.ownsRow base T K v n cells) (hb : Below w.heap.size w w') : OwnStep T K base v n cells w (.returned v) w' :=
 ⟨v, rfl, ownsRow_below ho hb, grownBy_of_below hb _, .inl rfl⟩
theorem OwnStep.next {T K base n : Nat} {v v2 : Value} {cells : List Value} {w W W2 w' : World} {e : Ending} (h1 : w.grownBy W v.ownBlock) (or1 : OwnOr w v v2) (hb : Below W.heap.size W W2) (h : OwnStep T K base v2 n cells W2 e w') : OwnStep T K base v n cells w e w' := by
 obtain ⟨v', rfl, o, g, or2⟩ := h;refine ⟨v', rfl, o, ⟨g.os.trans (hb.os.trans h1.os), g.tape.trans (hb.tape.trans h1.tape), g.output.trans (hb.output.trans h1.output), Nat.le_trans h1.size (Nat.le_trans hb.size g.size), fun k hk hne => ?_⟩, ?_⟩
 ·have hk1 := Nat.lt_of_lt_of_le hk h1.size;refine (g.block k (Nat.lt_of_lt_of_le hk1 hb.size) (fun e => ?_)).trans ((hb.block k hk1).trans (h1.block k hk hne));rcases or1 with r | r
  ·exact hne (e.trans r)
  ·have := r k e.symm;omega
 ·rcases or2 with r | r
  ·rcases or1 with q | q
   ·exact .inl (r.trans q)
   ·exact .inr (fun k hk => q k (r ▸ hk))
  ·exact .inr (fun k hk => Nat.le_trans (Nat.le_trans h1.size hb.size) (r k hk))
theorem box_news {W : World} {b : Nat} {xs : List Value} (h : Box W b xs) : ∀ j u, xs[j]? = some u → W.cell? ((⟨b, 0, none⟩ : Addr).add j) = some u := fun j u hu => by
 rw [add_none, Nat.zero_add]; exact h.cell j u hu
theorem OwnStep.fresh {T K n n' : Nat} {v : Value} {cells cells' : List Value} {w W w' : World} {e : Ending} (hb : Below w.heap.size w W) (ho : W.ownsRow w.heap.size T K v n cells) (h : OwnStep T K w.heap.size v n' cells' W e w') : Fresh T K cells' n' w e w' := by
 obtain ⟨v', rfl, h1, h2, _⟩ := h;refine ⟨v', rfl, h1, ?_⟩;rcases ho.2 with ⟨rfl, _⟩ | ⟨g, cap, cur, rfl, hge, _⟩
 ·exact hb.trans ⟨h2.os, h2.tape, h2.output, h2.size, fun k hk => h2.block k (Nat.lt_of_lt_of_le hk hb.size) (by simp [Value.ownBlock])⟩
 ·exact hb.trans (below_of_grown h2 hge hb.size)
theorem grownBy_setRow (w : World) (g : Nat) (cs : Array Value) : w.grownBy (w.setRow g cs) (some g) :=
 ⟨rfl, rfl, rfl, by simp [World.setRow], fun k _ hk => setRow_other w g k cs (fun e => hk (by rw [e]))⟩
theorem grownBy_drew (w : World) (row : Option Nat) : w.grownBy w.drew row := ⟨rfl, rfl, rfl, Nat.le_refl _, fun _ _ _ => rfl⟩
end
section
open Go.RowKit
attribute [local go_sem ↓] Go.wp_at_zero Go.wp_at_succ
def idxI (n i : Nat) : Int := if i < n then (i : Int) else -1
theorem idxI_lt {n i : Nat} (h : i < n) : idxI n i = (i : Int) := by simp [idxI, h]
theorem idxI_ge {n i : Nat} (h : n ≤ i) : idxI n i = -1 := by simp [idxI, Nat.not_lt.2 h]
section
variable {α : Type}
def noneUp (p : α → Bool) (xs : List α) (k : Nat) : Prop := ∀ j y, j < k → xs[j]? = some y → p y = false
theorem noneUp_zero (p : α → Bool) (xs : List α) : noneUp p xs 0 := fun _ _ h => absurd h (Nat.not_lt_zero _)
theorem noneUp_succ {p : α → Bool} {xs : List α} {k : Nat} {x : α} (h : noneUp p xs k) (hx : xs[k]? = some x) (hp : p x = false) : noneUp p xs (k + 1) := by
 intro j y hj hy;by_cases e : j = k
 ·subst e; rw [hx] at hy; cases hy; exact hp
 ·exact h j y (by omega) hy
theorem find_hit {p : α → Bool} {xs : List α} {k : Nat} {x : α} (h : noneUp p xs k) (hx : xs[k]? = some x) (hp : p x = true) : xs.findIdx p = k := by
 obtain ⟨hlt, rfl⟩ := List.getElem?_eq_some_iff.1 hx;rw [List.findIdx_eq hlt];exact ⟨hp, fun j hj => h j _ hj (List.getElem?_eq_getElem _)⟩
theorem find_miss {p : α → Bool} {xs : List α} {k : Nat} (h : noneUp p xs k) (hk : xs.length ≤ k) : xs.findIdx p = xs.length := by
 rw [List.findIdx_eq_length];intro x hx;obtain ⟨j, hj⟩ := List.mem_iff_getElem?.1 hx;have := lt_of_some hj;exact h j x (by omega) hj
theorem any_find (p : α → Bool) (xs : List α) : xs.any p = decide (xs.findIdx p < xs.length) := by
 rw [Bool.eq_iff_iff, List.any_eq_true, decide_eq_true_iff, List.findIdx_lt_length]
end
def PredB {α : Type} (g : Nat) (lb : Array Value) (enc : α → Value) (p : α → Bool) (xs : List α) (w : World) : Prop :=
 ∀ (W : World) (x : α), x ∈ xs → Below w.heap.size w W → Calls prog g (#[enc x] ++ lb) W fun e w' => e = .returned (.bool (p x)) ∧ Below W.heap.size W w'
theorem readFC {w wr : World} {a : Option Addr} {xs : List (ByteArray × ByteArray)} (hr : Reads w a 2 encC xs) (hb : Below w.heap.size w wr) {k : Nat} {x : (ByteArray × ByteArray)} (hx : xs[k]? = some x) :
 ∃ b off, a = some ⟨b, off, none⟩ ∧ wr.cell? ⟨b, off + k * 2, none⟩ = some (.string x.1) ∧ wr.cell? ⟨b, off + k * 2 + 1, none⟩ = some (.string x.2) := by
 rcases hr.below hb with rfl | ⟨b, off, h1, _, h3⟩
 ·simp at hx
 ·exact ⟨b, off, h1, by simpa [Nat.add_assoc] using h3 k x hx 0 _ rfl, by simpa [Nat.add_assoc] using h3 k x hx 1 _ rfl⟩
theorem readFS {w wr : World} {a : Option Addr} {xs : List ByteArray} (hr : Reads w a 1 encS xs) (hb : Below w.heap.size w wr) {k : Nat} {x : ByteArray} (hx : xs[k]? = some x) :
 ∃ b off, a = some ⟨b, off, none⟩ ∧ wr.cell? ⟨b, off + k, none⟩ = some (.string x) := by
 rcases hr.below hb with rfl | ⟨b, off, h1, _, h3⟩
 ·simp at hx
 ·exact ⟨b, off, h1, by simpa using h3 k x hx 0 _ rfl⟩
set_option maxRecDepth 100000 in
theorem indexFuncC_c (a : Option Addr) (cap : Nat) (xs : List (ByteArray × ByteArray)) (p : ByteArray × ByteArray → Bool) (g : Nat) (lb : Array Value) (eg : ∀ args w, (callFunc g args).run prog w = .ok (.enter g args) w) (w : World)
 (hp : PredB g lb (fun x : ByteArray × ByteArray => .agg #[.string x.1, .string x.2]) p xs w) (hlen : xs.length ≤ maxLen) (hr : Reads w a 2 encC xs) :
 Calls prog 230 #[.slice a xs.length cap, .func (.func g) #[] lb] w fun e w' => e = .returned (.int .i64 (idxI xs.length (xs.findIdx p))) ∧ Below w.heap.size w w' := by
 have HR := hid9 hr;have HP := hid9 hp;clear hr hp;unfold maxLen at hlen;go_enter func230, ntmps230;go_wp2;go_loopw [8] (fun i wr => ∃ k : Nat, k ≤ xs.length ∧ i = .int .i64 k ∧ noneUp p xs k ∧ Below w.heap.size w wr) (fun i _ => xs.length - (intOf i).toNat)
 case atStart => exact ⟨0, Nat.zero_le _, rfl, noneUp_zero _ _, bel8⟩
 case round =>
  obtain ⟨k, hk, rfl, hup, hb⟩ := hrel;by_cases hlt : k < xs.length
  ·obtain ⟨x, hx⟩ := some_of_lt hlt;obtain ⟨b, off, rfl, c0, c1⟩ := readFC HR.out hb hx;have p1 : (0 : Int) ≤ (k : Int) := by omega
   have p2 : (k : Int) < (xs.length : Int) := by omega
   have hcall := HP.out wr x (List.mem_of_getElem? hx) hb;have HX := hid9 hx;clear hx;cases hq : p x with
   | true =>
    rw [hq] at hcall;go_wp2_with (go_at_fn g; refine hcall.mono ?_; rintro e w1 ⟨rfl, hb1⟩);go_ret;exact ⟨by rw [find_hit hup HX.out hq, idxI_lt hlt]; rfl, bel9⟩
   | false =>
    rw [hq] at hcall;have hs := noneUp_succ hup HX.out hq;go_wp2_with (go_at_fn g; refine hcall.mono ?_; rintro e w1 ⟨rfl, hb1⟩);go_roundw
    case rel => exact ⟨k + 1, by omega, by go_num, hs, bel9⟩
    case measure => simp [intOf]; omega
  ·have HS := hid9 (find_miss hup (by omega));have p2 : ¬ (k : Int) < (xs.length : Int) := by omega
   go_wp2;go_ret;exact ⟨by rw [HS.out, idxI_ge (Nat.le_refl _)]; rfl, hb⟩
set_option maxRecDepth 100000 in
theorem indexFuncS_c (a : Option Addr) (cap : Nat) (xs : List ByteArray) (p : ByteArray → Bool) (g : Nat) (lb : Array Value) (eg : ∀ args w, (callFunc g args).run prog w = .ok (.enter g args) w) (w : World)
 (hp : PredB g lb (fun x : ByteArray => .string x) p xs w) (hlen : xs.length ≤ maxLen) (hr : Reads w a 1 encS xs) :
 Calls prog 224 #[.slice a xs.length cap, .func (.func g) #[] lb] w fun e w' => e = .returned (.int .i64 (idxI xs.length (xs.findIdx p))) ∧ Below w.heap.size w w' := by
 have HR := hid9 hr;have HP := hid9 hp;clear hr hp;unfold maxLen at hlen;go_enter func224, ntmps224;go_wp2;go_loopw [8] (fun i wr => ∃ k : Nat, k ≤ xs.length ∧ i = .int .i64 k ∧ noneUp p xs k ∧ Below w.heap.size w wr) (fun i _ => xs.length - (intOf i).toNat)
 case atStart => exact ⟨0, Nat.zero_le _, rfl, noneUp_zero _ _, bel8⟩
 case round =>
  obtain ⟨k, hk, rfl, hup, hb⟩ := hrel;by_cases hlt : k < xs.length
  ·obtain ⟨x, hx⟩ := some_of_lt hlt;obtain ⟨b, off, rfl, c0⟩ := readFS HR.out hb hx;have p1 : (0 : Int) ≤ (k : Int) := by omega
   have p2 : (k : Int) < (xs.length : Int) := by omega
   have hcall := HP.out wr x (List.mem_of_getElem? hx) hb;have HX := hid9 hx;clear hx;cases hq : p x with
   | true =>
    rw [hq] at hcall;go_wp2_with (go_at_fn g; refine hcall.mono ?_; rintro e w1 ⟨rfl, hb1⟩);go_ret;exact ⟨by rw [find_hit hup HX.out hq, idxI_lt hlt]; rfl, bel9⟩
   | false =>
    rw [hq] at hcall;have hs := noneUp_succ hup HX.out hq;go_wp2_with (go_at_fn g; refine hcall.mono ?_; rintro e w1 ⟨rfl, hb1⟩);go_roundw
    case rel => exact ⟨k + 1, by omega, by go_num, hs, bel9⟩
    case measure => simp [intOf]; omega
  ·have HS := hid9 (find_miss hup (by omega));have p2 : ¬ (k : Int) < (xs.length : Int) := by omega
   go_wp2;go_ret;exact ⟨by rw [HS.out, idxI_ge (Nat.le_refl _)]; rfl, hb⟩
theorem infoString : (Tryz.prog.info? 9).map (fun i => (i.zero, i.size, i.bytes)) = some (some (.string ⟨#[]⟩), 1, 16) := by kernel_rfl
set_option maxRecDepth 100000 in
theorem overlapsS_no (w : World) (vb b ob lb cb : Nat) (x : ByteArray) (cur : Array Value) (t : TypeId) (hx : Box w vb (encS x)) (hb : w.heap[b]? = some (.cells cur t (0, 0))) (h0 : cur.size ≠ 0) (hne : vb ≠ b) :
 (callFunc 242 #[.slice (some ⟨vb, 0, none⟩) 1 1, .slice (some ⟨b, ob, none⟩) lb cb]).run prog w = .ok (.value (.bool false)) w := by
 obtain ⟨hlt, TT, hT⟩ := hx;rw [run_callFunc_extern func242 (by kernel_rfl) (by kernel_rfl) (by kernel_rfl) (e := Extern.SlicesOverlaps.overlaps #[29, 29] #[4]) (by kernel_rfl),
  Lib.run_overlaps_apart w 29 4 9 underlying29 1 (fun w => by rfl) ⟨vb, 0, none⟩ ⟨b, ob, none⟩ 1 1 lb cb hne TT t 1 cur.size (by simp [World.shape?, hT, encS]) (by simp [World.shape?, hb]) h0 (by simp [World.frozen?, hT]) (by simp [World.frozen?, hT])]
 rfl
set_option maxRecDepth 100000 in
theorem insertS_c (v : Value) (base i : Nat) (xs : List ByteArray) (x : ByteArray) (vb : Nat) (w : World) (hlen : xs.length ≤ 2199023255552) (ho : w.ownsRow base 9 1 v xs.length (xs.flatMap encS)) (hi : i ≤ xs.length)
 (hx : Box w vb (encS x)) (hne : ∀ k, v.ownBlock = some k → k ≠ vb) (hbase : base ≤ w.heap.size) :
 Calls prog 226 #[v, .int .i64 i, .slice (some ⟨vb, 0, none⟩) 1 1] w (OwnStep 9 1 base v (xs.length + 1) ((xs.take i ++ x :: xs.drop i).flatMap encS) w) := by
 obtain ⟨i0, hinf, hzz⟩ := Option.map_eq_some_iff.1 infoString;simp only [Prod.mk.injEq] at hzz;have HI := hid9 hinf;have HZ := hid9 hzz;have hsz : (Tryz.prog.info? 9).map (·.size) = some 1 := by rw [hinf]; simp [hzz.2.1]
 clear hinf hzz;have HXN := hid9 (show ∀ (W : World), Below w.heap.size w W → ∀ j u, (encS x)[j]? = some u → W.cell? ((⟨vb, 0, none⟩ : Addr).add j) = some u from fun W hW j u hu => by
  rw [add_none, Nat.zero_add]; exact (hx.below hW).cell j u hu)
 have HX1 := hid9 (show ∀ u ∈ encS x, u.oneCell' = true from fun u hu => by simp [encS] at hu; first | (subst hu; rfl) | (rcases hu with rfl | rfl <;> rfl));have HC1 := hid9 (show ∀ u ∈ xs.flatMap encS, u.oneCell' = true from fun u hu => by
  obtain ⟨y, _, hy⟩ := List.mem_flatMap.1 hu;simp [encS] at hy; first | (subst hy; rfl) | (rcases hy with rfl | rfl <;> rfl))
 have HFL := hid9 (length_flatMap_const encS_len xs);have HXL := hid9 (show (encS x).length = 1 * 1 from rfl);have HTgt := hid9 (show (xs.take i ++ x :: xs.drop i).flatMap encS = (xs.flatMap encS).take (i * 1) ++ encS x ++ (xs.flatMap encS).drop (i * 1) by
  have e1 : (xs.flatMap encS).take (i * 1) = (xs.take i).flatMap encS := by
   conv => lhs; rw [← List.take_append_drop i xs, List.flatMap_append]
   rw [List.take_append_of_le_length (by rw [length_flatMap_const encS_len, List.length_take]; exact Nat.le_of_eq (by rw [Nat.min_eq_left hi]))];rw [List.take_of_length_le (by rw [length_flatMap_const encS_len, List.length_take]; exact Nat.le_of_eq (by rw [Nat.min_eq_left hi]))]
  have e2 : (xs.flatMap encS).drop (i * 1) = (xs.drop i).flatMap encS := by
   conv => lhs; rw [← List.take_append_drop i xs, List.flatMap_append]
   rw [List.drop_append_of_le_length (by rw [length_flatMap_const encS_len, List.length_take]; exact Nat.le_of_eq (by rw [Nat.min_eq_left hi]))];rw [List.drop_of_length_le (by rw [length_flatMap_const encS_len, List.length_take]; exact Nat.le_of_eq (by rw [Nat.min_eq_left hi])), List.nil_append]
  rw [e1, e2]; simp [List.flatMap_append, List.append_assoc])
 have HEnd := hid9 (show i = xs.length → (xs.take i ++ x :: xs.drop i).flatMap encS = xs.flatMap encS ++ encS x from fun e => by subst e; simp [List.flatMap_append]);obtain ⟨TT, hTT⟩ : ∃ TT, TT = (xs.take i ++ x :: xs.drop i).flatMap encS := ⟨_, rfl⟩;rw [← hTT] at HTgt HEnd ⊢;clear hTT;rcases ho.2 with ⟨hv, h0⟩ | ⟨g, cap, cur, hv, hbg, hg, hnc, hcm, hcs, htk⟩
 ·subst hv;have hi0 : i = xs.length := by omega
  have HO := hid9 ho;have HE := hid9 (HEnd.out hi0);rw [h0] at hi0;have HIz := hid9 hi0;have HL0 := hid9 h0;clear ho HEnd HTgt hi;rw [hi0];clear hi0 h0;go_enter func226, ntmps226;go_wp2_with (at_builtin; refine wpList_append_own2 _ rfl _ _ 29 rfl base 9 i0 (.string ⟨#[]⟩) 1 16 underlying29 HI.out HZ.out.1 HZ.out.2.1 HZ.out.2.2 rfl (by decide) _ _ _ rfl HO.out ⟨vb, 0, none⟩ 1 1 (encS x) rfl HXL.out (HXN.out _ (Below.refl _ _)) HX1.out ?d1 ?d2 ?d3 ?_)
  case d1 => unfold maxLen; omega
  case d2 => omega
  case d3 => omega
  intro v' w' hown hgrow hor;have H2 := hid9 (show OwnStep 9 1 base (.slice none 0 0) (xs.length + 1) TT w (.returned v') w' from ⟨v', rfl, by rw [HE.out]; exact hown, hgrow, hor⟩);clear hown hgrow hor;go_wp2;go_ret;exact H2.out
 ·subst hv;have hgv : g ≠ vb := hne g rfl;have hc63 : cap ≤ 9223372036854775807 := by unfold maxLen at hcm; exact hcm
  have HO := hid9 ho;have HG := hid9 hg;have HB := hid9 hx;have HCS := hid9 hcs;have HTK := hid9 htk;rcases Nat.lt_or_ge i xs.length with hin | hge
  ·by_cases hroom : xs.length + 1 ≤ cap
   ·
    have hov : ∀ lb cb, (callFunc 242 #[.slice (some ⟨vb, 0, none⟩) 1 1, .slice (some ⟨g, i + 1, none⟩) lb cb]).run prog w = .ok (.value (.bool false)) w := fun lb cb =>
     overlapsS_no w vb g (i + 1) lb cb x cur _ HB.out HG.out (by rw [HCS.out]; omega) (Ne.symm hgv)
    have HL := hid9 (show cur.toList.length = cap * 1 by simpa using hcs);obtain ⟨X1, hX1⟩ : ∃ X1, X1 = (xs.flatMap encS).drop (i * 1) := ⟨_, rfl⟩;have hX1l : X1.length = (xs.length - i) * 1 := by rw [hX1, List.length_drop, HFL.out]; omega
    have HXX := hid9 hX1;have hcell : ∀ j u, X1[j]? = some u → w.drew.cell? ((⟨g, i, none⟩ : Addr).add j) = some u := fun j u hu => by
     rw [HXX.out, List.getElem?_drop] at hu;have := HO.out.cells (g := g) rfl _ u hu;rw [add_none] at this ⊢;rw [show i + j = 0 + (i * 1 + j) by omega];exact this
    have hX1o : ∀ u ∈ X1, u.oneCell' = true := fun u hu => HC1.out u (by rw [HXX.out] at hu; exact List.mem_of_mem_drop hu);obtain ⟨L2, hL2⟩ : ∃ L2, L2 = (cur.toList.take (i + 1) ++ X1 ++ cur.toList.drop (i + 1 + X1.length)).toArray := ⟨_, rfl⟩;obtain ⟨W2, hW2⟩ : ∃ W2, W2 = w.drew.setRow g L2 := ⟨_, rfl⟩;have hcp1 : ∀ ty dc sc, (Builtin.copy_ #[29, 29] ty #[.slice (some ⟨g, i + 1, none⟩) (xs.length - i) dc, .slice (some ⟨g, i, none⟩) (xs.length + 1 - i) sc]).run prog w.drew = .ok (goInt (xs.length - i : Nat)) W2 := fun ty dc sc => by
     rw [hW2, hL2];exact run_copyK w.drew _ _ ty 9 g (i + 1) _ dc _ _ sc 1 (xs.length - i) cur 9 X1 underlying29 hsz HG.out (by simp only [Nat.min_def]; split <;> omega) hX1l hcell (by rw [hX1l, HCS.out]; omega) hX1o
    have hG2 : W2.heap[g]? = some (.cells L2 9 (0, 0)) := by rw [hW2]; exact setRow_heap w.drew g cur L2 _ _ HG.out
    have hgb2 : w.grownBy W2 (some g) := by rw [hW2]; exact grownBy_trans (grownBy_drew w (some g)) (grownBy_setRow w.drew g L2)
    have hvb2 : W2.heap[vb]? = w.heap[vb]? := hgb2.block vb HB.out.1 (fun e => hgv (by cases e; rfl));have hxc2 : ∀ j u, (encS x)[j]? = some u → W2.cell? ((⟨vb, 0, none⟩ : Addr).add j) = some u := fun j u hu => by
     rw [add_none, Nat.zero_add];obtain ⟨hlt, TT, hT⟩ := HB.out;exact Box.cell (w := W2) ⟨by rw [hW2]; simpa [World.setRow] using hlt, TT, by rw [hvb2]; exact hT⟩ j u hu
    have hL2s : L2.size = cap * 1 := by rw [hL2]; simp [hX1l]; omega
    obtain ⟨L3, hL3⟩ : ∃ L3, L3 = (L2.toList.take (i) ++ encS x ++ L2.toList.drop (i + (encS x).length)).toArray := ⟨_, rfl⟩;obtain ⟨W3, hW3⟩ : ∃ W3, W3 = W2.setRow g L3 := ⟨_, rfl⟩;have hcp2 : ∀ ty dc, (Builtin.copy_ #[29, 29] ty #[.slice (some ⟨g, i, none⟩) (xs.length + 1 - i) dc, .slice (some ⟨vb, 0, none⟩) 1 1]).run prog W2 = .ok (goInt (1 : Nat)) W3 := fun ty dc => by
     rw [hW3, hL3];exact run_copyK W2 _ _ ty 9 g (i) _ dc _ _ 1 1 1 L2 9 (encS x) underlying29 hsz hG2 (by simp only [Nat.min_def]; split <;> omega) HXL.out hxc2 (by rw [HXL.out, hL2s]; omega) HX1.out
    have HEND := hid9 (show OwnStep 9 1 base (.slice (some ⟨g, 0, none⟩) xs.length cap) (xs.length + 1) TT w (.returned (.slice (some ⟨g, 0, none⟩) (xs.length + 1) cap)) W3 from by
     refine ⟨_, rfl, ⟨?_, .inr ⟨g, cap, L3, rfl, hbg, by rw [hW3]; exact setRow_heap W2 g L2 L3 _ _ hG2, hroom, hcm, by rw [hL3]; simp [hL2s, HXL.out]; omega, ?_⟩⟩, by rw [hW3]; exact grownBy_trans hgb2 (grownBy_setRow W2 g L3), .inl rfl⟩
     ·rw [HTgt.out]; simp [HFL.out, HXL.out]; omega
     ·have e1 : L2.toList.take (i) = (xs.flatMap encS).take (i * 1) := by
       rw [hL2, ← HTK.out];simp only [List.append_assoc];rw [List.take_append_of_le_length (by rw [List.length_take, HL.out]; omega), List.take_take, List.take_take];congr 1;omega
      have e2 : (L2.toList.drop (i + (encS x).length)).take (X1.length) = X1 := by
       rw [hL2, HXL.out];simp only [List.append_assoc];rw [List.drop_append_of_le_length (by rw [List.length_take, HL.out]; omega), List.drop_of_length_le (by rw [List.length_take]; omega), List.nil_append, List.take_left]
      rw [HTgt.out, ← HXX.out, hL3, e1];simp only [List.append_assoc];rw [List.take_append, List.take_of_length_le (by rw [List.length_take, HFL.out]; omega)];congr 1;have e3 : ((xs.flatMap encS).take (i * 1)).length = i * 1 := by rw [List.length_take, HFL.out]; omega
      rw [e3, List.take_append, List.take_of_length_le (by rw [HXL.out]; omega)];congr 1;rw [show (xs.length + 1) * 1 - i * 1 - (encS x).length = X1.length by rw [HXL.out, hX1l]; omega];exact e2)
    clear hX1 hX1l hcell hX1o hL2 hW2 hG2 hgb2 hvb2 hxc2 hL2s hL3 hW3 HL hx hg hcs htk ho HEnd HTgt hne HXX hsz;have hw1 : IntKind.i64.wrap ((i : Int) + 1) = (i : Int) + 1 := by rw [IntKind.wrap_i64]; omega
    have hb1 : (0 : Int) ≤ (i : Int) + 1 := by omega
    have htn : ((i : Int) + 1).toNat = i + 1 := by omega
    have hb2 : ¬ (cap = i + 1) := by omega
    have hb3 : (i : Int) ≤ (xs.length : Int) + 1 := by omega
    have hb4 : ¬ (cap = i) := by omega
    have hz2 : ¬ ((i : Int) = (xs.length : Int)) := by omega
    go_enter func226, ntmps226;go_wp2_with (simp only [hov]);go_region_law (refine step_copy_at rfl _ _ 29 29 rfl _ _ (by simp [Act.eval, Act.put]) (by simp [Act.eval, Act.put]) (hcp1 _ _ _) ?_);go_wp2_with (at_builtin; refine wpList_copy_at rfl _ _ 29 29 rfl _ _ rfl rfl (hcp2 _ _) ?_);go_ret;exact HEND.out
   ·
    have hzr : Builtin.zeroCells (.string ⟨#[]⟩ : Value).cells = Builtin.zeroCells (.string ⟨#[]⟩ : Value).cells := rfl;have hold : (Builtin.firstCells i0.size i (.slice (some ⟨g, 0, none⟩) i cap)).run prog w.drew = .ok ((xs.flatMap encS).take (i * 1)).toArray w.drew := by
     rw [HZ.out.2.1];exact run_firstCells_some w.drew 1 i ⟨g, 0, none⟩ i cap ((xs.flatMap encS).take (i * 1)) (by rw [List.length_take, HFL.out]; omega) (fun j u hj => by
      rw [List.getElem?_take] at hj;split at hj
      ·exact HO.out.cells (g := g) rfl j u hj
      ·cases hj)
    obtain ⟨G, hG⟩ : ∃ G, G = grownCap w (xs.length + 1) cap 9 := ⟨_, rfl⟩;obtain ⟨ROW, hROW⟩ : ∃ ROW : Array Value, ROW = ((xs.flatMap encS).take (i * 1)).toArray ++ Builtin.zeroCells (.string ⟨#[]⟩ : Value).cells (xs.length + 1 - i) ++ Builtin.zeroCells (.string ⟨#[]⟩ : Value).cells (G - (xs.length + 1)) := ⟨_, rfl⟩;obtain ⟨W1, hW1⟩ : ∃ W1, W1 = w.drew.alloc (.cells ROW 9) := ⟨_, rfl⟩;have hgge : xs.length + 1 ≤ G := by rw [hG]; exact grownCap_ge w _ _ _
    have hgle : G ≤ maxLen := by rw [hG]; exact grownCap_le_maxLen w _ _ _ (by unfold maxLen; omega)
    have hrz : ∀ ty, (Builtin.append_ #[29, 3] ty #[.slice (some ⟨g, 0, none⟩) i cap, .int .i64 ((xs.length : Int) + 1 - (i : Int))]).run prog w =
     .ok (.slice (some ⟨w.heap.size, 0, none⟩) (xs.length + 1) G) W1 := fun ty => by
     have h := Lib.run_append_grow_zeros w 29 3 ty 9 i0 _ .i64 .i64 underlying29 underlying3 HI.out HZ.out.1 (some ⟨g, 0, none⟩) i cap _ hold (xs.length + 1 - i) (by omega) (by rw [HZ.out.2.1]; decide) (by omega) (by omega) (by rw [HZ.out.2.2]; omega) (by rw [HZ.out.2.2, show i + (xs.length + 1 - i) = xs.length + 1 by omega]; exact growslice_fits (by omega) (by omega));rw [show i + (xs.length + 1 - i) = xs.length + 1 by omega] at h;rw [show (xs.length : Int) + 1 - (i : Int) = ((xs.length + 1 - i : Nat) : Int) by omega, hW1, hROW, hG];exact h
    have hRs : ROW.size = G * 1 := by
     rw [hROW]; simp [zeroCells_toList, HFL.out, Value.cells]; omega
    have hRt : ROW.toList.take (i) = (xs.flatMap encS).take (i * 1) := by
     rw [hROW];simp only [Array.toList_append, List.append_assoc];rw [List.take_append_of_le_length (by rw [List.length_take, HFL.out]; omega), List.take_take];congr 1;omega
    have hW1g : W1.heap[w.heap.size]? = some (.cells ROW 9 (0, 0)) := by rw [hW1]; exact heap_alloc_new w.drew _
    have hW1o : ∀ k, k < w.heap.size → W1.heap[k]? = w.heap[k]? := fun k hk => by rw [hW1]; exact heap_alloc_old _ _ hk
    have hB1 : Below w.heap.size w W1 := by rw [hW1]; exact ((Below.refl _ _).drew).alloc (Nat.le_refl _) _
    have hglt : g < w.heap.size := (Array.getElem?_eq_some_iff.1 HG.out).1;have hns : w.heap.size ≠ g := by omega
    obtain ⟨L2, hL2⟩ : ∃ L2, L2 = (ROW.toList.take (i) ++ encS x ++ ROW.toList.drop (i + (encS x).length)).toArray := ⟨_, rfl⟩;obtain ⟨W2, hW2⟩ : ∃ W2, W2 = W1.setRow w.heap.size L2 := ⟨_, rfl⟩;have hcp1 : ∀ ty dc, (Builtin.copy_ #[29, 29] ty #[.slice (some ⟨w.heap.size, i, none⟩) (xs.length + 1 - i) dc, .slice (some ⟨vb, 0, none⟩) 1 1]).run prog W1 = .ok (goInt (1 : Nat)) W2 := fun ty dc => by
     rw [hW2, hL2];exact run_copyK W1 _ _ ty 9 w.heap.size (i) _ dc _ _ 1 1 1 ROW 9 (encS x) underlying29 hsz hW1g (by simp only [Nat.min_def]; split <;> omega) HXL.out (HXN.out W1 hB1) (by rw [HXL.out, hRs]; omega) HX1.out
    have hL2s : L2.size = G * 1 := by rw [hL2]; simp [hRs, HXL.out]; omega
    have hG2 : W2.heap[w.heap.size]? = some (.cells L2 9 (0, 0)) := by rw [hW2]; exact setRow_heap W1 _ ROW L2 _ _ hW1g
    have hW2o : ∀ k, k < w.heap.size → W2.heap[k]? = w.heap[k]? := fun k hk => by rw [hW2, setRow_other W1 _ k L2 (by omega), hW1o k hk]
    obtain ⟨X1, hX1⟩ : ∃ X1, X1 = (xs.flatMap encS).drop (i * 1) := ⟨_, rfl⟩;have HXX := hid9 hX1;have hX1l : X1.length = (xs.length - i) * 1 := by rw [hX1, List.length_drop, HFL.out]; omega
    have hX1o : ∀ u ∈ X1, u.oneCell' = true := fun u hu => HC1.out u (by rw [HXX.out] at hu; exact List.mem_of_mem_drop hu);have hcell : ∀ j u, X1[j]? = some u → W2.drew.cell? ((⟨g, i, none⟩ : Addr).add j) = some u := fun j u hu => by
     rw [HXX.out, List.getElem?_drop] at hu;have := HO.out.cells (g := g) rfl _ u hu;rw [add_none] at this ⊢;rw [show i + j = 0 + (i * 1 + j) by omega];rw [cell_of_row w g _ cur _ _ HG.out] at this;rw [show W2.drew.cell? ⟨g, 0 + (i * 1 + j), none⟩ = W2.cell? ⟨g, 0 + (i * 1 + j), none⟩ from rfl, cell_of_row W2 g _ cur _ _ (by rw [hW2o g hglt]; exact HG.out)];exact this
    obtain ⟨L3, hL3⟩ : ∃ L3, L3 = (L2.toList.take (i + 1) ++ X1 ++ L2.toList.drop (i + 1 + X1.length)).toArray := ⟨_, rfl⟩;obtain ⟨W3, hW3⟩ : ∃ W3, W3 = W2.drew.setRow w.heap.size L3 := ⟨_, rfl⟩;have hcp2 : ∀ ty dc sc, (Builtin.copy_ #[29, 29] ty #[.slice (some ⟨w.heap.size, i + 1, none⟩) (xs.length - i) dc, .slice (some ⟨g, i, none⟩) (xs.length - i) sc]).run prog W2.drew = .ok (goInt (xs.length - i : Nat)) W3 := fun ty dc sc => by
     rw [hW3, hL3];exact run_copyK W2.drew _ _ ty 9 w.heap.size (i + 1) _ dc _ _ sc 1 (xs.length - i) L2 9 X1 underlying29 hsz hG2 (by simp only [Nat.min_def]; split <;> omega) hX1l hcell (by rw [hX1l, hL2s]; omega) hX1o
    have HEND := hid9 (show OwnStep 9 1 base (.slice (some ⟨g, 0, none⟩) xs.length cap) (xs.length + 1) TT w (.returned (.slice (some ⟨w.heap.size, 0, none⟩) (xs.length + 1) G)) W3 from by
     refine ⟨_, rfl, ⟨?_, .inr ⟨w.heap.size, G, L3, rfl, hbase, by rw [hW3]; exact setRow_heap W2.drew _ L2 L3 _ _ hG2, hgge, hgle, by rw [hL3]; simp [hL2s, hX1l]; omega, ?_⟩⟩, ⟨by rw [hW3, hW2, hW1]; rfl, by rw [hW3, hW2, hW1]; rfl, by rw [hW3, hW2, hW1]; rfl, by rw [hW3, hW2, hW1]; simp [World.setRow], fun k hk _ => by rw [hW3, setRow_other W2.drew _ k L3 (by omega)]; exact hW2o k hk⟩, .inr fun k hk => by simp [Value.ownBlock] at hk; omega⟩
     ·rw [HTgt.out]; simp [HFL.out, HXL.out]; omega
     ·have e1 : L2.toList.take (i + 1) = (xs.flatMap encS).take (i * 1) ++ encS x := by
       rw [hL2, hRt];have e3 : ((xs.flatMap encS).take (i * 1)).length = i * 1 := by rw [List.length_take, HFL.out]; omega
       rw [List.take_append_of_le_length (by rw [List.length_append, e3, HXL.out]; omega), List.take_of_length_le (by rw [List.length_append, e3, HXL.out]; omega)]
      rw [HTgt.out, ← HXX.out, hL3, e1];have e3 : ((xs.flatMap encS).take (i * 1)).length = i * 1 := by rw [List.length_take, HFL.out]; omega
      rw [List.take_append_of_le_length (by rw [List.length_append, List.length_append, e3, HXL.out, hX1l]; omega), List.take_of_length_le (by rw [List.length_append, List.length_append, e3, HXL.out, hX1l]; omega)])
    have hGi : ¬ (G = i) := by omega
    have hGim : ¬ (G = i + 1) := by omega
    have hci : ¬ (cap = i) := by omega
    have hw1 : IntKind.i64.wrap ((i : Int) + 1) = (i : Int) + 1 := by rw [IntKind.wrap_i64]; omega
    have hb1 : (0 : Int) ≤ (i : Int) + 1 := by omega
    have htn : ((i : Int) + 1).toNat = i + 1 := by omega
    have hb3 : (i : Int) ≤ (xs.length : Int) := by omega
    have hG63 : G ≤ 9223372036854775807 := by unfold maxLen at hgle; exact hgle
    have hz3 : (cap : Int) < (xs.length : Int) + 1 := by omega
    have hz2 : ¬ ((i : Int) = (xs.length : Int)) := by omega
    clear hold hG hROW hW1 hRs hRt hW1g hW1o hB1 hL2 hW2 hL2s hG2 hW2o hX1 hX1l hX1o hcell hL3 hW3 hzr hgle hx hg hcs htk ho HEnd HTgt hne HXX hsz hcm;go_enter func226, ntmps226;go_wp2_with (first
     | (at_builtin; refine Lib.wpList_append_run _ rfl _ _ _ _ rfl _ _ rfl rfl _ _ (hrz _) ?_)
     | (at_builtin; refine wpList_copy_at rfl _ _ 29 29 rfl _ _ rfl rfl (hcp1 _ _) ?_))
    go_region_law (refine step_copy_at rfl _ _ 29 29 rfl _ _ (by simp [Act.eval, Act.put]) (by simp [Act.eval, Act.put]) (hcp2 _ _ _) ?_);go_wp2;go_ret;exact HEND.out
  ·
   obtain rfl : xs.length = i := by omega
   have HE := hid9 (HEnd.out rfl);clear ho hg hcs htk hx HEnd HTgt hne hcm;go_enter func226, ntmps226;go_wp2_with (at_builtin; refine wpList_append_own2 _ rfl _ _ 29 rfl base 9 i0 (.string ⟨#[]⟩) 1 16 underlying29 HI.out HZ.out.1 HZ.out.2.1 HZ.out.2.2 rfl (by decide) _ _ _ rfl HO.out ⟨vb, 0, none⟩ 1 1 (encS x) rfl HXL.out (HXN.out _ (Below.refl _ _)) HX1.out (by unfold maxLen; omega) (by omega) (by omega) ?_)
   all_goals
    intro v' w' hown hgrow hor;have H2 := hid9 (show OwnStep 9 1 base (.slice (some ⟨g, 0, none⟩) xs.length cap) (xs.length + 1) TT w (.returned v') w' from ⟨v', rfl, by rw [HE.out]; exact hown, hgrow, hor⟩);clear hown hgrow hor;go_wp2;go_ret;exact H2.out
end
section
open Go.RowKit
def ltB (a b : ByteArray) : Bool := Op.bytesLess a.toList b.toList
def eqB (a b : ByteArray) : Bool := a.toList == b.toList
theorem eqB_iff {a b : ByteArray} : eqB a b = true ↔ a = b := by unfold eqB; rw [beq_iff_eq]; exact toList_eq_iff
theorem eqB_false {a b : ByteArray} : eqB a b = false ↔ a ≠ b := by
 rw [← Bool.not_eq_true, eqB_iff]
theorem less_irr : ∀ x : List UInt8, Op.bytesLess x x = false
 | [] => rfl
 | a :: x => by
  have h : ¬ a < a := by rw [UInt8.lt_iff_toNat_lt]; omega
  simp [Op.bytesLess, h, less_irr x]
theorem less_trans : ∀ x y z : List UInt8, Op.bytesLess x y = true → Op.bytesLess y z = true → Op.bytesLess x z = true
 | _, [], _, h, _ => by cases ‹List UInt8› <;> simp [Op.bytesLess] at h
 | _, _ :: _, [], _, h => by simp [Op.bytesLess] at h
 | [], _ :: _, _ :: _, _, _ => rfl
 | a :: x, b :: y, c :: z, h1, h2 => by
  simp only [Op.bytesLess, Bool.or_eq_true, decide_eq_true_eq, Bool.and_eq_true, beq_iff_eq] at h1 h2 ⊢;rcases h1 with h1 | ⟨rfl, h1⟩
  ·rcases h2 with h2 | ⟨rfl, h2⟩
   ·left; rw [UInt8.lt_iff_toNat_lt] at *; omega
   ·exact .inl h1
  ·rcases h2 with h2 | ⟨rfl, h2⟩
   ·exact .inl h2
   ·exact .inr ⟨rfl, less_trans x y z h1 h2⟩
theorem less_tri : ∀ x y : List UInt8, Op.bytesLess x y = false → Op.bytesLess y x = false → x = y
 | [], [], _, _ => rfl
 | [], _ :: _, h, _ => by simp [Op.bytesLess] at h
 | _ :: _, [], _, h => by simp [Op.bytesLess] at h
 | a :: x, b :: y, h1, h2 => by
  simp only [Op.bytesLess, Bool.or_eq_false_iff, decide_eq_false_iff_not] at h1 h2;have e : a = b := by
   have u := h1.1; have v := h2.1;rw [UInt8.lt_iff_toNat_lt] at u v;exact UInt8.toNat_inj.1 (by omega)
  subst e;rw [less_tri x y (by simpa using h1.2) (by simpa using h2.2)]
theorem ltB_irr (a : ByteArray) : ltB a a = false := less_irr _
theorem ltB_trans {a b c : ByteArray} (h : ltB a b = true) (k : ltB b c = true) : ltB a c = true := less_trans _ _ _ h k
theorem ltB_asym {a b : ByteArray} (h : ltB a b = true) : ltB b a = false := by
 rw [← Bool.not_eq_true]; intro k;have := ltB_trans h k;rw [ltB_irr] at this; cases this
theorem ltB_ne {a b : ByteArray} (h : ltB a b = true) : a ≠ b := by rintro rfl; rw [ltB_irr] at h; cases h
theorem ltB_tri {a b : ByteArray} (h : ltB a b = false) (k : ltB b a = false) : a = b := toList_eq_iff.1 (less_tri _ _ h k)
theorem ltB_tri' {a b : ByteArray} (h : ltB a b = false) (k : a ≠ b) : ltB b a = true := by
 cases e : ltB b a with
 | true => rfl
 | false => exact absurd (ltB_tri h e) k
theorem gt_is (x y : List UInt8) : (!(Op.bytesLess x y || x == y)) = Op.bytesLess y x := by
 cases h : Op.bytesLess x y with
 | true =>
  cases k : Op.bytesLess y x with
  | false => rfl
  | true => have := less_trans _ _ _ h k; rw [less_irr] at this; cases this
 | false =>
  by_cases e : x = y
  ·subst e; simp [less_irr]
  ·cases k : Op.bytesLess y x with
   | true => simp [e]
   | false => exact absurd (less_tri _ _ h k) e
def geP (x y : ByteArray) : Bool := !(ltB y x)
def addAt (xs : List ByteArray) (x : ByteArray) : Nat := xs.findIdx (geP x)
def addS : List ByteArray → ByteArray → List ByteArray
 | [], x => [x]
 | y :: ys, x => if ltB y x then y :: addS ys x else if eqB y x then y :: ys else x :: y :: ys
theorem addS_is (x : ByteArray) : ∀ xs : List ByteArray, addS xs x = if (match xs[addAt xs x]? with | some y => eqB y x | none => false) then xs else xs.take (addAt xs x) ++ x :: xs.drop (addAt xs x)
 | [] => by simp [addS, addAt]
 | y :: ys => by
  have ih := addS_is x ys;unfold addS;cases h : ltB y x with
  | true =>
   have e : addAt (y :: ys) x = addAt ys x + 1 := by simp [addAt, List.findIdx_cons, geP, h]
   rw [e, if_pos rfl, ih, List.getElem?_cons_succ, List.take_succ_cons, List.drop_succ_cons];cases (match ys[addAt ys x]? with | some y => eqB y x | none => false) <;> simp
  | false =>
   have e : addAt (y :: ys) x = 0 := by simp [addAt, List.findIdx_cons, geP, h]
   rw [e];simp
theorem addS_here {xs : List ByteArray} {x y : ByteArray} {k : Nat} (hk : xs.findIdx (geP x) = k) (hy : xs[k]? = some y) (he : eqB y x = true) : addS xs x = xs := by
 rw [addS_is]; unfold addAt; rw [hk, hy]; simp [he]
theorem addS_in {xs : List ByteArray} {x y : ByteArray} {k : Nat} (hk : xs.findIdx (geP x) = k) (hy : xs[k]? = some y) (he : eqB y x = false) : addS xs x = xs.take k ++ x :: xs.drop k := by
 rw [addS_is]; unfold addAt; rw [hk, hy]; simp [he]
theorem addS_end {xs : List ByteArray} {x : ByteArray} (hk : xs.findIdx (geP x) = xs.length) : addS xs x = xs ++ [x] := by
 rw [addS_is]; unfold addAt; rw [hk, List.getElem?_eq_none (Nat.le_refl _)]; simp
theorem addS_len (xs : List ByteArray) (x : ByteArray) : (addS xs x).length ≤ xs.length + 1 := by
 rw [addS_is]; split
 ·split <;> simp <;> omega
 ·simp; omega
def gtP (key : ByteArray) (c : ByteArray × ByteArray) : Bool := ltB key c.1
def delK (xs : List (ByteArray × ByteArray)) (key : ByteArray) : List (ByteArray × ByteArray) := xs.filter (fun c => !(eqB c.1 key))
def insK (c : ByteArray × ByteArray) : List (ByteArray × ByteArray) → List (ByteArray × ByteArray)
 | [] => [c]
 | y :: ys => if ltB c.1 y.1 then c :: y :: ys else y :: insK c ys
def putV (xs : List (ByteArray × ByteArray)) (key val : ByteArray) : List (ByteArray × ByteArray) := if val.size = 0 then delK xs key else insK (key, val) (delK xs key)
theorem insK_is (c : ByteArray × ByteArray) : ∀ xs : List (ByteArray × ByteArray), insK c xs = xs.take (xs.findIdx (gtP c.1)) ++ c :: xs.drop (xs.findIdx (gtP c.1))
 | [] => by simp [insK]
 | y :: ys => by
  unfold insK;rw [insK_is c ys];cases h : ltB c.1 y.1 with
  | true => simp [List.findIdx_cons, gtP, h]
  | false => simp [List.findIdx_cons, gtP, h]
theorem insK_len (c : ByteArray × ByteArray) (xs : List (ByteArray × ByteArray)) : (insK c xs).length = xs.length + 1 := by
 rw [insK_is]; simp; omega
theorem delK_len (xs : List (ByteArray × ByteArray)) (key : ByteArray) : (delK xs key).length ≤ xs.length := List.length_filter_le _ _
theorem putV_len (xs : List (ByteArray × ByteArray)) (key val : ByteArray) : (putV xs key val).length ≤ xs.length + 1 := by
 unfold putV;have := delK_len xs key;split
 ·omega
 ·rw [insK_len]; omega
theorem insK_mem {c z : ByteArray × ByteArray} {xs : List (ByteArray × ByteArray)} (h : z ∈ insK c xs) : z = c ∨ z ∈ xs := by
 rw [insK_is] at h;rcases List.mem_append.1 h with h | h
 ·exact .inr (List.mem_of_mem_take h)
 ·rcases List.mem_cons.1 h with h | h
  ·exact .inl h
  ·exact .inr (List.mem_of_mem_drop h)
theorem putV_mem {z : ByteArray × ByteArray} {xs : List (ByteArray × ByteArray)} {key val : ByteArray} (h : z ∈ putV xs key val) : z = (key, val) ∨ z ∈ xs := by
 unfold putV at h;split at h
 ·exact .inr ((List.mem_filter.1 h).1)
 ·rcases insK_mem h with h | h
  ·exact .inl h
  ·exact .inr ((List.mem_filter.1 h).1)
end
section
open Go.RowKit
attribute [local go_sem ↓] Go.wp_at_zero Go.wp_at_succ
theorem infoCell : (Tryz.prog.info? 99).map (fun i => (i.zero, i.size, i.bytes)) = some (some (.agg #[.string ⟨#[]⟩, .string ⟨#[]⟩]), 2, 32) := by kernel_rfl
theorem below_of_own0 {w W w' : World} {T K n : Nat} {v : Value} {cells : List Value} (hb : Below w.heap.size w W) (ho : W.ownsRow w.heap.size T K v n cells) (hg : W.grownBy w' v.ownBlock) : Below w.heap.size w w' := by
 rcases ho.2 with ⟨rfl, _⟩ | ⟨g, cap, cur, rfl, hge, _⟩
 ·exact hb.trans ⟨hg.os, hg.tape, hg.output, hg.size, fun k hk => hg.block k (Nat.lt_of_lt_of_le hk hb.size) (by simp [Value.ownBlock])⟩
 ·exact hb.trans (below_of_grown hg hge hb.size)
theorem reads_news {α : Type} {w : World} {ad : Addr} {K : Nat} {enc : α → List Value} {xs : List α} (hk : ∀ x, (enc x).length = K) (hK : 0 < K) (h : Reads w (some ad) K enc xs) : ∀ j u, (xs.flatMap enc)[j]? = some u → w.cell? (ad.add j) = some u := by
 intro j u hu;rcases h with rfl | ⟨b, off, e, _, h3⟩
 ·simp at hu
 ·cases e;have hj : j < xs.length * K := by
   have := (List.getElem?_eq_some_iff.1 hu).1
   rwa [length_flatMap_const hk] at this
  have hi : j / K < xs.length := (Nat.div_lt_iff_lt_mul hK).2 hj;obtain ⟨x, hx⟩ := some_of_lt hi;have hr : j % K < K := Nat.mod_lt _ hK;have hd : j / K * K + j % K = j := by rw [Nat.mul_comm]; exact Nat.div_add_mod j K
  have h4 := getElem_flatMap hk xs (j / K) (j % K) x hx hr;rw [hd, hu] at h4;have h5 := h3 (j / K) x hx (j % K) u h4.symm;rw [hd] at h5;rw [add_none];exact h5
set_option maxRecDepth 100000 in
theorem cloneC_c (a : Option Addr) (cap : Nat) (xs : List (ByteArray × ByteArray)) (w : World) (hlen : xs.length ≤ 2100000000000) (hr : Reads w a 2 encC xs) :
 Calls prog 95 #[.slice a xs.length cap] w (Fresh 99 2 (xs.flatMap encC) xs.length w) := by
 obtain ⟨i0, hi, hzz⟩ := Option.map_eq_some_iff.1 infoCell;simp only [Prod.mk.injEq] at hzz;have HI := hid9 hi;have HZ := hid9 hzz;clear hi hzz;cases a with
 | none =>
  have hz : xs.length = 0 := by
   rcases hr with rfl | ⟨b, off, e, _⟩
   ·rfl
   ·cases e
  have hx : xs = [] := List.eq_nil_of_length_eq_zero hz;subst hx;have he : ∀ W : World, (binOp .eql 26 (.slice none 0 cap) (.slice none 0 0)).run prog W = .ok (.bool true) W := fun _ => rfl;clear hr hlen hz;go_enter func95, ntmps95;go_wp2;go_ret;exact ⟨_, rfl, ⟨rfl, .inl ⟨rfl, rfl⟩⟩, Below.refl _ _⟩
 | some ad =>
  have HN := hid9 (reads_news encC_len (by decide) (hr.below (show Below w.heap.size w (w.alloc (.cells #[] 99)) from bel9)));have HO := hid9 (show (w.alloc (.cells #[] 99)).ownsRow w.heap.size 99 2 (.slice (some ⟨w.heap.size, 0, none⟩) 0 0) 0 [] from ⟨rfl, .inr ⟨w.heap.size, 0, #[], rfl, Nat.le_refl _, heap_alloc_new w _, Nat.le_refl _, Nat.zero_le _, rfl, rfl⟩⟩);have he : ∀ W : World, (binOp .eql 26 (.slice (some ad) xs.length cap) (.slice none 0 0)).run prog W = .ok (.bool false) W := fun _ => rfl;clear hr;go_enter func95, ntmps95;go_wp2_with (at_builtin; refine wpList_append_own _ rfl _ _ 26 rfl w.heap.size 99 i0 (.agg #[.string ⟨#[]⟩, .string ⟨#[]⟩]) 2 32 underlying26 HI.out HZ.out.1 HZ.out.2.1 HZ.out.2.2 rfl (by decide) _ _ _ rfl HO.out ad xs.length cap (xs.flatMap encC) rfl (length_flatMap_const encC_len xs) HN.out ?c2 ?c3 ?c4 ?c5 ?_)
  case c2 =>
   intro u hu;obtain ⟨x, _, hx⟩ := List.mem_flatMap.1 hu;simp [encC] at hx
   first | (subst hx; rfl) | (rcases hx with rfl | rfl <;> rfl)
  case c3 => unfold maxLen; omega
  case c4 => omega
  case c5 => simp
  intro v' w' hown' hgrow _;have HB2 := hid9 (below_of_own0 (show Below w.heap.size w _ from bel9) HO.out hgrow);have HW2 := hid9 hown';clear hown' hgrow;go_wp2;go_ret;refine ⟨_, rfl, ?_, HB2.out⟩;have := HW2.out;simpa using this
end
section
open Go.RowKit
def beginsB (s p : ByteArray) : Bool := decide (p.size ≤ s.size) && ((s.extract 0 p.size).toList == p.toList)
theorem begins_no {s p : ByteArray} (h : s.size < p.size) : beginsB s p = false := by simp [beginsB]; omega
theorem begins_is {s p : ByteArray} (h : p.size ≤ s.size) : beginsB s p = ((s.extract 0 p.size).toList == p.toList) := by simp [beginsB, h]
theorem begins_c (s p : ByteArray) (w : World) (hs : s.size ≤ maxLen) (hp : p.size ≤ maxLen) :
 Calls prog 241 #[.string s, .string p] w fun e w' => e = .returned (.bool (beginsB s p)) ∧ w = w' := by
 unfold maxLen at hs hp;by_cases h : p.size ≤ s.size
 ·have HB := hid9 (begins_is h);have h' : (p.size : Int) ≤ (s.size : Int) := by omega
  generalize hx : ((s.extract 0 p.size).toList == p.toList) = r at *;cases r
  ·go_enter func241, ntmps241;go_wp2;go_ret;exact ⟨by rw [HB.out]; rfl, rfl⟩
  ·go_enter func241, ntmps241;go_wp2;go_ret;exact ⟨by rw [HB.out]; rfl, rfl⟩
 ·have HB := hid9 (begins_no (s := s) (p := p) (by omega));have h' : ¬ (p.size : Int) ≤ (s.size : Int) := by omega
  go_enter func241, ntmps241;go_wp2;go_ret;exact ⟨by rw [HB.out]; rfl, rfl⟩
theorem hasPrefix_c (s p : ByteArray) (w : World) (hs : s.size ≤ maxLen) (hp : p.size ≤ maxLen) :
 Calls prog 233 #[.string s, .string p] w fun e w' => e = .returned (.bool (beginsB s p)) ∧ w = w' := by
 unfold maxLen at hs hp;by_cases h : p.size ≤ s.size
 ·have HB := hid9 (begins_is h);have h' : (p.size : Int) ≤ (s.size : Int) := by omega
  generalize hx : ((s.extract 0 p.size).toList == p.toList) = r at *;cases r
  ·go_enter func233, ntmps233;go_wp2;go_ret;exact ⟨by rw [HB.out]; rfl, rfl⟩
  ·go_enter func233, ntmps233;go_wp2;go_ret;exact ⟨by rw [HB.out]; rfl, rfl⟩
 ·have HB := hid9 (begins_no (s := s) (p := p) (by omega));have h' : ¬ (p.size : Int) ≤ (s.size : Int) := by omega
  go_enter func233, ntmps233;go_wp2;go_ret;exact ⟨by rw [HB.out]; rfl, rfl⟩
end
section
open Go.RowKit
attribute [local go_sem ↓] Go.wp_at_zero Go.wp_at_succ
theorem news_one {W : World} {b : Nat} {x : Value} (hc : W.cell? ⟨b, 0, none⟩ = some x) : ∀ j u, [x][j]? = some u → W.cell? ((⟨b, 0, none⟩ : Addr).add j) = some u := by
 intro j u hj
 match j, hj with
 | 0, hj => simp at hj; subst hj; simpa [Addr.add] using hc
theorem addSpanFn_c (x : ByteArray) (B : Nat) (W : World) (hc : W.cell? ⟨B, 0, none⟩ = some (.string x)) (y : ByteArray) :
 Calls prog 225 #[.string y, .pointer (some ⟨B, 0, none⟩)] W fun e w' => e = .returned (.bool (geP x y)) ∧ Below W.heap.size W w' := by
 have hBW : B < W.heap.size := World.block_lt_of_cell? W _ hc;have hne : B ≠ W.heap.size := by omega
 have HG := hid9 (show geP x y = !(Op.bytesLess y.toList x.toList) from rfl);cases hq : Op.bytesLess y.toList x.toList
 all_goals
  go_enter func225, ntmps225;go_wp2;go_ret;exact ⟨by rw [HG.out, hq]; rfl, bel9⟩
set_option maxRecDepth 100000 in
theorem addSpan_c (v : Value) (base : Nat) (xs : List ByteArray) (x : ByteArray) (w : World) (hlen : xs.length ≤ 2150000000000) (ho : w.ownsRow base 9 1 v xs.length (xs.flatMap encS)) (hbase : base ≤ w.heap.size) :
 Calls prog 201 #[v, .string x] w (OwnStep 9 1 base v (addS xs x).length ((addS xs x).flatMap encS) w) := by
 obtain ⟨i0, hinf, hzz⟩ := Option.map_eq_some_iff.1 infoString;simp only [Prod.mk.injEq] at hzz;have HI := hid9 hinf;have HZ := hid9 hzz;clear hinf hzz;obtain ⟨a, cap, rfl, hr⟩ := reads_of_owns encS_len ho;have HLT := hid9 ho.lt;have HO := hid9 ho;have HR := hid9 hr;have HK := hid9 (fun (W : World) (hW : Below w.heap.size w W) (hc : W.cell? ⟨w.heap.size, 0, none⟩ = some (.string x)) => indexFuncS_c a cap xs (geP x) 225 #[.pointer (some ⟨w.heap.size, 0, none⟩)] (fun args w => enters_of func225 (by kernel_rfl) rfl args w) W
  (fun W' y _ hb => addSpanFn_c x w.heap.size W' (keepS hb hc) y) (by unfold maxLen; omega) (hr.below hW))
 clear ho hr;obtain ⟨TT, hTT⟩ : ∃ TT, TT = addS xs x := ⟨_, rfl⟩;have HT := hid9 hTT;rw [← hTT];clear hTT;rcases Nat.lt_or_ge (xs.findIdx (geP x)) xs.length with hlt | hge
 ·obtain ⟨y, hy⟩ := some_of_lt hlt;have HF := hid9 (show xs.findIdx (geP x) = xs.findIdx (geP x) from rfl);have HI2 := hid9 (idxI_lt hlt);obtain ⟨k, hk⟩ : ∃ k, xs.findIdx (geP x) = k := ⟨_, rfl⟩;have HKK := hid9 hk;rw [hk] at hlt hy HI2;have HY := hid9 hy;have p1 : (0 : Int) ≤ (k : Int) := by omega
  have p2 : (k : Int) < (xs.length : Int) := by omega
  clear hk hy HF;cases hq : eqB y x with
  | true =>
   have q : (y.toList == x.toList) = true := hq;have HE := hid9 (HT.out.trans (addS_here HKK.out HY.out hq));clear hq;go_enter func201, ntmps201;go_wp2_with fail;refine (HK.out _ bel9 (by simp)).mono ?_;rintro e w1 ⟨rfl, hb1⟩;rw [HKK.out, HI2.out];have B1 : Below w.heap.size w w1 := bel9;obtain ⟨b, off, rfl, c0⟩ := readFS HR.out B1 HY.out;have c1 : w1.cell? ⟨w.heap.size, 0, none⟩ = some (.string x) := keepS hb1 (by simp);go_wp2_with fail;go_quiet (fail);go_wp2;go_ret;rw [HE.out];exact OwnStep.stay HO.out bel9
  | false =>
   have q : (y.toList == x.toList) = false := hq;have HE := hid9 (HT.out.trans (addS_in HKK.out HY.out hq));clear hq;go_enter func201, ntmps201;go_wp2_with fail;refine (HK.out _ bel9 (by simp)).mono ?_;rintro e w1 ⟨rfl, hb1⟩;rw [HKK.out, HI2.out];have B1 : Below w.heap.size w w1 := bel9;obtain ⟨b, off, rfl, c0⟩ := readFS HR.out B1 HY.out;have c1 : w1.cell? ⟨w.heap.size, 0, none⟩ = some (.string x) := keepS hb1 (by simp);go_wp2_with fail;go_quiet (fail);go_wp2_with fail;refine (insertS_c _ base k xs x _ _ (by omega) (ownsRow_below HO.out bel9) (by omega) (Box.new _ [.string x] _) (fun j hj => ?_) ?_).mono ?_
   ·have := (HLT.out j hj).2; have := B1.size; simp; omega
   ·have := B1.size; simp; omega
   intro e w' hs;have HS := hid9 (hs.after (w := w) bel9);clear hs;obtain ⟨v', rfl, h1, h2, h3⟩ := HS.out;have H2 := hid9 (show OwnStep 9 1 base _ TT.length (TT.flatMap encS) w (.returned v') w' from ⟨v', rfl, by
    have hl : TT.length = xs.length + 1 := by rw [HE.out]; simp; omega
    rw [hl, HE.out]; exact h1, h2, h3⟩)
   clear h1 h2 h3 HS;go_wp2;go_ret;exact H2.out
 ·have HI2 := hid9 (idxI_ge hge);have HE := hid9 (HT.out.trans (addS_end (Nat.le_antisymm (List.findIdx_le_length) hge)));clear hge;go_enter func201, ntmps201;go_wp2_with fail;refine (HK.out _ bel9 (by simp)).mono ?_;rintro e w1 ⟨rfl, hb1⟩;rw [HI2.out];have B1 : Below w.heap.size w w1 := bel9;have c1 : w1.cell? ⟨w.heap.size, 0, none⟩ = some (.string x) := keepS hb1 (by simp);go_wp2_with (at_builtin; refine wpList_append_own2 _ rfl _ _ 29 rfl base 9 i0 (.string ⟨#[]⟩) 1 16 underlying29 HI.out HZ.out.1 HZ.out.2.1 HZ.out.2.2 rfl (by decide) _ _ _ rfl (ownsRow_below HO.out bel9) ⟨w1.heap.size, 0, none⟩ 1 1 [.string x] rfl rfl ?d0 ?d1 ?d2 ?d3 ?d4 ?_)
  case d0 =>
   intro j u hj
   match j, hj with
   | 0, hj => simp at hj; subst hj; simp [Addr.add]
  case d1 => intro u hu; simp at hu; subst hu; rfl
  case d2 => unfold maxLen; omega
  case d3 => omega
  case d4 => have := B1.size; simp; omega
  intro v' w' hown hgrow hor;have H2 := hid9 (show OwnStep 9 1 base _ TT.length (TT.flatMap encS) w (.returned v') w' from OwnStep.after (W := w1.alloc (.cells #[.string x] 9)) bel9 ⟨v', rfl, by rw [HE.out, List.length_append, List.flatMap_append]; exact hown, hgrow, hor⟩);clear hown hgrow hor;go_wp2;go_ret;exact H2.out
def ReadsV {α : Type} (K : Nat) (enc : α → List Value) (xs : List α) (w : World) (e : Ending) (w' : World) : Prop :=
 ∃ a cap, e = .returned (.slice a xs.length cap) ∧ Reads w' a K enc xs ∧ xs.length ≤ cap ∧ cap ≤ maxLen ∧ Below w.heap.size w w'
theorem ReadsV.fresh {α : Type} {T K : Nat} {enc : α → List Value} {xs : List α} {w w' : World} {e : Ending} (hk : ∀ x, (enc x).length = K) (h : Fresh T K (xs.flatMap enc) xs.length w e w') : ReadsV K enc xs w e w' := by
 obtain ⟨v, rfl, h1, h2⟩ := h;obtain ⟨a, cap, rfl, h3, h4, h5⟩ := reads_of_owns' hk h1;exact ⟨a, cap, rfl, h3, h4, h5, h2⟩
theorem Reads.dropA {α : Type} {enc : α → List Value} {w : World} {a : Option Addr} {K k cap : Nat} {xs : List α} (h : Reads w a K enc xs) (hk : k < xs.length) : ∃ b off, a = some ⟨b, off, none⟩ ∧ Reads w (some ⟨b, off + k * K, none⟩) K enc (xs.drop k) := by
 rcases h with rfl | ⟨b, off, e, h2, h3⟩
 ·simp at hk
 ·refine ⟨b, off, e, .inr ⟨b, off + k * K, rfl, h2, fun i x hx j v hv => ?_⟩⟩;rw [List.getElem?_drop] at hx;have := h3 (k + i) x hx j v hv
  rwa [show off + ((k + i) * K + j) = off + k * K + (i * K + j) by rw [Nat.add_mul]; omega] at this
set_option maxRecDepth 100000 in
theorem specPut_c (a : Option Addr) (cap : Nat) (xs : List ByteArray) (x : ByteArray) (w : World) (hlen : xs.length ≤ 2150000000000) (hr : Reads w a 1 encS xs) (hcap : xs.length ≤ cap) (hcm : cap ≤ maxLen) :
 Calls prog 223 #[.slice a xs.length cap, .string x] w (ReadsV 1 encS (addS xs x) w) := by
 obtain ⟨i0, hinf, hzz⟩ := Option.map_eq_some_iff.1 infoString;simp only [Prod.mk.injEq] at hzz;have HI := hid9 hinf;have HZ := hid9 hzz;have HR := hid9 hr;have HCM := hid9 hcm;unfold maxLen at hcm;obtain ⟨TT, hTT⟩ : ∃ TT, TT = addS xs x := ⟨_, rfl⟩;have HT := hid9 hTT;rw [← hTT];clear hTT hinf hzz hr;go_enter func223, ntmps223;go_wp2;go_loop [5] (fun i => ∃ k : Nat, k ≤ xs.length ∧ i = .int .i64 k ∧ Hid (noneUp (geP x) xs k)) (fun i => xs.length - (intOf i).toNat)
 case atStart => exact ⟨0, Nat.zero_le _, rfl, hid9 (noneUp_zero _ _)⟩
 case round =>
  obtain ⟨k, hk, rfl, HU⟩ := hrel;have p1 : (0 : Int) ≤ (k : Int) := by omega
  rcases Nat.lt_or_ge k xs.length with hlt | hge
  ·obtain ⟨y, hy⟩ := some_of_lt hlt;have p2 : (k : Int) < (xs.length : Int) := by omega
   have HY := hid9 hy;obtain ⟨b, off, hab, c0⟩ := readFS HR.out (Below.refl _ _) hy;clear hy;cases hq : Op.bytesLess y.toList x.toList with
   | true =>
    have hs := hid9 (noneUp_succ HU.out HY.out (show geP x y = false by simp [geP, ltB, hq]));subst hab;go_wp2;go_round
    case rel => exact ⟨k + 1, by omega, by go_num, hs⟩
    case measure => simp [intOf]; omega
   | false =>
    have HK := hid9 (find_hit HU.out HY.out (show geP x y = true by simp [geP, ltB, hq]));cases he : eqB y x with
    | true =>
     have q : (y.toList == x.toList) = true := he;have HE := hid9 (HT.out.trans (addS_here HK.out HY.out he));clear he;have HR2 := HR;subst hab;go_wp2;go_ret;rw [HE.out];exact ⟨_, _, rfl, HR2.out, hcap, HCM.out, Below.refl _ _⟩
    | false =>
     have q : (y.toList == x.toList) = false := he;have HE := hid9 (HT.out.trans (addS_in HK.out HY.out he));clear he;obtain ⟨b', off', hab', hd⟩ := HR.out.dropA (cap := cap) hlt;rw [hab] at hab';cases hab';have HD := hid9 hd;have HTk := hid9 (HR.out.take k);have HTl := hid9 (show (xs.take k).length = k from by rw [List.length_take]; omega);have HDl := hid9 (show (xs.drop k).length = xs.length - k from by rw [List.length_drop]);have hck : ¬ (cap = k) := by omega
     clear hd;subst hab;go_wp2_with (at_builtin; refine wpList_append_reads _ rfl _ _ 29 rfl w.heap.size 9 i0 (.string ⟨#[]⟩) 1 16 underlying29 HI.out HZ.out.1 HZ.out.2.1 HZ.out.2.2 rfl (by decide) encS_len encS_one _ 0 [] rfl ⟨rfl, .inr ⟨w.heap.size, 0, #[], rfl, Nat.le_refl _, heap_alloc_new w _, Nat.le_refl _, Nat.zero_le _, rfl, rfl⟩⟩ (some ⟨b, off, none⟩) k cap (xs.take k) rfl HTl.out.symm (HTk.out.below bel9) (by rw [HTl.out]; unfold maxLen; omega) (by rw [HTl.out]; omega) (by simp) ?_);intro v1 w1 o1 g1 or1;have B1 : Below w.heap.size w w1 := by
      refine Below.trans (show Below w.heap.size w (w.alloc (.cells #[] 9)) from bel9) (below_of_grown g1 (Nat.le_refl _) (by simp))
     have HO1 := hid9 (show w1.ownsRow w.heap.size 9 1 v1 k ((xs.take k).flatMap encS) from by first | exact o1 | simpa [HTl.out] using o1);clear o1 g1 or1;go_wp2_with (at_builtin; refine wpList_append_own2 _ rfl _ _ 29 rfl w.heap.size 9 i0 (.string ⟨#[]⟩) 1 16 underlying29 HI.out HZ.out.1 HZ.out.2.1 HZ.out.2.2 rfl (by decide) _ _ _ rfl (HO1.out.alloc _) ⟨w1.heap.size, 0, none⟩ 1 1 [.string x] rfl rfl ?e0 ?e1 ?e2 ?e3 ?e4 ?_)
     case e0 =>
      intro j u hj
      match j, hj with
      | 0, hj => simp at hj; subst hj; simp [Addr.add]
     case e1 => intro u hu; simp at hu; subst hu; rfl
     case e2 => unfold maxLen; omega
     case e3 => omega
     case e4 => have := B1.size; simp; omega
     intro v2 w2 o2 g2 or2;have B2 : Below w.heap.size w w2 := by
      have h := OwnStep.fresh (w := w) (W := w1.alloc (.cells #[.string x] 9)) (e := .returned v2) (w' := w2) bel9 (HO1.out.alloc _) ⟨v2, rfl, o2, g2, or2⟩;obtain ⟨_, _, _, h⟩ := h;exact h
     have HO2 := hid9 o2;clear o2 g2 or2;go_wp2_with (at_builtin; refine wpList_append_reads _ rfl _ _ 29 rfl w.heap.size 9 i0 (.string ⟨#[]⟩) 1 16 underlying29 HI.out HZ.out.1 HZ.out.2.1 HZ.out.2.2 rfl (by decide) encS_len encS_one _ _ _ rfl HO2.out (some ⟨b, off + k, none⟩) (xs.length - k) (cap - k) (xs.drop k) rfl HDl.out.symm (show Reads w2 _ _ _ _ by have := HD.out.below B2; rwa [Nat.mul_one] at this) (by rw [HDl.out]; unfold maxLen; omega) (by rw [HDl.out]; omega) B2.size ?_);intro v3 w3 o3 g3 or3;have h := OwnStep.fresh (w := w) (e := .returned v3) (w' := w3) B2 HO2.out ⟨v3, rfl, o3, g3, or3⟩;have H2 := hid9 (show ReadsV 1 encS TT w (.returned v3) w3 from ReadsV.fresh encS_len (T := 9) (by
      have hl : TT.length = k + 1 + (xs.length - k) := by rw [HE.out, List.length_append, List.length_cons, HTl.out, HDl.out]; omega
      have hf : TT.flatMap encS = (xs.take k).flatMap encS ++ Value.string x :: (xs.drop k).flatMap encS := by rw [HE.out]; simp [List.flatMap_append, encS]
      rw [hl, hf]
      first | exact h | simpa using h))
     clear h o3 g3 or3;go_wp2;go_ret;exact H2.out
  ·obtain rfl : k = xs.length := by omega
   have HE := hid9 (HT.out.trans (addS_end (find_miss HU.out (Nat.le_refl _))));have p2 : ¬ (xs.length : Int) < (xs.length : Int) := by omega
   clear HU;cases a with
   | none =>
    have hz : xs.length = 0 := by
     rcases HR.out with h | ⟨_, _, h, _⟩
     ·rw [h]; rfl
     ·cases h
    have hx : xs = [] := List.eq_nil_of_length_eq_zero hz;subst hx;go_wp2_with (at_builtin; refine wpList_append_reads _ rfl _ _ 29 rfl w.heap.size 9 i0 (.string ⟨#[]⟩) 1 16 underlying29 HI.out HZ.out.1 HZ.out.2.1 HZ.out.2.2 rfl (by decide) encS_len encS_one _ 0 [] rfl ⟨rfl, .inr ⟨w.heap.size, 0, #[], rfl, Nat.le_refl _, heap_alloc_new w _, Nat.le_refl _, Nat.zero_le _, rfl, rfl⟩⟩ _ _ _ [] rfl (by simp) (.inl rfl) (by simp) (by simp) (by simp) ?_);intro v1 w1 o1 g1 or1;have B1 : Below w.heap.size w w1 := by
     refine Below.trans (show Below w.heap.size w (w.alloc (.cells #[] 9)) from bel9) (below_of_grown g1 (Nat.le_refl _) (by simp))
    have HO1 := hid9 (show w1.ownsRow w.heap.size 9 1 v1 ([] : List ByteArray).length (([] : List ByteArray).flatMap encS) from by first | exact o1 | simpa using o1);clear o1 g1 or1;go_wp2_with (at_builtin; refine wpList_append_own2 _ rfl _ _ 29 rfl w.heap.size 9 i0 (.string ⟨#[]⟩) 1 16 underlying29 HI.out HZ.out.1 HZ.out.2.1 HZ.out.2.2 rfl (by decide) _ _ _ rfl (HO1.out.alloc _) ⟨w1.heap.size, 0, none⟩ 1 1 [.string x] rfl rfl (news_one (by simp)) (by intro u hu; simp at hu; subst hu; rfl) (by unfold maxLen; omega) (by omega) (by have := B1.size; simp; omega) ?_);intro v2 w2 o2 g2 or2;have B2 : Below w.heap.size w w2 := by
     have h := OwnStep.fresh (w := w) (W := w1.alloc (.cells #[.string x] 9)) (e := .returned v2) (w' := w2) bel9 (HO1.out.alloc _) ⟨v2, rfl, o2, g2, or2⟩;obtain ⟨_, _, _, h⟩ := h;exact h
    have HO2 := hid9 o2;clear o2 g2 or2;go_wp2_with (at_builtin; refine wpList_append_reads _ rfl _ _ 29 rfl w.heap.size 9 i0 (.string ⟨#[]⟩) 1 16 underlying29 HI.out HZ.out.1 HZ.out.2.1 HZ.out.2.2 rfl (by decide) encS_len encS_one _ _ _ rfl HO2.out _ _ _ [] rfl (by simp) (.inl rfl) (by first | (simp; done) | (simp; unfold maxLen; omega) | (unfold maxLen; simp)) (by first | (simp; done) | (simp; omega)) B2.size ?_);intro v3 w3 o3 g3 or3;have h := OwnStep.fresh (w := w) (e := .returned v3) (w' := w3) B2 HO2.out ⟨v3, rfl, o3, g3, or3⟩;have H2 := hid9 (show ReadsV 1 encS TT w (.returned v3) w3 from ReadsV.fresh encS_len (T := 9) (by
     have hl : TT.length = 1 := by rw [HE.out]; simp
     have hf : TT.flatMap encS = [Value.string x] := by rw [HE.out]; simp [List.flatMap_append, encS]
     rw [hl, hf]
     first | exact h | simpa using h))
    clear h o3 g3 or3;go_wp2;go_ret;exact H2.out
   | some ad =>
    have HRB := hid9 (HR.out.below (show Below w.heap.size w (w.alloc (.cells #[] 9)) from bel9));obtain ⟨b, off, spot⟩ := ad;by_cases hck : cap = xs.length
    all_goals
     go_wp2_with (at_builtin; refine wpList_append_reads _ rfl _ _ 29 rfl w.heap.size 9 i0 (.string ⟨#[]⟩) 1 16 underlying29 HI.out HZ.out.1 HZ.out.2.1 HZ.out.2.2 rfl (by decide) encS_len encS_one _ 0 [] rfl ⟨rfl, .inr ⟨w.heap.size, 0, #[], rfl, Nat.le_refl _, heap_alloc_new w _, Nat.le_refl _, Nat.zero_le _, rfl, rfl⟩⟩ _ _ _ xs rfl (by simp) HRB.out (by unfold maxLen; omega) (by omega) (by simp) ?_);intro v1 w1 o1 g1 or1;have B1 : Below w.heap.size w w1 := by
      refine Below.trans (show Below w.heap.size w (w.alloc (.cells #[] 9)) from bel9) (below_of_grown g1 (Nat.le_refl _) (by simp))
     have HO1 := hid9 (show w1.ownsRow w.heap.size 9 1 v1 xs.length (xs.flatMap encS) from by first | exact o1 | simpa using o1);clear o1 g1 or1;go_wp2_with (at_builtin; refine wpList_append_own2 _ rfl _ _ 29 rfl w.heap.size 9 i0 (.string ⟨#[]⟩) 1 16 underlying29 HI.out HZ.out.1 HZ.out.2.1 HZ.out.2.2 rfl (by decide) _ _ _ rfl (HO1.out.alloc _) ⟨w1.heap.size, 0, none⟩ 1 1 [.string x] rfl rfl (news_one (by simp)) (by intro u hu; simp at hu; subst hu; rfl) (by unfold maxLen; omega) (by omega) (by have := B1.size; simp; omega) ?_);intro v2 w2 o2 g2 or2;have B2 : Below w.heap.size w w2 := by
      have h := OwnStep.fresh (w := w) (W := w1.alloc (.cells #[.string x] 9)) (e := .returned v2) (w' := w2) bel9 (HO1.out.alloc _) ⟨v2, rfl, o2, g2, or2⟩;obtain ⟨_, _, _, h⟩ := h;exact h
     have HO2 := hid9 o2;clear o2 g2 or2;go_wp2_with (at_builtin; refine wpList_append_reads _ rfl _ _ 29 rfl w.heap.size 9 i0 (.string ⟨#[]⟩) 1 16 underlying29 HI.out HZ.out.1 HZ.out.2.1 HZ.out.2.2 rfl (by decide) encS_len encS_one _ _ _ rfl HO2.out _ _ _ [] rfl (by simp) (.inl rfl) (by first | (simp; done) | (simp; unfold maxLen; omega) | (unfold maxLen; simp)) (by first | (simp; done) | (simp; omega)) B2.size ?_);intro v3 w3 o3 g3 or3;have h := OwnStep.fresh (w := w) (e := .returned v3) (w' := w3) B2 HO2.out ⟨v3, rfl, o3, g3, or3⟩;have H2 := hid9 (show ReadsV 1 encS TT w (.returned v3) w3 from ReadsV.fresh encS_len (T := 9) (by
      have hl : TT.length = xs.length + 1 := by rw [HE.out]; simp
      have hf : TT.flatMap encS = xs.flatMap encS ++ [Value.string x] := by rw [HE.out]; simp [List.flatMap_append, encS]
      rw [hl, hf]
      first | exact h | simpa using h))
     clear h o3 g3 or3;go_wp2;go_ret;exact H2.out
set_option maxRecDepth 100000 in
theorem specAddSpan_c (a : Option Addr) (cap : Nat) (xs : List ByteArray) (x : ByteArray) (w : World) (hlen : xs.length ≤ 2100000000000) (hr : Reads w a 1 encS xs) (hcap : xs.length ≤ cap) (hcm : cap ≤ maxLen) :
 Calls prog 200 #[.slice a xs.length cap, .string x] w (Fresh 9 1 ((addS xs x).flatMap encS) (addS xs x).length w) := by
 obtain ⟨i0, hinf, hzz⟩ := Option.map_eq_some_iff.1 infoString;simp only [Prod.mk.injEq] at hzz;have HI := hid9 hinf;have HZ := hid9 hzz;have K := hid9 (specPut_c a cap xs x (w.alloc (.cells #[] 9)) (by omega) (hr.below bel9) hcap hcm);have HL := hid9 (addS_len xs x);clear hr hinf hzz;generalize addS xs x = TT at *;go_enter func200, ntmps200;go_wp2_with fail;refine K.out.mono ?_;rintro e w1 ⟨a1, cap1, rfl, r1, q1, q2, hb1⟩;have HR := hid9 r1;clear r1;have hl := HL.out;go_wp2_with (at_builtin; refine wpList_append_reads _ rfl _ _ 29 rfl w.heap.size 9 i0 (.string ⟨#[]⟩) 1 16 underlying29 HI.out HZ.out.1 HZ.out.2.1 HZ.out.2.2 rfl (by decide) encS_len encS_one _ 0 [] rfl (ownsRow_below (w := w.alloc (.cells #[] 9)) ⟨rfl, .inr ⟨w.heap.size, 0, #[], rfl, Nat.le_refl _, heap_alloc_new w _, Nat.le_refl _, Nat.zero_le _, rfl, rfl⟩⟩ hb1) _ _ _ TT rfl rfl HR.out (by unfold maxLen; omega) (by omega) (by have := hb1.size; simp at this; omega) ?_);intro v2 w2 o2 g2 or2;have B1 : Below w.heap.size w w1 := bel9;have HO2 := hid9 (show w2.ownsRow w.heap.size 9 1 v2 TT.length (TT.flatMap encS) from by first | exact o2 | simpa using o2);have B2 : Below w.heap.size w w2 := B1.trans (below_of_grown g2 (Nat.le_refl _) B1.size);clear o2 g2 or2;go_wp2;go_ret;exact ⟨_, rfl, HO2.out, B2⟩
end
end Go.Proofs.YtihghflppegnmaaGreatDoor
