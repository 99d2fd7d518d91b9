/- Lemmas and contracts that the last text leans on, joined: COut, Named, Bytes, DrawS, Places, Big. Conditions: as each theorem says. -/
import Derived.Test.YtihghflppegnmaaGreatDoorNk7
import Derived.Test.YtihghflppegnmaaGreatDoorNk8
import Derived.Test.YtihghflppegnmaaGreatDoorNk1
import Derived.Laws.Bits128
import Derived.BigQuiet
import Derived.Test.YtihghflppegnmaaGreatDoorNk3
set_option linter.unusedSimpArgs false
set_option linter.unusedVariables false
namespace Go.Proofs.YtihghflppegnmaaGreatDoor
open Go.ChangeShapes Go.WideShapes Go.ChangeAt Go.RowKit
/-- A store and spans in memory of their own. -/
structure COuts (m : Mch) (base : Nat) (u1 u2 u3 : Value) (W : World) : Prop where
  o1 : W.ownsRow base 99 2 u1 m.st.length (m.st.flatMap encC)
  o2 : W.ownsRow base 9 1 u2 m.rs.length (m.rs.flatMap encS)
  o3 : W.ownsRow base 9 1 u3 m.ws.length (m.ws.flatMap encS)
/-- No two of them share a block. -/
structure Dist3 (u1 u2 u3 : Value) : Prop where
  d12 : ∀ k, u1.ownBlock = some k → u2.ownBlock ≠ some k
  d13 : ∀ k, u1.ownBlock = some k → u3.ownBlock ≠ some k
  d23 : ∀ k, u2.ownBlock = some k → u3.ownBlock ≠ some k
abbrev ansV (an : Ans) : List Value := [.int .i64 an.code, .int .i64 an.n, .string an.text]
abbrev cTup (an : Ans) (u1 u2 u3 : Value) : Value := .tuple #[u1, .agg #[.int .i64 an.code, .int .i64 an.n, .string an.text], .agg #[u2, u3]]
/-- The program's CallOn. -/
def COut (m : Mch) (an : Ans) (base : Nat) (u : Value) (W : World) : Prop := ∃ u1 u2 u3, u = cTup an u1 u2 u3 ∧ COuts m base u1 u2 u3 W ∧ Dist3 u1 u2 u3
/-- The reference's. -/
def COutS (m : Mch) (an : Ans) (base : Nat) (u : Value) (W : World) : Prop := ∃ u1 u2 u3, u = cTup an u1 u2 u3 ∧ COuts m base u1 u2 u3 W
def COwn (u : Value) (k : Nat) : Prop := ∃ u1 x u2 u3, u = .tuple #[u1, x, .agg #[u2, u3]] ∧ (u1.ownBlock = some k ∨ u2.ownBlock = some k ∨ u3.ownBlock = some k)
/-- What the reference's CallOn returns. -/
def CRetS (m : Mch) (an : Ans) (w : World) (e : Ending) (w' : World) : Prop := ∃ u1 u2 u3, e = .returned (cTup an u1 u2 u3) ∧ Below w.heap.size w w' ∧ COuts m w.heap.size u1 u2 u3 w'
theorem COuts.below {m : Mch} {base : Nat} {u1 u2 u3 : Value} {W W' : World} (h : COuts m base u1 u2 u3 W) (hb : Below W.heap.size W W') : COuts m base u1 u2 u3 W' :=
  ⟨ownsRow_below h.o1 hb, ownsRow_below h.o2 hb, ownsRow_below h.o3 hb⟩
theorem COuts.base {m : Mch} {base base' : Nat} {u1 u2 u3 : Value} {W : World} (h : COuts m base u1 u2 u3 W) (hb : base' ≤ base) : COuts m base' u1 u2 u3 W :=
  ⟨ownsRow_base h.o1 hb, ownsRow_base h.o2 hb, ownsRow_base h.o3 hb⟩
theorem COut.below {m : Mch} {an : Ans} {base : Nat} {u : Value} {W W' : World} (h : COut m an base u W) (hb : Below W.heap.size W W') : COut m an base u W' := by
  obtain ⟨u1, u2, u3, e, h, d⟩ := h
  exact ⟨u1, u2, u3, e, h.below hb, d⟩
theorem COutS.below {m : Mch} {an : Ans} {base : Nat} {u : Value} {W W' : World} (h : COutS m an base u W) (hb : Below W.heap.size W W') : COutS m an base u W' := by
  obtain ⟨u1, u2, u3, e, h⟩ := h
  exact ⟨u1, u2, u3, e, h.below hb⟩
/-- A cell of another block is written. -/
theorem COuts.set {m : Mch} {base : Nat} {u1 u2 u3 : Value} {W : World} (h : COuts m base u1 u2 u3 W) {b : Nat} (f : u1.ownBlock ≠ some b ∧ u2.ownBlock ≠ some b ∧ u3.ownBlock ≠ some b) (i : Nat) (v : Value) : COuts m base u1 u2 u3 (W.setCell ⟨b, i, none⟩ v) := by
  have gs := grownBy_setCell W b i v
  exact ⟨h.o1.kept gs (.inr f.1), h.o2.kept gs (.inr f.2.1), h.o3.kept gs (.inr f.2.2)⟩
theorem cown_of {m : Mch} {an : Ans} {base : Nat} {u1 u2 u3 : Value} {W : World} (h : COuts m base u1 u2 u3 W) : ∀ k, COwn (cTup an u1 u2 u3) k → base ≤ k ∧ k < W.heap.size := by
  rintro k ⟨v1, x, v2, v3, e, hk⟩
  cases e
  rcases hk with e | e | e
  · exact h.o1.lt k e
  · exact h.o2.lt k e
  · exact h.o3.lt k e
theorem cret_out {m : Mch} {an : Ans} {w w' : World} {e : Ending} {base : Nat} (h : CRet m an w e w') (hb : base ≤ w.heap.size) : ∃ u, e = .returned u ∧ Below w.heap.size w w' ∧ COut m an base u w' ∧ ∀ k, COwn u k → w.heap.size ≤ k ∧ k < w'.heap.size := by
  obtain ⟨u1, u2, u3, rfl, hbl, o1, o2, o3, d12, d13, d23⟩ := h
  have h : COuts m w.heap.size u1 u2 u3 w' := ⟨o1, o2, o3⟩
  exact ⟨_, rfl, hbl, ⟨u1, u2, u3, rfl, h.base hb, d12, d13, d23⟩, cown_of h⟩
theorem crets_out {m : Mch} {an : Ans} {w w' : World} {e : Ending} {base : Nat} (h : CRetS m an w e w') (hb : base ≤ w.heap.size) : ∃ u, e = .returned u ∧ Below w.heap.size w w' ∧ COutS m an base u w' ∧ ∀ k, COwn u k → w.heap.size ≤ k ∧ k < w'.heap.size := by
  obtain ⟨u1, u2, u3, rfl, hbl, h⟩ := h
  exact ⟨_, rfl, hbl, ⟨u1, u2, u3, rfl, h.base hb⟩, cown_of h⟩
/-- A fresh store. -/
def SOut (xs : Sto) (base : Nat) (u : Value) (W : World) : Prop := W.ownsRow base 99 2 u xs.length (xs.flatMap encC)
theorem fresh_out {xs : Sto} {w w' : World} {e : Ending} {base : Nat} (h : Fresh 99 2 (xs.flatMap encC) xs.length w e w') (hb : base ≤ w.heap.size) : ∃ u, e = .returned u ∧ Below w.heap.size w w' ∧ SOut xs base u w' ∧ ∀ k, u.ownBlock = some k → w.heap.size ≤ k ∧ k < w'.heap.size := by
  obtain ⟨u, rfl, o, b⟩ := h
  exact ⟨u, rfl, b, ownsRow_base o hb, fun k hk => o.lt k hk⟩
theorem reads_owns2 {α : Type} {w : World} {base e K : Nat} {a : Option Addr} {n cap : Nat} {enc : α → List Value} {xs : List α} (hk : ∀ x, (enc x).length = K) (h : w.ownsRow base e K (.slice a n cap) xs.length (xs.flatMap enc)) : Reads w a K enc xs := by
  obtain ⟨a', c', hv, hr⟩ := reads_of_owns hk h
  cases hv
  exact hr
theorem SOut.reads {xs : Sto} {base : Nat} {a : Option Addr} {n cap : Nat} {W : World} (h : SOut xs base (.slice a n cap) W) : Reads W a 2 encC xs := reads_owns2 encC_len h
/-- The three are slices. -/
theorem COuts.vals {m : Mch} {base : Nat} {u1 u2 u3 : Value} {W : World} (h : COuts m base u1 u2 u3 W) : ∃ a1 c1 a2 c2 a3 c3, u1 = .slice a1 m.st.length c1 ∧ u2 = .slice a2 m.rs.length c2 ∧ u3 = .slice a3 m.ws.length c3 := by
  obtain ⟨a1, c1, h1, _⟩ := reads_of_owns encC_len h.o1
  obtain ⟨a2, c2, h2, _⟩ := reads_of_owns encS_len h.o2
  obtain ⟨a3, c3, h3, _⟩ := reads_of_owns encS_len h.o3
  exact ⟨a1, c1, a2, c2, a3, c3, h1, h2, h3⟩
theorem COut.outs {m : Mch} {an : Ans} {base : Nat} {u1 u2 u3 x : Value} {W : World} (h : COut m an base (.tuple #[u1, x, .agg #[u2, u3]]) W) : COuts m base u1 u2 u3 W := by
  obtain ⟨v1, v2, v3, e, h, _⟩ := h
  cases e
  exact h
theorem COutS.outs {m : Mch} {an : Ans} {base : Nat} {u1 u2 u3 x : Value} {W : World} (h : COutS m an base (.tuple #[u1, x, .agg #[u2, u3]]) W) : COuts m base u1 u2 u3 W := by
  obtain ⟨v1, v2, v3, e, h⟩ := h
  cases e
  exact h
abbrev Off3 (u1 u2 u3 : Value) (b : Nat) : Prop := u1.ownBlock ≠ some b ∧ u2.ownBlock ≠ some b ∧ u3.ownBlock ≠ some b
theorem not_cown {u1 u2 u3 x : Value} {b : Nat} (h : ¬ COwn (.tuple #[u1, x, .agg #[u2, u3]]) b) : Off3 u1 u2 u3 b :=
  ⟨fun e => h ⟨_, _, _, _, rfl, .inl e⟩, fun e => h ⟨_, _, _, _, rfl, .inr (.inl e)⟩, fun e => h ⟨_, _, _, _, rfl, .inr (.inr e)⟩⟩
theorem COuts.off {m : Mch} {base : Nat} {u1 u2 u3 : Value} {W : World} (h : COuts m base u1 u2 u3 W) {b : Nat} (hb : W.heap.size ≤ b) : Off3 u1 u2 u3 b := ⟨fun e => by have := (h.o1.lt b e).2; omega, fun e => by have := (h.o2.lt b e).2; omega, fun e => by have := (h.o3.lt b e).2; omega⟩
theorem below_set {B : Nat} {w W : World} (h : Below B w W) {b : Nat} (hb : B ≤ b) (i : Nat) (v : Value) : Below B w (W.setCell ⟨b, i, none⟩ v) := Below.setCell (p := ⟨b, i, none⟩) h hb v
/-- A store and spans, and two boxes beside them. -/
structure TwoB (m : Mch) (base : Nat) (u1 u2 u3 : Value) (b1 b2 : Nat) (xs ys : List Value) (w0 W : World) : Prop where
  x1 : Box W b1 xs
  x2 : Box W b2 ys
  outs : COuts m base u1 u2 u3 W
  bel : Below base w0 W
  g1 : base ≤ b1
  g2 : base ≤ b2
  ne : b1 ≠ b2
  f1 : Off3 u1 u2 u3 b1
  f2 : Off3 u1 u2 u3 b2
section
variable {m : Mch} {base : Nat} {u1 u2 u3 : Value} {b1 b2 : Nat} {xs ys : List Value} {w0 W W' : World}
theorem TwoB.set1 (h : TwoB m base u1 u2 u3 b1 b2 xs ys w0 W) (i : Nat) (v : Value) : TwoB m base u1 u2 u3 b1 b2 (xs.set i v) ys w0 (W.setCell ⟨b1, i, none⟩ v) :=
  ⟨box_put h.x1 i v, box_far2 h.x2 h.ne.symm i v, h.outs.set h.f1 i v, below_set h.bel h.g1 i v, h.g1, h.g2, h.ne, h.f1, h.f2⟩
theorem TwoB.set2 (h : TwoB m base u1 u2 u3 b1 b2 xs ys w0 W) (i : Nat) (v : Value) : TwoB m base u1 u2 u3 b1 b2 xs (ys.set i v) w0 (W.setCell ⟨b2, i, none⟩ v) :=
  ⟨box_far2 h.x1 h.ne i v, box_put h.x2 i v, h.outs.set h.f2 i v, below_set h.bel h.g2 i v, h.g1, h.g2, h.ne, h.f1, h.f2⟩
theorem TwoB.below (h : TwoB m base u1 u2 u3 b1 b2 xs ys w0 W) (hb : Below W.heap.size W W') : TwoB m base u1 u2 u3 b1 b2 xs ys w0 W' :=
  ⟨h.x1.below hb, h.x2.below hb, h.outs.below hb, h.bel.trans (hb.mono (Nat.le_of_lt (Nat.lt_of_le_of_lt h.g1 h.x1.1))), h.g1, h.g2, h.ne, h.f1, h.f2⟩
end
/-- Boxes for the answer and the spans are made and written, in the text's order. -/
theorem cat_text {m : Mch} (c n : Int) (t : ByteArray) {base : Nat} {u1 u2 u3 : Value} {w0 w : World} (h : COuts m base u1 u2 u3 w) (hb : Below base w0 w) (hB : base ≤ w.heap.size) :
    TwoB m base u1 u2 u3 w.heap.size (w.heap.size + 1) [.int .i64 c, .int .i64 n, .string t] [u2, u3] w0 ((w.alloc (.cells #[.int .i64 c, .int .i64 n, .string t] 28)).alloc (.cells #[u2, u3] 31)) := by
  have hb2 : Below w.heap.size w ((w.alloc (.cells #[.int .i64 c, .int .i64 n, .string t] 28)).alloc (.cells #[u2, u3] 31)) := (by repeat (first | exact Below.refl _ _ | refine Below.drew ?_ | refine below_drewN ?_ _ | refine Below.allocC ?_ _ | refine Below.setCell ?_ (by first | (simp; done) | (simp; omega)) _ | refine Below.chain ?_ (by assumption)))
  have hs : (w.alloc (.cells #[.int .i64 c, .int .i64 n, .string t] 28)).heap.size = w.heap.size + 1 := by simp
  have y1 := Box.alloc (Box.new w [.int .i64 c, .int .i64 n, .string t] 28) (.cells #[u2, u3] 31)
  have y2 := Box.new (w.alloc (.cells #[.int .i64 c, .int .i64 n, .string t] 28)) [u2, u3] 31
  rw [hs] at y2
  exact ⟨y1, y2, h.below hb2, hb.trans (hb2.mono hB), hB, by omega, by omega, h.off (Nat.le_refl _), h.off (by omega)⟩
theorem below_two {w W : World} (h : Below w.heap.size w W) (o1 o2 : Obj) : Below w.heap.size w ((W.alloc o1).alloc o2) := (h.alloc h.size o1).alloc (by have := h.size; simp; omega) o2
end Go.Proofs.YtihghflppegnmaaGreatDoor
namespace Go.Proofs.YtihghflppegnmaaGreatDoor
open Go.ChangeShapes Go.WideShapes Go.ChangeAt Go.RowKit
attribute [local go_sem ↓] Go.wp_at_zero Go.wp_at_succ
theorem named_c (k : Int) (s : ByteArray) (w : World) : Calls Tryz.prog 15 #[.int .i64 k, .string s] w fun e w' => e = .returned (.agg #[.int .i64 k, .string s, .string ⟨#[]⟩, .int .i64 0, .int .i64 0, .string ⟨#[]⟩]) ∧ Below w.heap.size w w' := by
  go_enter Tryz.func15, Tryz.ntmps15
  go_wp2
  exact bodyPost_ret (v := .agg #[.int .i64 k, .string s, .string ⟨#[]⟩, .int .i64 0, .int .i64 0, .string ⟨#[]⟩]) (by simp [results, Tryz.results15, go_sem]) rfl ⟨rfl, (by repeat (first | exact Below.refl _ _ | refine Below.drew ?_ | refine below_drewN ?_ _ | refine Below.allocC ?_ _ | refine Below.setCell ?_ (by first | (simp; done) | (simp; omega)) _ | refine Below.chain ?_ (by assumption)))⟩
end Go.Proofs.YtihghflppegnmaaGreatDoor
namespace Go.Proofs.YtihghflppegnmaaGreatDoor
open Go.ChangeShapes Go.WideShapes Go.ChangeAt Go.RowKit Go.Deep
attribute [local go_sem ↓] Go.wp_at_zero Go.wp_at_succ
def encU (x : Int) : List Value := [.int .u8 x]
def okU (x : Int) : Prop := 0 ≤ x ∧ x ≤ 255
/-- A slice of bytes. -/
def IsRow (k : IntKind) (w : World) (a : Option Addr) (len cap : Nat) (z : List Int) : Prop := k = .u8 ∧ z.length = len ∧ len ≤ maxLen ∧ Reads w a 1 encU z ∧ ∀ x ∈ z, okU x
theorem isRow_of {H : Type} {enc : TypeId × Value → H} {P : Program} {w : World} {base : Nat} {spare : Nat → Bool} {held : Bool} {t e : TypeId} {a : Option Addr} {len cap : Nat} {d : DataW H} {ps : List MemPlace}
    (ht : P.underlying t = some (.slice e)) (he : P.underlying e = some (.int .u8)) (hC : P.cellsOf e = 1) (h : DataW.Trod enc P w base spare held t (.slice a len cap) d ps) : ∃ z, IsRow .u8 w a len cap z := by
  obtain ⟨hl, xs, hx, hr, ho⟩ := open_rows (w := w) encU okU 1 ht hC (by decide) (fun n cs y _ h => by
    obtain ⟨m, e1, _, hm⟩ := DataW.trod_int he h
    refine ⟨m, e1, ?_⟩
    simpa [okU, Lit.wf, IntKind.min, IntKind.max, IntKind.signed, IntKind.bits] using hm) h
  exact ⟨xs, rfl, hx, hl, hr, ho⟩
theorem i64_and255 (n : Int) : 0 ≤ bits .and .i64 n 255 ∧ bits .and .i64 n 255 ≤ 255 := by
  have h : (BitVec.ofInt 64 n &&& 255#64).toNat ≤ 255 := by
    rw [BitVec.toNat_and]
    exact Nat.le_trans Nat.and_le_right (by decide)
  show 0 ≤ IntKind.i64.wrap ((BitVec.ofInt 64 n &&& BitVec.ofInt 64 255).toNat : Int) ∧ IntKind.i64.wrap ((BitVec.ofInt 64 n &&& BitVec.ofInt 64 255).toNat : Int) ≤ 255
  rw [show BitVec.ofInt 64 255 = 255#64 from rfl]
  generalize (BitVec.ofInt 64 n &&& 255#64).toNat = x at *
  rw [IntKind.wrap_i64]; omega
/-- The cursor c over bytes that lie in w0: a block of the run's own. -/
def Cur (w0 w : World) (c : Nat) : Prop :=
  ∃ a len cap z i h, IsRow .u8 w0 a len cap z ∧ w0.heap.size ≤ c ∧ Below w0.heap.size w0 w ∧ i ≤ len ∧ w.heap[c]? = some (.cells #[.slice a len cap, .int .i64 ((i : Nat) : Int), .int .i64 h] 127 (0, 0))
theorem Cur.lt {w0 w : World} {c : Nat} (h : Cur w0 w c) : c < w.heap.size := by
  obtain ⟨_, _, _, _, _, _, _, _, _, _, h⟩ := h
  exact (Array.getElem?_eq_some_iff.1 h).1
theorem Cur.ge {w0 w : World} {c : Nat} (h : Cur w0 w c) : w0.heap.size ≤ c := by
  obtain ⟨_, _, _, _, _, _, _, h, _⟩ := h
  exact h
theorem Cur.base {w0 w : World} {c : Nat} (h : Cur w0 w c) : Below w0.heap.size w0 w := by
  obtain ⟨_, _, _, _, _, _, _, _, h, _⟩ := h
  exact h
theorem Cur.below {w0 w w' : World} {c : Nat} (h : Cur w0 w c) (hb : Below w.heap.size w w') : Cur w0 w' c := by
  have hlt := h.lt
  obtain ⟨a, len, cap, z, i, x, h1, h2, h3, h4, h5⟩ := h
  exact ⟨a, len, cap, z, i, x, h1, h2, h3.trans (hb.mono h3.size), h4, (hb.block c hlt).trans h5⟩
/-- Behind a draw: the value is as P says, the cursor stands, and nothing but the cursor is written. -/
def Drawn (w0 : World) (c : Nat) (P : Value → World → Prop) (w : World) (e : Ending) (w' : World) : Prop :=
  ∃ v, e = .returned v ∧ P v w' ∧ Cur w0 w' c ∧ w.grownBy w' (some c)
theorem grownBy_below2 {w W w' : World} {r : Option Nat} (h : w.grownBy W r) (hb : Below W.heap.size W w') : w.grownBy w' r := grownBy_trans h (grownBy_of_below hb r)
theorem Drawn.from {w0 w W w' : World} {c : Nat} {P : Value → World → Prop} {e : Ending} (hg : w.grownBy W (some c)) (h : Drawn w0 c P W e w') : Drawn w0 c P w e w' := by
  obtain ⟨v, rfl, h1, h2, h3⟩ := h
  exact ⟨v, rfl, h1, h2, grownBy_trans hg h3⟩
def IsInt (lo hi : Int) (v : Value) (_ : World) : Prop := ∃ n : Int, v = .int .i64 n ∧ lo ≤ n ∧ n ≤ hi

/-- The cells of a cursor. -/
def CurIs (w : World) (c : Nat) (a : Option Addr) (len cap i : Nat) (h : Int) : Prop := w.heap[c]? = some (.cells #[.slice a len cap, .int .i64 ((i : Nat) : Int), .int .i64 h] 127 (0, 0))
theorem CurIs.c0 {w : World} {c : Nat} {a : Option Addr} {len cap i : Nat} {h : Int} (k : CurIs w c a len cap i h) : w.cell? ⟨c, 0, none⟩ = some (.slice a len cap) := cell_of_row w c 0 _ _ _ k
theorem CurIs.c1 {w : World} {c : Nat} {a : Option Addr} {len cap i : Nat} {h : Int} (k : CurIs w c a len cap i h) : w.cell? ⟨c, 1, none⟩ = some (.int .i64 ((i : Nat) : Int)) := cell_of_row w c 1 _ _ _ k
theorem CurIs.c2 {w : World} {c : Nat} {a : Option Addr} {len cap i : Nat} {h : Int} (k : CurIs w c a len cap i h) : w.cell? ⟨c, 2, none⟩ = some (.int .i64 h) := cell_of_row w c 2 _ _ _ k
theorem CurIs.free {w : World} {c : Nat} {a : Option Addr} {len cap i : Nat} {h : Int} (k : CurIs w c a len cap i h) (j : Nat) : w.frozen? ⟨c, j, none⟩ = false := frozen_of_row w c j _ _ k
theorem CurIs.setH {w : World} {c : Nat} {a : Option Addr} {len cap i : Nat} {h h2 : Int} (k : CurIs w c a len cap i h) : CurIs (w.setCell ⟨c, 2, none⟩ (.int .i64 h2)) c a len cap i h2 := heap_setCell_same w c 2 _ _ _ k
theorem CurIs.setI {w : World} {c : Nat} {a : Option Addr} {len cap i i2 : Nat} {h x : Int} (k : CurIs w c a len cap i h) (hx : x = ((i2 : Nat) : Int)) : CurIs (w.setCell ⟨c, 1, none⟩ (.int .i64 x)) c a len cap i2 h := by
  subst hx; exact heap_setCell_same w c 1 _ _ _ k

set_option maxRecDepth 100000 in
set_option maxHeartbeats 4000000 in
theorem byte_c (w0 w : World) (c : Nat) (hc : Cur w0 w c) :
    Calls Tryz.prog 94 #[.pointer (some ⟨c, 0, none⟩)] w (Drawn w0 c (IsInt 0 255) w) := by
  obtain ⟨a, len, cap, z, i, h, hz, hge, hb, hi, hblk⟩ := hc
  have HZ := Lib.hid hz
  have HB := Lib.hid hb
  have HC := Lib.hid (show CurIs w c a len cap i h from hblk)
  have hlm := hz.2.2.1
  have e0 := HC.out.c0
  have e1 := HC.out.c1
  have e2 := HC.out.c2
  have f1 := HC.out.free 1
  have f2 := HC.out.free 2
  clear hblk hb hz
  unfold maxLen at hlm
  have hi0 : (0 : Int) ≤ (i : Int) := by omega
  have HEND := Lib.hid (fun (w' : World) (i2 : Nat) (h2 n : Int) (k1 : CurIs w' c a len cap i2 h2) (k2 : i2 ≤ len) (k3 : w.grownBy w' (some c)) (k4 : 0 ≤ n ∧ n ≤ 255) =>
    (show Drawn w0 c (IsInt 0 255) w (.returned (.int .i64 n)) w' from ⟨_, rfl, ⟨n, rfl, k4.1, k4.2⟩, ⟨a, len, cap, z, i2, h2, HZ.out, hge, HB.out.trans (below_of_grown k3 hge HB.out.size), k2, k1⟩, k3⟩))
  go_enter Tryz.func94, Tryz.ntmps94
  go_wp2_with fail
  obtain ⟨h2, hh2⟩ : ∃ h2, wrap64 (wrap64 (h * 6364136223846793005) + 1442695040888963407) = h2 := ⟨_, rfl⟩
  rw [hh2]
  clear hh2
  have HC1 := Lib.hid (HC.out.setH (h2 := h2))
  have HG1 := Lib.hid (grownBy_setCell w c 2 (.int .i64 h2))
  generalize w.setCell ⟨c, 2, none⟩ (.int .i64 h2) = W at *
  clear e0 e1 e2 f1 f2
  have e0 := HC1.out.c0
  have e1 := HC1.out.c1
  have e2 := HC1.out.c2
  have f1 := HC1.out.free 1
  rcases Nat.lt_or_ge i len with hil | hil
  · have p1 : (i : Int) < (len : Int) := by omega
    obtain ⟨_, hzl, _, hzr, hzo⟩ := HZ.out
    obtain ⟨x, hx⟩ := some_of_lt (xs := z) (k := i) (by omega)
    have hxo := hzo x (List.mem_of_getElem? hx)
    obtain ⟨b, off, hab, hbl, ha⟩ : ∃ b off, a = some ⟨b, off, none⟩ ∧ b < w0.heap.size ∧ w0.cell? ⟨b, off + i, none⟩ = some (.int .u8 x) := by
      rcases hzr with rfl | ⟨b, off, h1, h2, h3⟩
      · simp at hx
      · exact ⟨b, off, h1, h2, by simpa using h3 i x hx 0 _ rfl⟩
    subst hab
    have hax : W.cell? ⟨b, off + i, none⟩ = some (.int .u8 x) := (World.cell?_of_block ((below_of_grown HG1.out hge HB.out.size).block b hbl)).trans ((HB.out.cell (p := ⟨b, off + i, none⟩) hbl).trans ha)
    have x0 := hxo.1
    have x1 := hxo.2
    clear hzl hzr hzo hx hxo ha
    go_quiet (fail)
    go_wp2_with fail
    go_quiet (fail)
    go_wp2_with fail
    go_quiet (fail)
    go_wp2
    go_ret
    exact HEND.out _ (i + 1) h2 _ (HC1.out.setI (by omega)) (by omega) (grownBy_trans HG1.out (grownBy_trans (grownBy_of_below (below_drewN (Below.refl _ _) _) _) (grownBy_setCell _ c 1 _))) (i64_and255 _)
  · have p1 : ¬ (i : Int) < (len : Int) := by omega
    go_quiet (fail)
    go_wp2_with fail
    go_quiet (fail)
    go_wp2
    go_ret
    exact HEND.out _ i h2 _ HC1.out hi (grownBy_trans HG1.out (grownBy_of_below (below_drewN (below_drewN (Below.refl _ _) _) _) _)) (i64_and255 _)

/-- A number below n. -/
def IsBelow (n : Int) (v : Value) (_ : World) : Prop := ∃ m : Int, v = .int .i64 m ∧ 0 ≤ m ∧ (0 < n → m < n) ∧ (n ≤ 0 → m = 0)
set_option maxHeartbeats 2000000 in
theorem below_c (w0 w : World) (c : Nat) (n : Int) (hc : Cur w0 w c) (hn : n ≤ 9223372036854775807) :
    Calls Tryz.prog 58 #[.pointer (some ⟨c, 0, none⟩), .int .i64 n] w (Drawn w0 c (IsBelow n) w) := by
  have HC := Lib.hid hc
  clear hc
  by_cases h0 : n ≤ 0
  · have HEND := Lib.hid (show Drawn w0 c (IsBelow n) w (.returned (.int .i64 0)) w from ⟨_, rfl, ⟨0, rfl, Int.le_refl _, fun h => by omega, fun _ => rfl⟩, HC.out, grownBy_refl _ _⟩)
    go_enter Tryz.func58, Tryz.ntmps58
    go_wp2
    go_ret
    exact HEND.out
  · have hp : 0 < n := by omega
    by_cases h256 : n ≤ 256
    · have K := Lib.hid (byte_c w0 w c HC.out)
      go_enter Tryz.func58, Tryz.ntmps58
      go_wp2_with fail
      refine K.out.mono ?_
      rintro e w1 ⟨v, rfl, ⟨x, rfl, x0, x1⟩, hc1, hg1⟩
      obtain ⟨y, hy⟩ : ∃ y, x % n = y := ⟨_, rfl⟩
      have hy0 : 0 ≤ y := by rw [← hy]; exact Int.emod_nonneg _ (by omega)
      have hy1 : y < n := by rw [← hy]; exact Int.emod_lt_of_pos _ hp
      have hm : x.tmod n = y := by rw [← hy, Int.tmod_eq_emod_of_nonneg x0]
      have HEND := Lib.hid (show Drawn w0 c (IsBelow n) w (.returned (.int .i64 y)) w1 from ⟨_, rfl, ⟨y, rfl, hy0, fun _ => hy1, fun h => by omega⟩, hc1, hg1⟩)
      clear hc1 hg1
      go_wp2
      go_ret
      exact HEND.out
    · have K := Lib.hid (fun W (h : Cur w0 W c) => byte_c w0 W c h)
      go_enter Tryz.func58, Tryz.ntmps58
      go_wp2_with fail
      refine (K.out _ HC.out).mono ?_
      rintro e w1 ⟨v, rfl, ⟨x, rfl, x0, x1⟩, hc1, hg1⟩
      have HC1 := Lib.hid hc1
      have HG1 := Lib.hid hg1
      clear hc1 hg1
      go_wp2_with fail
      refine (K.out _ HC1.out).mono ?_
      rintro e w2 ⟨v, rfl, ⟨y, rfl, y0, y1⟩, hc2, hg2⟩
      have HC2 := Lib.hid hc2
      have HG2 := Lib.hid (grownBy_trans HG1.out hg2)
      clear hc2 hg2
      go_wp2_with fail
      refine (K.out _ HC2.out).mono ?_
      rintro e w3 ⟨v, rfl, ⟨z, rfl, z0, z1⟩, hc3, hg3⟩
      have HC3 := Lib.hid hc3
      have HG3 := Lib.hid (grownBy_trans HG2.out hg3)
      clear hc3 hg3
      go_wp2_with fail
      refine (K.out _ HC3.out).mono ?_
      rintro e w4 ⟨v, rfl, ⟨t, rfl, t0, t1⟩, hc4, hg4⟩
      have HC4 := Lib.hid hc4
      have HG4 := Lib.hid (grownBy_trans HG3.out hg4)
      clear hc4 hg4
      obtain ⟨s, hs⟩ : ∃ s, x * 16777216 + y * 65536 + z * 256 + t = s := ⟨_, rfl⟩
      have hs0 : 0 ≤ s := by omega
      obtain ⟨r, hr⟩ : ∃ r, s % n = r := ⟨_, rfl⟩
      have hr0 : 0 ≤ r := by rw [← hr]; exact Int.emod_nonneg _ (by omega)
      have hr1 : r < n := by rw [← hr]; exact Int.emod_lt_of_pos _ hp
      have hm : s.tmod n = r := by rw [← hr, Int.tmod_eq_emod_of_nonneg hs0]
      have HEND := Lib.hid (show Drawn w0 c (IsBelow n) w (.returned (.int .i64 r)) w4 from ⟨_, rfl, ⟨r, rfl, hr0, fun _ => hr1, fun h => by omega⟩, HC4.out, HG4.out⟩)
      go_wp2
      go_ret
      exact HEND.out
def IsBool (v : Value) (_ : World) : Prop := ∃ b : Bool, v = .bool b
theorem once_c (w0 w : World) (c : Nat) (n : Int) (hc : Cur w0 w c) (hn : n ≤ 9223372036854775807) :
    Calls Tryz.prog 63 #[.pointer (some ⟨c, 0, none⟩), .int .i64 n] w (Drawn w0 c IsBool w) := by
  have K := Lib.hid (below_c w0 w c n hc hn)
  clear hc
  go_enter Tryz.func63, Tryz.ntmps63
  go_wp2_with fail
  refine K.out.mono ?_
  rintro e w1 ⟨v, rfl, ⟨x, rfl, _, _, _⟩, hc1, hg1⟩
  have HEND := Lib.hid (fun b => (show Drawn w0 c IsBool w (.returned (.bool b)) w1 from ⟨_, rfl, ⟨b, rfl⟩, hc1, hg1⟩))
  clear hc1 hg1
  go_wp2
  go_ret
  exact HEND.out _
/-- One of the texts. -/
def IsOneOf (xs : List ByteArray) (v : Value) (_ : World) : Prop := ∃ s, v = .string s ∧ s ∈ xs
theorem pick_c (w0 w : World) (c : Nat) (a : Option Addr) (cap : Nat) (xs : List ByteArray) (hc : Cur w0 w c) (hlen : 0 < xs.length) (hl2 : xs.length ≤ maxLen) (hr : Reads w a 1 encS xs) (hne : ∀ b off, a = some ⟨b, off, none⟩ → b ≠ c) :
    Calls Tryz.prog 65 #[.pointer (some ⟨c, 0, none⟩), .slice a xs.length cap] w (Drawn w0 c (IsOneOf xs) w) := by
  unfold maxLen at hl2
  have K := Lib.hid (below_c w0 w c (xs.length : Int) hc (by omega))
  have HR := Lib.hid hr
  have HN := Lib.hid hne
  clear hc hr hne
  go_enter Tryz.func65, Tryz.ntmps65
  go_wp2_with fail
  refine K.out.mono ?_
  rintro e w1 ⟨v, rfl, ⟨x, rfl, x0, x1, _⟩, hc1, hg1⟩
  have hx1 := x1 (by omega)
  obtain ⟨k, rfl⟩ : ∃ k : Nat, x = (k : Int) := ⟨x.toNat, by omega⟩
  obtain ⟨y, hy⟩ := some_of_lt (xs := xs) (k := k) (by omega)
  obtain ⟨b, off, hab, c0⟩ := readFS HR.out (Below.refl _ _) hy
  have hbn := HN.out b off hab
  have c1 : w1.cell? ⟨b, off + k, none⟩ = some (.string y) := (World.cell?_of_block (hg1.block b (World.block_lt_of_cell? w _ c0) (fun e => hbn (by cases e; rfl)))).trans c0
  subst hab
  have HEND := Lib.hid (show Drawn w0 c (IsOneOf xs) w (.returned (.string y)) w1 from ⟨_, rfl, ⟨y, rfl, List.mem_of_getElem? hy⟩, hc1, hg1⟩)
  clear hc1 hg1 hy c0 x1
  go_wp2
  go_ret
  exact HEND.out
end Go.Proofs.YtihghflppegnmaaGreatDoor
namespace Go.Proofs.YtihghflppegnmaaGreatDoor
open Go.ChangeShapes Go.WideShapes Go.ChangeAt Go.RowKit
attribute [local go_sem ↓] Go.wp_at_zero Go.wp_at_succ
/-- A cursor over the bytes. -/
def Begun (w : World) (e : Ending) (w' : World) : Prop := ∃ c, e = .returned (.pointer (some ⟨c, 0, none⟩)) ∧ Cur w w' c
set_option maxRecDepth 100000 in
set_option maxHeartbeats 2000000 in
theorem new_c (a : Option Addr) (len cap : Nat) (z : List Int) (w : World) (hz : IsRow .u8 w a len cap z) :
    Calls Tryz.prog 57 #[.slice a len cap] w (Begun w) := by
  have HZ := Lib.hid hz
  have hlm := hz.2.2.1
  unfold maxLen at hlm
  have HEND := Lib.hid (fun (h : Int) => (show Begun w (.returned (.pointer (some ⟨w.heap.size, 0, none⟩))) (w.alloc (.cells #[.slice a len cap, .int .i64 0, .int .i64 h] 127)) from
    ⟨w.heap.size, rfl, a, len, cap, z, 0, h, HZ.out, Nat.le_refl _, (by repeat (first | exact Below.refl _ _ | refine Below.drew ?_ | refine below_drewN ?_ _ | refine Below.allocC ?_ _ | refine Below.setCell ?_ (by first | (simp; done) | (simp; omega)) _ | refine Below.chain ?_ (by assumption))), Nat.zero_le _, heap_alloc_new w _⟩))
  clear hz
  go_enter Tryz.func57, Tryz.ntmps57
  go_wp2
  go_loop [3, 4] (fun h i => ∃ (hh : Int) (k : Nat), h = .int .i64 hh ∧ i = .int .i64 k ∧ k ≤ len) (fun _ i => len - (intOf i).toNat)
  case atStart => exact ⟨_, 0, rfl, rfl, Nat.zero_le _⟩
  case round =>
    obtain ⟨hh, k, rfl, rfl, hk⟩ := hrel
    have p0 : (0 : Int) ≤ (k : Int) := by omega
    by_cases hlt : k < len
    · have p1 : (k : Int) < (len : Int) := by omega
      by_cases h4 : (k : Int) < 4000
      · obtain ⟨_, hzl, _, hzr, hzo⟩ := HZ.out
        obtain ⟨x, hx⟩ := some_of_lt (xs := z) (k := k) (by omega)
        have hxo := hzo x (List.mem_of_getElem? hx)
        obtain ⟨b, off, hab, ha⟩ : ∃ b off, a = some ⟨b, off, none⟩ ∧ w.cell? ⟨b, off + k, none⟩ = some (.int .u8 x) := by
          rcases hzr with rfl | ⟨b, off, h1, h2, h3⟩
          · simp at hx
          · exact ⟨b, off, h1, by simpa using h3 k x hx 0 _ rfl⟩
        subst hab
        have x0 := hxo.1
        have x1 := hxo.2
        clear hzl hzr hzo hx hxo
        go_wp2
        go_round
        case rel => exact ⟨_, k + 1, rfl, by go_num, by omega⟩
        case measure => simp [intOf]; omega
      · go_wp2
        go_ret
        exact HEND.out _
    · have p1 : ¬ (k : Int) < (len : Int) := by omega
      go_wp2
      go_ret
      exact HEND.out _
/-- A text of at most n bytes. -/
def IsText (n : Nat) (v : Value) (_ : World) : Prop := ∃ s : ByteArray, v = .string s ∧ s.size ≤ n
/-- The spans that are drawn. -/
def spanList : List ByteArray := [⟨#[97]⟩, ⟨#[98]⟩, ⟨#[110, 47, 120]⟩, ⟨#[110, 47, 121]⟩, ⟨#[110, 47, 121, 121]⟩, ⟨#[110, 47, 42]⟩, ⟨#[110, 47, 121, 42]⟩, ⟨#[105, 47, 49, 47, 42]⟩, ⟨#[105, 47, 49, 47, 115]⟩, ⟨#[105, 47, 42]⟩, ⟨#[42]⟩, ⟨#[105, 47, 49, 50, 47, 115]⟩]
def keyList : List ByteArray := [⟨#[97]⟩, ⟨#[98]⟩, ⟨#[110, 47, 120]⟩, ⟨#[110, 47, 121]⟩, ⟨#[110, 47, 121, 121]⟩, ⟨#[105, 47, 49, 47, 115]⟩, ⟨#[105, 47, 49, 47, 98, 47, 48]⟩, ⟨#[105, 47, 49, 50, 47, 115]⟩, ⟨#[99, 47, 112, 105, 112, 101]⟩, ⟨#[112, 47, 49, 47, 104]⟩]
/-- A row of texts just made. -/
theorem reads_new (w : World) (xs : List ByteArray) (T : TypeId) : Reads (w.alloc (.cells (xs.flatMap encS).toArray T)) (some ⟨w.heap.size, 0, none⟩) 1 encS xs :=
  .inr ⟨w.heap.size, 0, rfl, by simp, fun i x hx j v hv => by
    have hj : j = 0 := by
      have := (List.getElem?_eq_some_iff.1 hv).1
      simp [encS] at this; omega
    subst hj
    have h := getElem_flatMap encS_len xs i 0 x hx (by decide)
    rw [Nat.zero_add]
    exact (Box.new w (xs.flatMap encS) T).cell _ v (h.trans hv)⟩
theorem pickNew_c (w0 w : World) (c : Nat) (xs : List ByteArray) (T : TypeId) (n : Nat) (hn : n = xs.length) (hc : Cur w0 w c) (hlen : 0 < xs.length) (hl2 : xs.length ≤ maxLen) :
    Calls Tryz.prog 65 #[.pointer (some ⟨c, 0, none⟩), .slice (some ⟨w.heap.size, 0, none⟩) n n] (w.alloc (.cells (xs.flatMap encS).toArray T)) (Drawn w0 c (IsOneOf xs) w) := by
  subst hn
  refine (pick_c w0 _ c _ _ xs (hc.below ((Below.refl _ _).alloc (Nat.le_refl _) _)) hlen hl2 (reads_new w xs T) (fun b off e => ?_)).mono fun e w' h => Drawn.from (grownBy_of_below ((Below.refl _ _).alloc (Nat.le_refl _) _) _) h
  cases e
  have := hc.lt
  omega
/-- An own row above the cursor that a draw leaves. -/
theorem own_far {w w' : World} {base T K n c : Nat} {v : Value} {cells : List Value} (h : w.ownsRow base T K v n cells) (hg : w.grownBy w' (some c)) (hc : c < base) : w'.ownsRow base T K v n cells :=
  h.kept hg (by
    cases hv : v.ownBlock with
    | none => simp
    | some b => have := (h.lt b hv).1; simp; omega)
theorem grown_own {w W w' : World} {T K n c : Nat} {v : Value} {cells : List Value} (h1 : w.grownBy W (some c)) (ho : W.ownsRow w.heap.size T K v n cells) (h2 : W.grownBy w' v.ownBlock) : w.grownBy w' (some c) :=
  ⟨h2.os.trans h1.os, h2.tape.trans h1.tape, h2.output.trans h1.output, Nat.le_trans h1.size h2.size, fun k hk hne =>
    (h2.block k (Nat.lt_of_lt_of_le hk h1.size) (fun e => by have := (ho.lt k e.symm).1; omega)).trans (h1.block k hk hne)⟩
theorem Cur.own {w0 w w' : World} {T K n c base : Nat} {v : Value} {cells : List Value} (h : Cur w0 w c) (ho : w.ownsRow base T K v n cells) (hb : c < base) (hg : w.grownBy w' v.ownBlock) : Cur w0 w' c := by
  have hlt := h.lt
  have hge := h.ge
  obtain ⟨a, len, cap, z, i, x, h1, h2, h3, h4, h5⟩ := h
  refine ⟨a, len, cap, z, i, x, h1, h2, ⟨hg.os.trans h3.os, hg.tape.trans h3.tape, hg.output.trans h3.output, Nat.le_trans h3.size hg.size, fun k hk => ?_⟩, h4, (hg.block c hlt (fun e => by have := (ho.lt c e.symm).1; omega)).trans h5⟩
  exact (hg.block k (Nat.lt_of_lt_of_le hk h3.size) (fun e => by have := (ho.lt k e.symm).1; omega)).trans (h3.block k hk)
theorem own_empty (W : World) (T K : Nat) : (W.alloc (.cells #[] T)).ownsRow W.heap.size T K (.slice (some ⟨W.heap.size, 0, none⟩) 0 0) 0 [] :=
  ⟨by simp, .inr ⟨W.heap.size, 0, #[], rfl, Nat.le_refl _, heap_alloc_new W _, Nat.le_refl _, Nat.zero_le _, by simp, by simp⟩⟩

set_option maxRecDepth 100000 in
set_option maxHeartbeats 4000000 in
theorem text_c (w0 w : World) (c : Nat) (n : Int) (hc : Cur w0 w c) (hn : n ≤ 5000) :
    Calls Tryz.prog 146 #[.pointer (some ⟨c, 0, none⟩), .int .i64 n] w (Drawn w0 c (IsText n.toNat) w) := by
  obtain ⟨i0, hi, hzz⟩ := Option.map_eq_some_iff.1 infoByte
  simp only [Prod.mk.injEq] at hzz
  have HI := Lib.hid hi
  have HZ := Lib.hid hzz
  have hcl := hc.lt
  have HC := Lib.hid hc
  have HE0 := Lib.hid (own_empty w 5 1)
  clear hi hzz hc
  have p5 : ¬ (5000 : Int) < n := by omega
  go_enter Tryz.func146, Tryz.ntmps146
  go_wp2
  go_loopw [5, 6] (fun v i wr => ∃ (k : Nat) (E : List UInt8), i = .int .i64 k ∧ k ≤ n.toNat ∧ E.length = k ∧ Hid (wr.ownsRow w.heap.size 5 1 v k (E.flatMap encB)) ∧ Hid (Cur w0 wr c) ∧ Hid (w.grownBy wr (some c))) (fun _ i _ => n.toNat - (intOf i).toNat)
  case atStart => exact ⟨0, [], rfl, Nat.zero_le _, rfl, HE0, Lib.hid (HC.out.below (by repeat (first | exact Below.refl _ _ | refine Below.drew ?_ | refine below_drewN ?_ _ | refine Below.allocC ?_ _ | refine Below.setCell ?_ (by first | (simp; done) | (simp; omega)) _ | refine Below.chain ?_ (by assumption)))), Lib.hid (grownBy_of_below (by repeat (first | exact Below.refl _ _ | refine Below.drew ?_ | refine below_drewN ?_ _ | refine Below.allocC ?_ _ | refine Below.setCell ?_ (by first | (simp; done) | (simp; omega)) _ | refine Below.chain ?_ (by assumption))) _)⟩
  case round =>
    obtain ⟨k, E, rfl, hk, hE, HW, HCr, HG⟩ := hrel
    have HEL := Lib.hid hE
    have p0 : (0 : Int) ≤ (k : Int) := by omega
    by_cases hlt : (k : Int) < n
    · have K := Lib.hid (byte_c w0 wr c HCr.out)
      clear hE
      go_wp2_with fail
      refine K.out.mono ?_
      rintro e w1 ⟨v, rfl, ⟨x, rfl, x0, x1⟩, hc1, hg1⟩
      have HC1 := Lib.hid hc1
      have HG1 := Lib.hid (grownBy_trans HG.out hg1)
      have HW1 := Lib.hid (own_far HW.out hg1 hcl)
      obtain ⟨ch, hch⟩ : ∃ ch, UInt8.ofNat x.toNat = ch := ⟨_, rfl⟩
      have HCH := Lib.hid (show encB ch = [.int .u8 x] by
        unfold encB
        rw [← hch, UInt8.toNat_ofNat', Nat.mod_eq_of_lt (by omega)]
        congr 2
        omega)
      have hs1 : w.heap.size ≤ w1.heap.size := HG1.out.size
      clear hc1 hg1 hch HW HG HCr
      go_wp2_with (at_builtin; refine wpList_append_own2 _ rfl _ _ 22 rfl w.heap.size 5 i0 _ 1 1 Tryz.underlying22 HI.out HZ.out.1 HZ.out.2.1 HZ.out.2.2 rfl (by decide) _ _ _ rfl (HW1.out.alloc _) ⟨w1.heap.size, 0, none⟩ 1 1 [.int .u8 x] rfl rfl (box_news (Box.new _ _ _)) (by intro u hu; simp at hu; subst hu; rfl) (by unfold maxLen; omega) (by omega) (by simp; omega) ?_)
      intro v' w' o2 g2 or2
      have HG2 := Lib.hid (grown_own (grownBy_below2 HG1.out (show Below w1.heap.size w1 (w1.alloc (.cells #[.int .u8 x] 5)) from (by repeat (first | exact Below.refl _ _ | refine Below.drew ?_ | refine below_drewN ?_ _ | refine Below.allocC ?_ _ | refine Below.setCell ?_ (by first | (simp; done) | (simp; omega)) _ | refine Below.chain ?_ (by assumption))))) (HW1.out.alloc _) g2)
      have HC2 := Lib.hid (Cur.own (HC1.out.below (show Below w1.heap.size w1 (w1.alloc (.cells #[.int .u8 x] 5)) from (by repeat (first | exact Below.refl _ _ | refine Below.drew ?_ | refine below_drewN ?_ _ | refine Below.allocC ?_ _ | refine Below.setCell ?_ (by first | (simp; done) | (simp; omega)) _ | refine Below.chain ?_ (by assumption))))) (HW1.out.alloc _) hcl g2)
      have HW2 := Lib.hid (show w'.ownsRow w.heap.size 5 1 v' (k + 1) ((E ++ [ch]).flatMap encB) from by
        rw [List.flatMap_append, List.flatMap_cons, List.flatMap_nil, List.append_nil, HCH.out]; exact o2)
      have HL2 := Lib.hid (show (E ++ [ch]).length = k + 1 from by rw [List.length_append, HEL.out]; rfl)
      clear o2 g2 or2 HW1 HC1 HG1
      go_wp2
      go_roundw
      case rel => exact ⟨k + 1, E ++ [ch], by go_num, by omega, HL2.out, HW2, HC2, HG2⟩
      case measure => simp [intOf]; omega
    · have hcv := convB wr w.heap.size 5 u5 E k hE.symm HW.out
      have HEND := Lib.hid (show Drawn w0 c (IsText n.toNat) w (.returned (.string ⟨E.toArray⟩)) wr from ⟨_, rfl, ⟨_, rfl, by show E.toArray.size ≤ _; rw [List.size_toArray, hE]; exact hk⟩, HCr.out, HG.out⟩)
      clear hE HW HCr HG
      go_wp2
      go_ret
      exact HEND.out

theorem rep_flat (n : Nat) (x : UInt8) : (List.replicate n x).flatMap encB = List.replicate n (.int .u8 (x.toNat : Int)) := by
  induction n with
  | zero => rfl
  | succ n ih => rw [List.replicate_succ, List.flatMap_cons, ih]; rfl
set_option maxHeartbeats 4000000 in
theorem long_c (n : Nat) (x : UInt8) (w : World) (hn : n ≤ 100000) :
    Calls Tryz.prog 126 #[.int .i64 (n : Int), .int .u8 (x.toNat : Int)] w fun e w' => e = .returned (.string ⟨(List.replicate n x).toArray⟩) ∧ Below w.heap.size w w' := by
  have hmk := make_eq (P := Tryz.prog) 22 5 1 1 _ Tryz.underlying22 infoByte n (by omega) (by omega)
  have p0 : (0 : Int) ≤ (n : Int) := by omega
  go_enter Tryz.func126, Tryz.ntmps126
  go_wp2
  go_loopw [6] (fun i wr => ∃ k : Nat, k ≤ n ∧ i = .int .i64 k ∧ Hid (Filling wr w.heap.size 5 1 n ((List.replicate k x).flatMap encB)) ∧ Below w.heap.size w wr) (fun i _ => n - (intOf i).toNat)
  case atStart => exact ⟨0, Nat.zero_le _, rfl, Lib.hid (by simpa using Filling.made w _ _ 1 n), (by repeat (first | exact Below.refl _ _ | refine Below.drew ?_ | refine below_drewN ?_ _ | refine Below.allocC ?_ _ | refine Below.setCell ?_ (by first | (simp; done) | (simp; omega)) _ | refine Below.chain ?_ (by assumption)))⟩
  case round =>
    obtain ⟨k, hk, rfl, HF, hb⟩ := hrel
    clear hmk
    have q0 : (0 : Int) ≤ (k : Int) := by omega
    by_cases hlt : k < n
    · have q1 : (k : Int) < (n : Int) := by omega
      have hdl : ((List.replicate k x).flatMap encB).length = k := by rw [rep_flat]; simp
      have F3 := HF.out.stores [.int .u8 (x.toNat : Int)] k hdl.symm (by rw [hdl]; simp; omega)
      have H3 := Lib.hid (show Filling _ w.heap.size 5 1 n ((List.replicate (k + 1) x).flatMap encB) by
        rw [List.replicate_succ', List.flatMap_append]; exact F3)
      have hB := Lib.hid (below_of_grown (sets_grown [.int .u8 (x.toNat : Int)] wr w.heap.size k) (Nat.le_refl w.heap.size) hb.size)
      have D2 := Lib.hid hb
      have f0 := HF.out.free k
      obtain ⟨o0, z0⟩ := HF.out.cell k (by omega)
      clear F3 HF hdl
      go_wp2
      go_roundw
      case rel => exact ⟨k + 1, by omega, by go_num, H3, D2.out.trans hB.out⟩
      case measure => simp [intOf]; omega
    · obtain rfl : k = n := by omega
      have q1 : ¬ (k : Int) < (k : Int) := by omega
      have hO := HF.out.owns (base := w.heap.size) (by rw [rep_flat]; simp) (Nat.le_refl _) (by unfold maxLen; omega)
      have hcv := convB wr w.heap.size 5 _ (List.replicate k x) k (by simp) hO
      clear HF hO
      go_wp2
      go_ret
      exact ⟨rfl, hb⟩
def longK (n : Nat) (x : UInt8) : ByteArray := ⟨(List.replicate n x).toArray⟩
theorem longK_size (n : Nat) (x : UInt8) : (longK n x).size = n := by show (List.replicate n x).toArray.size = n; simp
/-- The keys that are drawn once in a while. -/
def oddList : List ByteArray := [⟨#[]⟩, ⟨#[97, 32, 98]⟩, ⟨#[110, 47, 42]⟩, ⟨#[127]⟩, longK 40 97, longK 41 97]
def anyList : List ByteArray := oddList ++ keyList
/-- Two texts out of a list each. -/
def TwoOf (xs ys : List ByteArray) (w : World) (e : Ending) (w' : World) : Prop := ∃ s t, e = .returned (.tuple #[.string s, .string t]) ∧ s ∈ xs ∧ t ∈ ys ∧ Below w.heap.size w w'
end Go.Proofs.YtihghflppegnmaaGreatDoor
namespace Go.Proofs.YtihghflppegnmaaGreatDoor
open Go.ChangeShapes Go.WideShapes Go.ChangeAt Go.RowKit
attribute [local go_sem ↓] Go.wp_at_zero Go.wp_at_succ
def encI (x : Int) : List Value := [.int .i64 x]
theorem encI_len (x : Int) : (encI x).length = 1 := rfl
theorem infoInt : (Tryz.prog.info? 3).map (fun i => (i.zero, i.size, i.bytes)) = some (some (.int .i64 0), 1, 8) := by kernel_rfl
/-- Twelve numbers below 10000, in memory of their own. -/
def IsPlaces (w : World) (e : Ending) (w' : World) : Prop := ∃ a cap xs, e = .returned (.slice a 12 cap) ∧ xs.length = 12 ∧ (∀ x ∈ xs, 0 ≤ x ∧ x < 10000) ∧ Reads w' a 1 encI xs ∧ Below w.heap.size w w'
set_option maxRecDepth 100000 in
set_option maxHeartbeats 4000000 in
theorem drawPlaces_c (a : Option Addr) (len cap : Nat) (z : List Int) (w : World) (hz : IsRow .u8 w a len cap z) :
    Calls Tryz.prog 12 #[.slice a len cap] w (IsPlaces w) := by
  obtain ⟨i0, hi, hzz⟩ := Option.map_eq_some_iff.1 infoInt
  simp only [Prod.mk.injEq] at hzz
  have HI := Lib.hid hi
  have HZ := Lib.hid hzz
  have K := Lib.hid (new_c a len cap z w hz)
  have KB := Lib.hid (fun W c (h : Cur w W c) => below_c w W c 10000 h (by decide))
  clear hi hzz hz
  go_enter Tryz.func12, Tryz.ntmps12
  go_wp2_with fail
  refine K.out.mono ?_
  rintro e w1 ⟨c, rfl, hc1⟩
  have HC1 := Lib.hid hc1
  have HB1 := Lib.hid hc1.base
  have hcl := hc1.lt
  have HE0 := Lib.hid (own_empty w1 3 1)
  clear hc1
  go_wp2
  go_loopw [4, 5] (fun v i wr => ∃ (k : Nat) (E : List Int), i = .int .i64 k ∧ k ≤ 12 ∧ E.length = k ∧ Hid (∀ x ∈ E, 0 ≤ x ∧ x < 10000) ∧ Hid (wr.ownsRow w1.heap.size 3 1 v k (E.flatMap encI)) ∧ Hid (Cur w wr c) ∧ Hid (w1.grownBy wr (some c))) (fun _ i _ => 12 - (intOf i).toNat)
  case atStart => exact ⟨0, [], rfl, Nat.zero_le _, rfl, Lib.hid (fun x h => by cases h), HE0, Lib.hid (HC1.out.below (by repeat (first | exact Below.refl _ _ | refine Below.drew ?_ | refine below_drewN ?_ _ | refine Below.allocC ?_ _ | refine Below.setCell ?_ (by first | (simp; done) | (simp; omega)) _ | refine Below.chain ?_ (by assumption)))), Lib.hid (grownBy_of_below (by repeat (first | exact Below.refl _ _ | refine Below.drew ?_ | refine below_drewN ?_ _ | refine Below.allocC ?_ _ | refine Below.setCell ?_ (by first | (simp; done) | (simp; omega)) _ | refine Below.chain ?_ (by assumption))) _)⟩
  case round =>
    obtain ⟨k, E, rfl, hk, hE, HIN, HW, HCr, HG⟩ := hrel
    have HEL := Lib.hid hE
    have p0 : (0 : Int) ≤ (k : Int) := by omega
    by_cases hlt : (k : Int) < 12
    · have K2 := Lib.hid (KB.out wr c HCr.out)
      clear hE
      go_wp2_with fail
      refine K2.out.mono ?_
      rintro e w2 ⟨v, rfl, ⟨x, rfl, x0, x1, _⟩, hc2, hg2⟩
      have x2 := x1 (by decide)
      have HC2 := Lib.hid hc2
      have HG2 := Lib.hid (grownBy_trans HG.out hg2)
      have HW2 := Lib.hid (own_far HW.out hg2 hcl)
      have HIN2 := Lib.hid (show ∀ y ∈ E ++ [x], 0 ≤ y ∧ y < 10000 from fun y hy => by
        rcases List.mem_append.1 hy with h | h
        · exact HIN.out y h
        · have := List.mem_singleton.1 h
          subst this
          exact ⟨x0, x2⟩)
      have hs1 : w1.heap.size ≤ w2.heap.size := HG2.out.size
      clear hc2 hg2 HW HG HCr HIN x1
      go_wp2_with (at_builtin; refine wpList_append_own2 _ rfl _ _ 24 rfl w1.heap.size 3 i0 _ 1 8 Tryz.underlying24 HI.out HZ.out.1 HZ.out.2.1 HZ.out.2.2 rfl (by decide) _ _ _ rfl (HW2.out.alloc _) ⟨w2.heap.size, 0, none⟩ 1 1 [.int .i64 x] rfl rfl (box_news (Box.new _ _ _)) (by intro u hu; simp at hu; subst hu; rfl) (by unfold maxLen; omega) (by omega) (by simp; omega) ?_)
      intro v' w' o2 g2 or2
      have HG3 := Lib.hid (grown_own (grownBy_below2 HG2.out (show Below w2.heap.size w2 (w2.alloc (.cells #[.int .i64 x] 3)) from (by repeat (first | exact Below.refl _ _ | refine Below.drew ?_ | refine below_drewN ?_ _ | refine Below.allocC ?_ _ | refine Below.setCell ?_ (by first | (simp; done) | (simp; omega)) _ | refine Below.chain ?_ (by assumption))))) (HW2.out.alloc _) g2)
      have HC3 := Lib.hid (Cur.own (HC2.out.below (show Below w2.heap.size w2 (w2.alloc (.cells #[.int .i64 x] 3)) from (by repeat (first | exact Below.refl _ _ | refine Below.drew ?_ | refine below_drewN ?_ _ | refine Below.allocC ?_ _ | refine Below.setCell ?_ (by first | (simp; done) | (simp; omega)) _ | refine Below.chain ?_ (by assumption))))) (HW2.out.alloc _) hcl g2)
      have HW3 := Lib.hid (show w'.ownsRow w1.heap.size 3 1 v' (k + 1) ((E ++ [x]).flatMap encI) from by
        rw [List.flatMap_append]; exact o2)
      have HL3 := Lib.hid (show (E ++ [x]).length = k + 1 from by rw [List.length_append, HEL.out]; rfl)
      clear o2 g2 or2 HW2 HC2 HG2
      go_wp2
      go_roundw
      case rel => exact ⟨k + 1, E ++ [x], by go_num, by omega, HL3.out, HIN2, HW3, HC3, HG3⟩
      case measure => simp [intOf]; omega
    · obtain rfl : k = 12 := by omega
      have h12 : wr.ownsRow w.heap.size 3 1 u4 E.length (E.flatMap encI) := by rw [hE]; exact ownsRow_base HW.out HB1.out.size
      obtain ⟨a', cap', hv, hr⟩ := reads_of_owns encI_len h12
      rw [hE] at hv
      have HEND := Lib.hid (show IsPlaces w (.returned u4) wr from ⟨a', cap', E, by rw [hv], hE, HIN.out, hr, HCr.out.base⟩)
      clear hE HW HCr HG h12 hv hr HIN
      go_wp2
      go_ret
      exact HEND.out
end Go.Proofs.YtihghflppegnmaaGreatDoor
namespace Go.Proofs.YtihghflppegnmaaGreatDoor
open Go.RowKit
theorem big_no (a : Option Addr) (len cap : Nat) (w : World) (h : len ≤ 1048576) : Calls Tryz.prog 11 #[.slice a len cap] w fun e w' => e = .returned (.bool false) ∧ w = w' := by
  have p : ¬ (1048576 : Int) < (len : Int) := by omega
  go_enter Tryz.func11, Tryz.ntmps11
  go_wp2
  go_ret
  exact ⟨by first | (simp; done) | (simp; omega), rfl⟩
theorem big_yes (a : Option Addr) (len cap : Nat) (w : World) (h : 1048576 < len) : Calls Tryz.prog 11 #[.slice a len cap] w fun e w' => e = .returned (.bool true) ∧ w = w' := by
  have p : (1048576 : Int) < (len : Int) := by omega
  go_enter Tryz.func11, Tryz.ntmps11
  go_wp2
  go_ret
  exact ⟨by first | (simp; done) | (simp; omega), rfl⟩
theorem IsRow.below {k : IntKind} {w w' : World} {a : Option Addr} {len cap : Nat} {z : List Int} (h : IsRow k w a len cap z) (hb : Below w.heap.size w w') : IsRow k w' a len cap z :=
  ⟨h.1, h.2.1, h.2.2.1, h.2.2.2.1.below hb, h.2.2.2.2⟩
end Go.Proofs.YtihghflppegnmaaGreatDoor
