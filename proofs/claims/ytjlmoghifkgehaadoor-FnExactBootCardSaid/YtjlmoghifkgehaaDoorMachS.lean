/- Contracts of the reference's functions on a machine by value, up to l09SpawnProc. Conditions: the machine's slices can be read; bounds that any machine of this size meets. -/
import Derived.Test.YtjlmoghifkgehaaDoorMachM
namespace Go.Proofs.YtjlmoghifkgehaaDoor
open Go.ChangeShapes Go.WideShapes Go.ChangeAt Go.RowKit
attribute [local go_sem ↓] Go.wp_at_zero Go.wp_at_succ
/-- A slice's value that reads as xs. -/
def Rd0 {α : Type} (w : World) (K : Nat) (enc : α → List Value) (v : Value) (xs : List α) : Prop := ∃ a c, v = .slice a xs.length c ∧ Reads w a K enc xs ∧ xs.length ≤ c ∧ c ≤ maxLen
/-- The slice is the old one, or lies in memory at B or above. -/
def Out {α : Type} (B : Nat) (W : World) (T K : Nat) (enc : α → List Value) (v0 : Value) (xs0 : List α) (v : Value) (xs : List α) : Prop :=
  (v = v0 ∧ xs = xs0) ∨ W.ownsRow B T K v xs.length (xs.flatMap enc)
theorem Out.kept {α : Type} {B T K : Nat} {W W' : World} {enc : α → List Value} {v0 v : Value} {xs0 xs : List α} (h : Out B W T K enc v0 xs0 v xs) {b : Nat} (hg : W.grownBy W' (some b)) (hb : b < B) : Out B W' T K enc v0 xs0 v xs := by
  rcases h with h | h
  · exact .inl h
  · refine .inr (h.kept hg ?_)
    cases hv : v.ownBlock with
    | none => exact .inl rfl
    | some k => exact .inr (fun e => by cases e; have := (h.lt b hv).1; omega)
theorem Out.below {α : Type} {B T K : Nat} {W W' : World} {enc : α → List Value} {v0 v : Value} {xs0 xs : List α} (h : Out B W T K enc v0 xs0 v xs) (hb : Below W.heap.size W W') : Out B W' T K enc v0 xs0 v xs := by
  rcases h with h | h
  · exact .inl h
  · exact .inr (ownsRow_below h hb)
theorem Out.trans {α : Type} {B B' T K : Nat} {W : World} {enc : α → List Value} {v0 v u : Value} {xs0 xs xs' : List α} (h : Out B W T K enc v0 xs0 v xs) (h2 : Out B' W T K enc v xs u xs') (hb : B ≤ B') : Out B W T K enc v0 xs0 u xs' := by
  rcases h2 with ⟨rfl, rfl⟩ | h2
  · exact h
  · exact .inr (ownsRow_base h2 hb)
theorem Out.rd {α : Type} {B T K : Nat} {w W : World} {enc : α → List Value} {v0 v : Value} {xs0 xs : List α} (hk : ∀ x, (enc x).length = K) (h0 : Rd0 w K enc v0 xs0) (hb : Below w.heap.size w W) (h : Out B W T K enc v0 xs0 v xs) : Rd0 W K enc v xs := by
  rcases h with ⟨rfl, rfl⟩ | h
  · obtain ⟨a, c, e, r, l1, l2⟩ := h0
    exact ⟨a, c, e, r.below hb, l1, l2⟩
  · obtain ⟨a, c, e, r, l1, l2⟩ := reads_of_owns' hk h
    exact ⟨a, c, e, r, l1, l2⟩
/-- The machine's three slices can be read. -/
structure MRd (w : World) (v1 v2 v3 : Value) (m : Mch) : Prop where
  r1 : Rd0 w 2 encC v1 m.st
  r2 : Rd0 w 1 encS v2 m.rs
  r3 : Rd0 w 1 encS v3 m.ws
structure MOut (B : Nat) (W : World) (v1 v2 v3 : Value) (m : Mch) (u1 u2 u3 : Value) (m' : Mch) : Prop where
  o1 : Out B W 39 2 encC v1 m.st u1 m'.st
  o2 : Out B W 9 1 encS v2 m.rs u2 m'.rs
  o3 : Out B W 9 1 encS v3 m.ws u3 m'.ws
section
variable {B B' : Nat} {w W W' : World} {v1 v2 v3 u1 u2 u3 x1 x2 x3 : Value} {m m' m2 : Mch}
theorem MOut.refl : MOut B W v1 v2 v3 m v1 v2 v3 m := ⟨.inl ⟨rfl, rfl⟩, .inl ⟨rfl, rfl⟩, .inl ⟨rfl, rfl⟩⟩
theorem MOut.below (h : MOut B W v1 v2 v3 m u1 u2 u3 m') (hb : Below W.heap.size W W') : MOut B W' v1 v2 v3 m u1 u2 u3 m' := ⟨h.o1.below hb, h.o2.below hb, h.o3.below hb⟩
theorem MOut.set (h : MOut B W v1 v2 v3 m u1 u2 u3 m') {b : Nat} (hb : b < B) (i : Nat) (v : Value) : MOut B (W.setCell ⟨b, i, none⟩ v) v1 v2 v3 m u1 u2 u3 m' :=
  ⟨h.o1.kept (grownBy_setCell W b i v) hb, h.o2.kept (grownBy_setCell W b i v) hb, h.o3.kept (grownBy_setCell W b i v) hb⟩
theorem MOut.trans (h : MOut B W v1 v2 v3 m u1 u2 u3 m') (h2 : MOut B' W u1 u2 u3 m' x1 x2 x3 m2) (hb : B ≤ B') : MOut B W v1 v2 v3 m x1 x2 x3 m2 := ⟨h.o1.trans h2.o1 hb, h.o2.trans h2.o2 hb, h.o3.trans h2.o3 hb⟩
theorem MOut.rd (h0 : MRd w v1 v2 v3 m) (hb : Below w.heap.size w W) (h : MOut B W v1 v2 v3 m u1 u2 u3 m') : MRd W u1 u2 u3 m' := ⟨h.o1.rd encC_len h0.r1 hb, h.o2.rd encS_len h0.r2 hb, h.o3.rd encS_len h0.r3 hb⟩
theorem MOut.base (h : MOut B' W v1 v2 v3 m u1 u2 u3 m') (hb : B ≤ B') : MOut B W v1 v2 v3 m u1 u2 u3 m' := MOut.trans MOut.refl h hb
theorem MRd.below (h : MRd w v1 v2 v3 m) (hb : Below w.heap.size w W) : MRd W v1 v2 v3 m := MOut.rd (B := 0) h hb MOut.refl
/-- What the walk holds: the box of the machine, what its slices are, the older world. -/
structure SH (w : World) (bx B : Nat) (v1 v2 v3 : Value) (m : Mch) (u1 u2 u3 : Value) (m' : Mch) (W : World) : Prop where
  x : Box W bx [u1, u2, u3]
  bel : Below w.heap.size w W
  mo : MOut B W v1 v2 v3 m u1 u2 u3 m'
variable {bx : Nat}
theorem SH.below (h : SH w bx B v1 v2 v3 m u1 u2 u3 m' W) (hb : Below W.heap.size W W') : SH w bx B v1 v2 v3 m u1 u2 u3 m' W' := ⟨h.x.below hb, h.bel.trans (hb.mono h.bel.size), h.mo.below hb⟩
theorem SH.drew (h : SH w bx B v1 v2 v3 m u1 u2 u3 m' W) : SH w bx B v1 v2 v3 m u1 u2 u3 m' W.drew := h.below (by repeat (first | exact Below.refl _ _ | refine Below.drew ?_ | refine below_drewN ?_ _ | refine Below.allocC ?_ _ | refine Below.setCell ?_ (by first | (simp; done) | (simp; omega)) _ | refine Below.chain ?_ (by assumption)))
theorem SH.set (h : SH w bx B v1 v2 v3 m u1 u2 u3 m' W) {b : Nat} (hne : bx ≠ b) (hb : b < B) (hw : w.heap.size ≤ b) (i : Nat) (v : Value) : SH w bx B v1 v2 v3 m u1 u2 u3 m' (W.setCell ⟨b, i, none⟩ v) := by
  have hg := grownBy_setCell W b i v
  refine ⟨⟨Nat.lt_of_lt_of_le h.x.1 hg.size, h.x.2.elim fun T hT => ⟨T, (hg.block bx h.x.1 (fun e => by cases e; exact hne rfl)).trans hT⟩⟩, h.bel.trans (below_of_grown hg hw h.bel.size), h.mo.set hb i v⟩
/-- The box is written anew, whole. -/
theorem SH.put3 (h : SH w bx B v1 v2 v3 m u1 u2 u3 m' W) (hw : w.heap.size ≤ bx) (hb : bx < B) (hB : B ≤ B') (h2 : MOut B' W u1 u2 u3 m' x1 x2 x3 m2) : SH w bx B v1 v2 v3 m x1 x2 x3 m2 (((W.setCell ⟨bx, 0, none⟩ x1).setCell ⟨bx, 1, none⟩ x2).setCell ⟨bx, 2, none⟩ x3) := by
  have hg := grownBy_trans (grownBy_trans (grownBy_setCell W bx 0 x1) (grownBy_setCell _ bx 1 x2)) (grownBy_setCell _ bx 2 x3)
  exact ⟨box_put (box_put (box_put h.x 0 x1) 1 x2) 2 x3, h.bel.trans (below_of_grown hg hw h.bel.size), (((h.mo.trans h2 hB).set hb 0 x1).set hb 1 x2).set hb 2 x3⟩
end
/-- A machine and a value are returned. -/
def SRet (v1 v2 v3 : Value) (m m' : Mch) (r : Value) (w : World) (e : Ending) (w' : World) : Prop :=
  ∃ u1 u2 u3, e = .returned (.tuple #[.agg #[u1, u2, u3], r]) ∧ MOut w.heap.size w' v1 v2 v3 m u1 u2 u3 m' ∧ Below w.heap.size w w'
/-- A machine is returned. -/
def SRet1 (v1 v2 v3 : Value) (m m' : Mch) (w : World) (e : Ending) (w' : World) : Prop :=
  ∃ u1 u2 u3, e = .returned (.agg #[u1, u2, u3]) ∧ MOut w.heap.size w' v1 v2 v3 m u1 u2 u3 m' ∧ Below w.heap.size w w'
set_option maxRecDepth 100000 in
set_option maxHeartbeats 4000000 in
theorem sLook_c (v1 v2 v3 : Value) (m : Mch) (key : ByteArray) (w : World) (h : MRd w v1 v2 v3 m) (ho : MOk 1000000 m) :
    Calls Tryd.prog 22 #[.agg #[v1, v2, v3], .string key] w (SRet v1 v2 v3 m (lookM m key) (.string (getKeyS m.st key)) w) := by
  obtain ⟨a1, c1, hv1, R1, l1, L1⟩ := h.r1
  obtain ⟨a2, c2, hv2, R2, l2, L2⟩ := h.r2
  obtain ⟨a3, c3, hv3, R3, l3, L3⟩ := h.r3
  subst hv1 hv2 hv3
  have HR := Lib.hid h
  have HR1 := Lib.hid R1
  have HR2 := Lib.hid R2
  have HR3 := Lib.hid R3
  have B0 := Lib.hid ((Box.new w [.slice a1 m.st.length c1, .slice a2 m.rs.length c2, .slice a3 m.ws.length c3] 31).alloc (.cells #[.slice none 0 0, .slice none 0 0, .slice none 0 0] 31))
  have P0 := Lib.hid (show Box ((w.alloc (.cells #[.slice a1 m.st.length c1, .slice a2 m.rs.length c2, .slice a3 m.ws.length c3] 31)).alloc (.cells #[.slice none 0 0, .slice none 0 0, .slice none 0 0] 31)) (w.heap.size + 1) [.slice none 0 0, .slice none 0 0, .slice none 0 0] from by
    have h := Box.new (w.alloc (.cells #[.slice a1 m.st.length c1, .slice a2 m.rs.length c2, .slice a3 m.ws.length c3] 31)) [.slice none 0 0, .slice none 0 0, .slice none 0 0] 31
    rw [show (w.alloc (.cells #[.slice a1 m.st.length c1, .slice a2 m.rs.length c2, .slice a3 m.ws.length c3] 31)).heap.size = w.heap.size + 1 by simp] at h
    exact h)
  have hsz : (((w.alloc (.cells #[.slice a1 m.st.length c1, .slice a2 m.rs.length c2, .slice a3 m.ws.length c3] 31)).alloc (.cells #[.slice none 0 0, .slice none 0 0, .slice none 0 0] 31))).heap.size = w.heap.size + 2 := by simp
  have HS0 := Lib.hid (show SH w w.heap.size (w.heap.size + 2) (.slice a1 m.st.length c1) (.slice a2 m.rs.length c2) (.slice a3 m.ws.length c3) m (.slice a1 m.st.length c1) (.slice a2 m.rs.length c2) (.slice a3 m.ws.length c3) m ((w.alloc (.cells #[.slice a1 m.st.length c1, .slice a2 m.rs.length c2, .slice a3 m.ws.length c3] 31)).alloc (.cells #[.slice none 0 0, .slice none 0 0, .slice none 0 0] 31)) from ⟨B0.out, (by repeat (first | exact Below.refl _ _ | refine Below.drew ?_ | refine below_drewN ?_ _ | refine Below.allocC ?_ _ | refine Below.setCell ?_ (by first | (simp; done) | (simp; omega)) _ | refine Below.chain ?_ (by assumption))), MOut.refl⟩)
  have KA := Lib.hid (specAddSpan_c a2 c2 m.rs key ((w.alloc (.cells #[.slice a1 m.st.length c1, .slice a2 m.rs.length c2, .slice a3 m.ws.length c3] 31)).alloc (.cells #[.slice none 0 0, .slice none 0 0, .slice none 0 0] 31)) (by have := ho.l2; omega) (HR2.out.below (by repeat (first | exact Below.refl _ _ | refine Below.drew ?_ | refine below_drewN ?_ _ | refine Below.allocC ?_ _ | refine Below.setCell ?_ (by first | (simp; done) | (simp; omega)) _ | refine Below.chain ?_ (by assumption)))) l2 L2)
  have KG := Lib.hid (fun W (hb : Below w.heap.size w W) => specGetKey_c a1 c1 m.st key W (by have := ho.l1; unfold maxLen; omega) (HR1.out.below hb))
  obtain ⟨g, hg⟩ : ∃ g, getKeyS m.st key = g := ⟨_, rfl⟩
  rw [hg] at KG
  rw [hg]
  clear hg h R1 R2 R3 ho
  go_enter Tryd.func22, Tryd.ntmps22
  go_wp2_with fail
  refine KA.out.mono ?_
  rintro e w1 ⟨u, rfl, ho2, hb1⟩
  rw [hsz] at ho2
  obtain ⟨au, ku, hvu, _⟩ := reads_of_owns encS_len ho2
  subst hvu
  have S1 := HS0.out.below hb1
  have P1 := Lib.hid (P0.out.below hb1)
  have c1' := S1.x.cell 1 _ rfl
  have z1 := S1.x.free 1
  have hgs := grownBy_setCell w1 w.heap.size 1 (.slice au (addS m.rs key).length ku)
  have hs1 : w.heap.size + 2 ≤ w1.heap.size := by rw [← hsz]; exact hb1.size
  have SX : SH w w.heap.size (w.heap.size + 2) (.slice a1 m.st.length c1) (.slice a2 m.rs.length c2) (.slice a3 m.ws.length c3) m (.slice a1 m.st.length c1) (.slice au (addS m.rs key).length ku) (.slice a3 m.ws.length c3) (lookM m key) (w1.setCell ⟨w.heap.size, 1, none⟩ (.slice au (addS m.rs key).length ku)) := ⟨box_put S1.x 1 _, S1.bel.trans (below_of_grown hgs (Nat.le_refl _) S1.bel.size), ⟨.inl ⟨rfl, rfl⟩, (show Out (w.heap.size + 2) w1 9 1 encS (.slice a2 m.rs.length c2) m.rs (.slice au (addS m.rs key).length ku) (addS m.rs key) from .inr ho2).kept hgs (by omega), .inl ⟨rfl, rfl⟩⟩⟩
  have HX := Lib.hid SX
  have PX : Box (w1.setCell ⟨w.heap.size, 1, none⟩ (.slice au (addS m.rs key).length ku)) (w.heap.size + 1) [.slice none 0 0, .slice none 0 0, .slice none 0 0] := ⟨Nat.lt_of_lt_of_le P1.out.1 hgs.size, P1.out.2.elim fun T hT => ⟨T, (hgs.block _ P1.out.1 (fun e => by have := Option.some.inj e; omega)).trans hT⟩⟩
  have HPX := Lib.hid PX
  clear ho2 hgs S1 KA HS0 B0 P0 PX hb1
  have cr0 : ∀ W, SH w w.heap.size (w.heap.size + 2) (.slice a1 m.st.length c1) (.slice a2 m.rs.length c2) (.slice a3 m.ws.length c3) m (.slice a1 m.st.length c1) (.slice au (addS m.rs key).length ku) (.slice a3 m.ws.length c3) (lookM m key) W → W.cell? ⟨w.heap.size, 0, none⟩ = some (.slice a1 m.st.length c1) := fun W h => h.x.cell 0 _ rfl
  have cr1 : ∀ W, SH w w.heap.size (w.heap.size + 2) (.slice a1 m.st.length c1) (.slice a2 m.rs.length c2) (.slice a3 m.ws.length c3) m (.slice a1 m.st.length c1) (.slice au (addS m.rs key).length ku) (.slice a3 m.ws.length c3) (lookM m key) W → W.cell? ⟨w.heap.size, 1, none⟩ = some (.slice au (addS m.rs key).length ku) := fun W h => h.x.cell 1 _ rfl
  have cr2 : ∀ W, SH w w.heap.size (w.heap.size + 2) (.slice a1 m.st.length c1) (.slice a2 m.rs.length c2) (.slice a3 m.ws.length c3) m (.slice a1 m.st.length c1) (.slice au (addS m.rs key).length ku) (.slice a3 m.ws.length c3) (lookM m key) W → W.cell? ⟨w.heap.size, 2, none⟩ = some (.slice a3 m.ws.length c3) := fun W h => h.x.cell 2 _ rfl
  have HEND := Lib.hid (fun W (h : SH w w.heap.size (w.heap.size + 2) (.slice a1 m.st.length c1) (.slice a2 m.rs.length c2) (.slice a3 m.ws.length c3) m (.slice a1 m.st.length c1) (.slice au (addS m.rs key).length ku) (.slice a3 m.ws.length c3) (lookM m key) W) => (show SRet (.slice a1 m.st.length c1) (.slice a2 m.rs.length c2) (.slice a3 m.ws.length c3) m (lookM m key) (.string g) w (.returned (.tuple #[.agg #[.slice a1 m.st.length c1, .slice au (addS m.rs key).length ku, .slice a3 m.ws.length c3], .string g])) W from ⟨_, _, _, rfl, h.mo.base (by omega), h.bel⟩))
  go_wp2_with fail
  go_region_held3 (fun w' => SH w w.heap.size (w.heap.size + 2) (.slice a1 m.st.length c1) (.slice a2 m.rs.length c2) (.slice a3 m.ws.length c3) m (.slice a1 m.st.length c1) (.slice au (addS m.rs key).length ku) (.slice a3 m.ws.length c3) (lookM m key) w') (first | with_reducible assumption | with_reducible exact SH.below (by with_reducible assumption) (by with_reducible assumption) | ((repeat (first | with_reducible refine SH.drew ?_ | with_reducible refine SH.set ?_ (by omega) (by omega) (by omega) _ _)); with_reducible assumption)) (first | (go_at_call 35; refine (KG.out _ (SH.bel (by with_reducible assumption))).mono ?_; rintro e w3 ⟨rfl, hbk⟩; have BR := Box.below (Box.drew HPX.out) hbk; have pc0 := BR.cell 0 _ rfl; have pc1 := BR.cell 1 _ rfl; have pc2 := BR.cell 2 _ rfl; have pf0 := BR.free 0; have pf1 := BR.free 1; have pf2 := BR.free 2))
  go_wp2
  exact bodyPost_ret (v := .tuple #[.agg #[.slice a1 m.st.length c1, .slice au (addS m.rs key).length ku, .slice a3 m.ws.length c3], .string g]) (by simp [results, Tryd.results22, go_sem, *]) rfl (HEND.out _ (by with_reducible assumption))

set_option maxRecDepth 100000 in
set_option maxHeartbeats 4000000 in
theorem sLay_c (v1 v2 v3 : Value) (m : Mch) (key val : ByteArray) (w : World) (h : MRd w v1 v2 v3 m) (ho : MOk 1000000 m) (hk : key.size ≤ 1000) (hv : val.size ≤ 1000) :
    Calls Tryd.prog 24 #[.agg #[v1, v2, v3], .string key, .string val] w (SRet1 v1 v2 v3 m (layM m key val) w) := by
  obtain ⟨a1, c1, hv1, R1, l1, L1⟩ := h.r1
  obtain ⟨a2, c2, hv2, R2, l2, L2⟩ := h.r2
  obtain ⟨a3, c3, hv3, R3, l3, L3⟩ := h.r3
  subst hv1 hv2 hv3
  have HR := Lib.hid h
  have HR1 := Lib.hid R1
  have HR2 := Lib.hid R2
  have HR3 := Lib.hid R3
  have B0 := Lib.hid ((Box.new w [.slice a1 m.st.length c1, .slice a2 m.rs.length c2, .slice a3 m.ws.length c3] 31).alloc (.cells #[.slice none 0 0, .slice none 0 0, .slice none 0 0] 31))
  have P0 := Lib.hid (show Box ((w.alloc (.cells #[.slice a1 m.st.length c1, .slice a2 m.rs.length c2, .slice a3 m.ws.length c3] 31)).alloc (.cells #[.slice none 0 0, .slice none 0 0, .slice none 0 0] 31)) (w.heap.size + 1) [.slice none 0 0, .slice none 0 0, .slice none 0 0] from by
    have h := Box.new (w.alloc (.cells #[.slice a1 m.st.length c1, .slice a2 m.rs.length c2, .slice a3 m.ws.length c3] 31)) [.slice none 0 0, .slice none 0 0, .slice none 0 0] 31
    rw [show (w.alloc (.cells #[.slice a1 m.st.length c1, .slice a2 m.rs.length c2, .slice a3 m.ws.length c3] 31)).heap.size = w.heap.size + 1 by simp] at h
    exact h)
  have hsz : (((w.alloc (.cells #[.slice a1 m.st.length c1, .slice a2 m.rs.length c2, .slice a3 m.ws.length c3] 31)).alloc (.cells #[.slice none 0 0, .slice none 0 0, .slice none 0 0] 31))).heap.size = w.heap.size + 2 := by simp
  have HS0 := Lib.hid (show SH w w.heap.size (w.heap.size + 2) (.slice a1 m.st.length c1) (.slice a2 m.rs.length c2) (.slice a3 m.ws.length c3) m (.slice a1 m.st.length c1) (.slice a2 m.rs.length c2) (.slice a3 m.ws.length c3) m ((w.alloc (.cells #[.slice a1 m.st.length c1, .slice a2 m.rs.length c2, .slice a3 m.ws.length c3] 31)).alloc (.cells #[.slice none 0 0, .slice none 0 0, .slice none 0 0] 31)) from ⟨B0.out, (by repeat (first | exact Below.refl _ _ | refine Below.drew ?_ | refine below_drewN ?_ _ | refine Below.allocC ?_ _ | refine Below.setCell ?_ (by first | (simp; done) | (simp; omega)) _ | refine Below.chain ?_ (by assumption))), MOut.refl⟩)
  have KA := Lib.hid (specAddSpan_c a3 c3 m.ws key ((w.alloc (.cells #[.slice a1 m.st.length c1, .slice a2 m.rs.length c2, .slice a3 m.ws.length c3] 31)).alloc (.cells #[.slice none 0 0, .slice none 0 0, .slice none 0 0] 31)) (by have := ho.l3; omega) (HR3.out.below (by repeat (first | exact Below.refl _ _ | refine Below.drew ?_ | refine below_drewN ?_ _ | refine Below.allocC ?_ _ | refine Below.setCell ?_ (by first | (simp; done) | (simp; omega)) _ | refine Below.chain ?_ (by assumption)))) l3 L3)
  have KP := Lib.hid (fun W (hb : Below w.heap.size w W) => specPutKey_c a1 c1 m.st key val W (by have := ho.l1; omega) (HR1.out.below hb) (fun x hx => by have := ho.sz x hx; unfold maxLen; omega) (by unfold maxLen; omega) (by unfold maxLen; omega))
  clear h R1 R2 R3 ho
  go_enter Tryd.func24, Tryd.ntmps24
  go_wp2_with fail
  refine KA.out.mono ?_
  rintro e w1 ⟨u, rfl, ho2, hb1⟩
  rw [hsz] at ho2
  obtain ⟨au, ku, hvu, _⟩ := reads_of_owns encS_len ho2
  subst hvu
  have S1 := HS0.out.below hb1
  have P1 := Lib.hid (P0.out.below hb1)
  have c0' := S1.x.cell 0 _ rfl
  have c2' := S1.x.cell 2 _ rfl
  have z2 := S1.x.free 2
  have hgs := grownBy_setCell w1 w.heap.size 2 (.slice au (addS m.ws key).length ku)
  have hs1 : w.heap.size + 2 ≤ w1.heap.size := by rw [← hsz]; exact hb1.size
  have SX : SH w w.heap.size (w.heap.size + 2) (.slice a1 m.st.length c1) (.slice a2 m.rs.length c2) (.slice a3 m.ws.length c3) m (.slice a1 m.st.length c1) (.slice a2 m.rs.length c2) (.slice au (addS m.ws key).length ku) ⟨m.st, m.rs, addS m.ws key⟩ (w1.setCell ⟨w.heap.size, 2, none⟩ (.slice au (addS m.ws key).length ku)) := ⟨box_put S1.x 2 _, S1.bel.trans (below_of_grown hgs (Nat.le_refl _) S1.bel.size), ⟨.inl ⟨rfl, rfl⟩, .inl ⟨rfl, rfl⟩, (show Out (w.heap.size + 2) w1 9 1 encS (.slice a3 m.ws.length c3) m.ws (.slice au (addS m.ws key).length ku) (addS m.ws key) from .inr ho2).kept hgs (by omega)⟩⟩
  have HX := Lib.hid SX
  have HPX := Lib.hid (show Box (w1.setCell ⟨w.heap.size, 2, none⟩ (.slice au (addS m.ws key).length ku)) (w.heap.size + 1) [.slice none 0 0, .slice none 0 0, .slice none 0 0] from ⟨Nat.lt_of_lt_of_le P1.out.1 hgs.size, P1.out.2.elim fun T hT => ⟨T, (hgs.block _ P1.out.1 (fun e => by have := Option.some.inj e; omega)).trans hT⟩⟩)
  have hs2 : w.heap.size + 2 ≤ (w1.setCell ⟨w.heap.size, 2, none⟩ (.slice au (addS m.ws key).length ku)).heap.size := Nat.le_trans hs1 hgs.size
  have KP2 := Lib.hid (KP.out _ SX.bel)
  clear ho2 hgs S1 KA HS0 B0 P0 hb1 SX KP P1
  go_wp2_with fail
  refine KP2.out.mono ?_
  rintro e w3 ⟨x, rfl, ho3, hb3⟩
  have ho4 := ownsRow_base ho3 hs2
  obtain ⟨ax, kx, hvx, _⟩ := reads_of_owns encC_len ho4
  subst hvx
  have S3 := HX.out.below hb3
  have P3 := HPX.out.below hb3
  have hg3 := grownBy_setCell w3 w.heap.size 0 (.slice ax (putKeyS m.st key val).length kx)
  have SE := Lib.hid (show SH w w.heap.size (w.heap.size + 2) (.slice a1 m.st.length c1) (.slice a2 m.rs.length c2) (.slice a3 m.ws.length c3) m (.slice ax (putKeyS m.st key val).length kx) (.slice a2 m.rs.length c2) (.slice au (addS m.ws key).length ku) (layM m key val) (w3.setCell ⟨w.heap.size, 0, none⟩ (.slice ax (putKeyS m.st key val).length kx)) from ⟨box_put S3.x 0 _, S3.bel.trans (below_of_grown hg3 (Nat.le_refl _) S3.bel.size), ⟨(show Out (w.heap.size + 2) w3 39 2 encC (.slice a1 m.st.length c1) m.st (.slice ax (putKeyS m.st key val).length kx) (putKeyS m.st key val) from .inr ho4).kept hg3 (by omega), S3.mo.o2.kept hg3 (by omega), S3.mo.o3.kept hg3 (by omega)⟩⟩)
  have d0 := S3.x.cell 0 _ rfl
  have d1 := S3.x.cell 1 _ rfl
  have d2 := S3.x.cell 2 _ rfl
  have y0 := S3.x.free 0
  have pc0 := P3.cell 0 _ rfl
  have pf0 := P3.free 0
  have pc1 := P3.cell 1 _ rfl
  have pf1 := P3.free 1
  have pc2 := P3.cell 2 _ rfl
  have pf2 := P3.free 2
  have HEND := Lib.hid (fun W (h : SH w w.heap.size (w.heap.size + 2) (.slice a1 m.st.length c1) (.slice a2 m.rs.length c2) (.slice a3 m.ws.length c3) m (.slice ax (putKeyS m.st key val).length kx) (.slice a2 m.rs.length c2) (.slice au (addS m.ws key).length ku) (layM m key val) W) => (show SRet1 (.slice a1 m.st.length c1) (.slice a2 m.rs.length c2) (.slice a3 m.ws.length c3) m (layM m key val) w (.returned (.agg #[.slice ax (putKeyS m.st key val).length kx, .slice a2 m.rs.length c2, .slice au (addS m.ws key).length ku])) W from ⟨_, _, _, rfl, h.mo.base (by omega), h.bel⟩))
  clear ho3 ho4 hb3 S3 P3 hg3 HX HPX hs2 c0' c2' z2 KP2
  go_wp2
  exact bodyPost_ret (v := .agg #[.slice ax (putKeyS m.st key val).length kx, .slice a2 m.rs.length c2, .slice au (addS m.ws key).length ku]) (by simp [results, Tryd.results24, go_sem, *]) rfl (HEND.out _ (by (repeat (with_reducible refine SH.set ?_ (by omega) (by omega) (by omega) _ _)); with_reducible exact SE.out))

theorem box_far {w : World} {b b' : Nat} {xs : List Value} (h : Box w b xs) (hne : b ≠ b') (i : Nat) (v : Value) : Box (w.setCell ⟨b', i, none⟩ v) b xs := by
  obtain ⟨h1, T, h2⟩ := h
  exact ⟨by simpa [World.setCell] using h1, T, (heap_setCell_other w ⟨b', i, none⟩ b v hne).trans h2⟩

set_option maxRecDepth 100000 in
set_option maxHeartbeats 4000000 in
theorem sNumAt_c (v1 v2 v3 : Value) (m : Mch) (key : ByteArray) (w : World) (h : MRd w v1 v2 v3 m) (ho : MOk 900000 m) :
    Calls Tryd.prog 14 #[.agg #[v1, v2, v3], .string key] w (SRet v1 v2 v3 m (lookM m key) (.int .i64 (numOfV (getKeyS m.st key))) w) := by
  obtain ⟨a1, c1, hv1, R1, l1, L1⟩ := h.r1
  obtain ⟨a2, c2, hv2, R2, l2, L2⟩ := h.r2
  obtain ⟨a3, c3, hv3, R3, l3, L3⟩ := h.r3
  subst hv1 hv2 hv3
  have HR := Lib.hid h
  have HR1 := Lib.hid R1
  have HR2 := Lib.hid R2
  have HR3 := Lib.hid R3
  have B0 := Lib.hid ((Box.new w [.slice a1 m.st.length c1, .slice a2 m.rs.length c2, .slice a3 m.ws.length c3] 31).alloc (.cells #[.slice none 0 0, .slice none 0 0, .slice none 0 0] 31))
  have P0 := Lib.hid (show Box ((w.alloc (.cells #[.slice a1 m.st.length c1, .slice a2 m.rs.length c2, .slice a3 m.ws.length c3] 31)).alloc (.cells #[.slice none 0 0, .slice none 0 0, .slice none 0 0] 31)) (w.heap.size + 1) [.slice none 0 0, .slice none 0 0, .slice none 0 0] from by
    have h := Box.new (w.alloc (.cells #[.slice a1 m.st.length c1, .slice a2 m.rs.length c2, .slice a3 m.ws.length c3] 31)) [.slice none 0 0, .slice none 0 0, .slice none 0 0] 31
    rw [show (w.alloc (.cells #[.slice a1 m.st.length c1, .slice a2 m.rs.length c2, .slice a3 m.ws.length c3] 31)).heap.size = w.heap.size + 1 by simp] at h
    exact h)
  have hsz : (((w.alloc (.cells #[.slice a1 m.st.length c1, .slice a2 m.rs.length c2, .slice a3 m.ws.length c3] 31)).alloc (.cells #[.slice none 0 0, .slice none 0 0, .slice none 0 0] 31))).heap.size = w.heap.size + 2 := by simp
  have HS0 := Lib.hid (show SH w w.heap.size (w.heap.size + 2) (.slice a1 m.st.length c1) (.slice a2 m.rs.length c2) (.slice a3 m.ws.length c3) m (.slice a1 m.st.length c1) (.slice a2 m.rs.length c2) (.slice a3 m.ws.length c3) m ((w.alloc (.cells #[.slice a1 m.st.length c1, .slice a2 m.rs.length c2, .slice a3 m.ws.length c3] 31)).alloc (.cells #[.slice none 0 0, .slice none 0 0, .slice none 0 0] 31)) from ⟨B0.out, (by repeat (first | exact Below.refl _ _ | refine Below.drew ?_ | refine below_drewN ?_ _ | refine Below.allocC ?_ _ | refine Below.setCell ?_ (by first | (simp; done) | (simp; omega)) _ | refine Below.chain ?_ (by assumption))), MOut.refl⟩)
  have KL := Lib.hid (sLook_c (.slice a1 m.st.length c1) (.slice a2 m.rs.length c2) (.slice a3 m.ws.length c3) m key ((w.alloc (.cells #[.slice a1 m.st.length c1, .slice a2 m.rs.length c2, .slice a3 m.ws.length c3] 31)).alloc (.cells #[.slice none 0 0, .slice none 0 0, .slice none 0 0] 31)) (HR.out.below (by repeat (first | exact Below.refl _ _ | refine Below.drew ?_ | refine below_drewN ?_ _ | refine Below.allocC ?_ _ | refine Below.setCell ?_ (by first | (simp; done) | (simp; omega)) _ | refine Below.chain ?_ (by assumption)))) (ho.mono (by omega)))
  have HOK := Lib.hid (ho.look key)
  have hgs := get_sz ho.sz key
  generalize getKeyS m.st key = s at *
  clear h R1 R2 R3 ho
  go_enter Tryd.func14, Tryd.ntmps14
  go_wp2_with fail
  refine KL.out.mono ?_
  rintro e w1 ⟨u1, u2, u3, rfl, hmo, hb1⟩
  rw [hsz] at hmo
  have hrd := hmo.rd (HR.out.below (show Below w.heap.size w ((w.alloc (.cells #[.slice a1 m.st.length c1, .slice a2 m.rs.length c2, .slice a3 m.ws.length c3] 31)).alloc (.cells #[.slice none 0 0, .slice none 0 0, .slice none 0 0] 31)) from (by repeat (first | exact Below.refl _ _ | refine Below.drew ?_ | refine below_drewN ?_ _ | refine Below.allocC ?_ _ | refine Below.setCell ?_ (by first | (simp; done) | (simp; omega)) _ | refine Below.chain ?_ (by assumption))))) hb1
  obtain ⟨x1, k1, hx1, _, _, _⟩ := hrd.r1
  obtain ⟨x2, k2, hx2, _, _, _⟩ := hrd.r2
  obtain ⟨x3, k3, hx3, _, _, _⟩ := hrd.r3
  subst hx1 hx2 hx3
  have S1 := HS0.out.below hb1
  have HX := Lib.hid (S1.put3 (Nat.le_refl _) (by omega) (Nat.le_refl _) hmo)
  have HPX := Lib.hid (box_far (box_far (box_far (P0.out.below hb1) (show w.heap.size + 1 ≠ w.heap.size by omega) 0 (.slice x1 (lookM m key).st.length k1)) (show w.heap.size + 1 ≠ w.heap.size by omega) 1 (.slice x2 (lookM m key).rs.length k2)) (show w.heap.size + 1 ≠ w.heap.size by omega) 2 (.slice x3 (lookM m key).ws.length k3))
  have e0 := S1.x.cell 0 _ rfl
  have e1 := S1.x.cell 1 _ rfl
  have e2 := S1.x.cell 2 _ rfl
  have z0 := S1.x.free 0
  have z1 := S1.x.free 1
  have z2 := S1.x.free 2
  clear hmo hb1 hrd S1 KL HS0 B0 P0
  have KN := Lib.hid (fun W => specNumOf_c s W)
  generalize numOfV s = n at *
  have cr0 : ∀ W, SH w w.heap.size (w.heap.size + 2) (.slice a1 m.st.length c1) (.slice a2 m.rs.length c2) (.slice a3 m.ws.length c3) m (.slice x1 (lookM m key).st.length k1) (.slice x2 (lookM m key).rs.length k2) (.slice x3 (lookM m key).ws.length k3) (lookM m key) W → W.cell? ⟨w.heap.size, 0, none⟩ = some (.slice x1 (lookM m key).st.length k1) := fun W h => h.x.cell 0 _ rfl
  have cr1 : ∀ W, SH w w.heap.size (w.heap.size + 2) (.slice a1 m.st.length c1) (.slice a2 m.rs.length c2) (.slice a3 m.ws.length c3) m (.slice x1 (lookM m key).st.length k1) (.slice x2 (lookM m key).rs.length k2) (.slice x3 (lookM m key).ws.length k3) (lookM m key) W → W.cell? ⟨w.heap.size, 1, none⟩ = some (.slice x2 (lookM m key).rs.length k2) := fun W h => h.x.cell 1 _ rfl
  have cr2 : ∀ W, SH w w.heap.size (w.heap.size + 2) (.slice a1 m.st.length c1) (.slice a2 m.rs.length c2) (.slice a3 m.ws.length c3) m (.slice x1 (lookM m key).st.length k1) (.slice x2 (lookM m key).rs.length k2) (.slice x3 (lookM m key).ws.length k3) (lookM m key) W → W.cell? ⟨w.heap.size, 2, none⟩ = some (.slice x3 (lookM m key).ws.length k3) := fun W h => h.x.cell 2 _ rfl
  have HEND := Lib.hid (fun W (h : SH w w.heap.size (w.heap.size + 2) (.slice a1 m.st.length c1) (.slice a2 m.rs.length c2) (.slice a3 m.ws.length c3) m (.slice x1 (lookM m key).st.length k1) (.slice x2 (lookM m key).rs.length k2) (.slice x3 (lookM m key).ws.length k3) (lookM m key) W) => (show SRet (.slice a1 m.st.length c1) (.slice a2 m.rs.length c2) (.slice a3 m.ws.length c3) m (lookM m key) (.int .i64 n) w (.returned (.tuple #[.agg #[.slice x1 (lookM m key).st.length k1, .slice x2 (lookM m key).rs.length k2, .slice x3 (lookM m key).ws.length k3], .int .i64 n])) W from ⟨_, _, _, rfl, h.mo.base (by omega), h.bel⟩))
  have SX : SH w w.heap.size (w.heap.size + 2) (.slice a1 m.st.length c1) (.slice a2 m.rs.length c2) (.slice a3 m.ws.length c3) m (.slice x1 (lookM m key).st.length k1) (.slice x2 (lookM m key).rs.length k2) (.slice x3 (lookM m key).ws.length k3) (lookM m key) (((w1.setCell ⟨w.heap.size, 0, none⟩ (.slice x1 (lookM m key).st.length k1)).setCell ⟨w.heap.size, 1, none⟩ (.slice x2 (lookM m key).rs.length k2)).setCell ⟨w.heap.size, 2, none⟩ (.slice x3 (lookM m key).ws.length k3)) := HX.out
  go_wp2_with fail
  go_region_held3 (fun w' => SH w w.heap.size (w.heap.size + 2) (.slice a1 m.st.length c1) (.slice a2 m.rs.length c2) (.slice a3 m.ws.length c3) m (.slice x1 (lookM m key).st.length k1) (.slice x2 (lookM m key).rs.length k2) (.slice x3 (lookM m key).ws.length k3) (lookM m key) w') (first | with_reducible assumption | with_reducible exact SH.below (by with_reducible assumption) (by with_reducible assumption) | ((repeat (first | with_reducible refine SH.drew ?_ | with_reducible refine SH.set ?_ (by omega) (by omega) (by omega) _ _)); with_reducible assumption)) (first | (go_at_call 23; refine (KN.out _).mono ?_; rintro e w3 ⟨rfl, hbk⟩; have BR := Box.below (Box.drew HPX.out) hbk; have pc0 := BR.cell 0 _ rfl; have pf0 := BR.free 0; have pc1 := BR.cell 1 _ rfl; have pf1 := BR.free 1; have pc2 := BR.cell 2 _ rfl; have pf2 := BR.free 2))
  go_wp2
  exact bodyPost_ret (v := .tuple #[.agg #[.slice x1 (lookM m key).st.length k1, .slice x2 (lookM m key).rs.length k2, .slice x3 (lookM m key).ws.length k3], .int .i64 n]) (by simp [results, Tryd.results14, go_sem, *]) rfl (HEND.out _ (by with_reducible assumption))

theorem SRet1.op {v1 v2 v3 : Value} {m m' : Mch} {w w' : World} {e : Ending} (h : MRd w v1 v2 v3 m) (hs : SRet1 v1 v2 v3 m m' w e w') : ∃ a1 k1 a2 k2 a3 k3, e = .returned (.agg #[.slice a1 m'.st.length k1, .slice a2 m'.rs.length k2, .slice a3 m'.ws.length k3]) ∧ MOut w.heap.size w' v1 v2 v3 m (.slice a1 m'.st.length k1) (.slice a2 m'.rs.length k2) (.slice a3 m'.ws.length k3) m' ∧ Below w.heap.size w w' := by
  obtain ⟨u1, u2, u3, rfl, hmo, hb⟩ := hs
  have hrd := hmo.rd h hb
  obtain ⟨x1, k1, hx1, _, _, _⟩ := hrd.r1
  obtain ⟨x2, k2, hx2, _, _, _⟩ := hrd.r2
  obtain ⟨x3, k3, hx3, _, _, _⟩ := hrd.r3
  subst hx1 hx2 hx3
  exact ⟨x1, k1, x2, k2, x3, k3, rfl, hmo, hb⟩
theorem SRet.op {v1 v2 v3 : Value} {m m' : Mch} {r : Value} {w w' : World} {e : Ending} (h : MRd w v1 v2 v3 m) (hs : SRet v1 v2 v3 m m' r w e w') : ∃ a1 k1 a2 k2 a3 k3, e = .returned (.tuple #[.agg #[.slice a1 m'.st.length k1, .slice a2 m'.rs.length k2, .slice a3 m'.ws.length k3], r]) ∧ MOut w.heap.size w' v1 v2 v3 m (.slice a1 m'.st.length k1) (.slice a2 m'.rs.length k2) (.slice a3 m'.ws.length k3) m' ∧ Below w.heap.size w w' := by
  obtain ⟨u1, u2, u3, rfl, hmo, hb⟩ := hs
  have hrd := hmo.rd h hb
  obtain ⟨x1, k1, hx1, _, _, _⟩ := hrd.r1
  obtain ⟨x2, k2, hx2, _, _, _⟩ := hrd.r2
  obtain ⟨x3, k3, hx3, _, _, _⟩ := hrd.r3
  subst hx1 hx2 hx3
  exact ⟨x1, k1, x2, k2, x3, k3, rfl, hmo, hb⟩

set_option maxRecDepth 100000 in
set_option maxHeartbeats 4000000 in
theorem sSetNum_c (v1 v2 v3 : Value) (m : Mch) (key : ByteArray) (n : Int) (w : World) (h : MRd w v1 v2 v3 m) (ho : MOk 900000 m) (hk : key.size ≤ 1000) :
    Calls Tryd.prog 16 #[.agg #[v1, v2, v3], .string key, .int .i64 n] w (SRet1 v1 v2 v3 m (setM m key n) w) := by
  obtain ⟨a1, c1, hv1, R1, l1, L1⟩ := h.r1
  obtain ⟨a2, c2, hv2, R2, l2, L2⟩ := h.r2
  obtain ⟨a3, c3, hv3, R3, l3, L3⟩ := h.r3
  subst hv1 hv2 hv3
  have HR := Lib.hid h
  have HR1 := Lib.hid R1
  have HR2 := Lib.hid R2
  have HR3 := Lib.hid R3
  have B0 := Lib.hid ((Box.new w [.slice a1 m.st.length c1, .slice a2 m.rs.length c2, .slice a3 m.ws.length c3] 31).alloc (.cells #[.slice none 0 0, .slice none 0 0, .slice none 0 0] 31))
  have P0 := Lib.hid (show Box ((w.alloc (.cells #[.slice a1 m.st.length c1, .slice a2 m.rs.length c2, .slice a3 m.ws.length c3] 31)).alloc (.cells #[.slice none 0 0, .slice none 0 0, .slice none 0 0] 31)) (w.heap.size + 1) [.slice none 0 0, .slice none 0 0, .slice none 0 0] from by
    have h := Box.new (w.alloc (.cells #[.slice a1 m.st.length c1, .slice a2 m.rs.length c2, .slice a3 m.ws.length c3] 31)) [.slice none 0 0, .slice none 0 0, .slice none 0 0] 31
    rw [show (w.alloc (.cells #[.slice a1 m.st.length c1, .slice a2 m.rs.length c2, .slice a3 m.ws.length c3] 31)).heap.size = w.heap.size + 1 by simp] at h
    exact h)
  have hsz : (((w.alloc (.cells #[.slice a1 m.st.length c1, .slice a2 m.rs.length c2, .slice a3 m.ws.length c3] 31)).alloc (.cells #[.slice none 0 0, .slice none 0 0, .slice none 0 0] 31))).heap.size = w.heap.size + 2 := by simp
  have HS0 := Lib.hid (show SH w w.heap.size (w.heap.size + 2) (.slice a1 m.st.length c1) (.slice a2 m.rs.length c2) (.slice a3 m.ws.length c3) m (.slice a1 m.st.length c1) (.slice a2 m.rs.length c2) (.slice a3 m.ws.length c3) m ((w.alloc (.cells #[.slice a1 m.st.length c1, .slice a2 m.rs.length c2, .slice a3 m.ws.length c3] 31)).alloc (.cells #[.slice none 0 0, .slice none 0 0, .slice none 0 0] 31)) from ⟨B0.out, (by repeat (first | exact Below.refl _ _ | refine Below.drew ?_ | refine below_drewN ?_ _ | refine Below.allocC ?_ _ | refine Below.setCell ?_ (by first | (simp; done) | (simp; omega)) _ | refine Below.chain ?_ (by assumption))), MOut.refl⟩)
  have HOK := Lib.hid (ho.mono (show 900000 ≤ 1000000 by omega))
  have HK := Lib.hid hk
  clear R1 R2 R3 ho hk
  cases hb : inB n 1 999 with
  | false =>
    have hE : setM m key n = layM m key ⟨#[]⟩ := by unfold setM numText; rw [hb]; rfl
    rw [hE]
    have KLY := Lib.hid ((sLay_c (.slice a1 m.st.length c1) (.slice a2 m.rs.length c2) (.slice a3 m.ws.length c3) m key ⟨#[]⟩ ((w.alloc (.cells #[.slice a1 m.st.length c1, .slice a2 m.rs.length c2, .slice a3 m.ws.length c3] 31)).alloc (.cells #[.slice none 0 0, .slice none 0 0, .slice none 0 0] 31)) (HR.out.below (by repeat (first | exact Below.refl _ _ | refine Below.drew ?_ | refine below_drewN ?_ _ | refine Below.allocC ?_ _ | refine Below.setCell ?_ (by first | (simp; done) | (simp; omega)) _ | refine Below.chain ?_ (by assumption)))) HOK.out HK.out (Nat.zero_le _)).mono fun e w' hs => hs.op (HR.out.below (show Below w.heap.size w ((w.alloc (.cells #[.slice a1 m.st.length c1, .slice a2 m.rs.length c2, .slice a3 m.ws.length c3] 31)).alloc (.cells #[.slice none 0 0, .slice none 0 0, .slice none 0 0] 31)) from (by repeat (first | exact Below.refl _ _ | refine Below.drew ?_ | refine below_drewN ?_ _ | refine Below.allocC ?_ _ | refine Below.setCell ?_ (by first | (simp; done) | (simp; omega)) _ | refine Below.chain ?_ (by assumption))))))
    clear hE h
    go_enter Tryd.func16, Tryd.ntmps16
    go_wp2_with (first | (go_at_call 26; refine (l01In_c _ _ _ _).mono ?_; rintro e w' ⟨rfl, rfl⟩) | fail)
    refine KLY.out.mono ?_
    rintro e w8 ⟨y1, q1, y2, q2, y3, q3, rfl, hmo8, hbk8⟩
    rw [hsz] at hmo8
    have HMO := Lib.hid hmo8
    have BR := P0.out.below hbk8
    have HB := Lib.hid ((show Below w.heap.size w ((w.alloc (.cells #[.slice a1 m.st.length c1, .slice a2 m.rs.length c2, .slice a3 m.ws.length c3] 31)).alloc (.cells #[.slice none 0 0, .slice none 0 0, .slice none 0 0] 31)) from (by repeat (first | exact Below.refl _ _ | refine Below.drew ?_ | refine below_drewN ?_ _ | refine Below.allocC ?_ _ | refine Below.setCell ?_ (by first | (simp; done) | (simp; omega)) _ | refine Below.chain ?_ (by assumption)))).trans (hbk8.mono (by rw [hsz]; omega)))
    have pc0 := BR.cell 0 _ rfl
    have pf0 := BR.free 0
    have pc1 := BR.cell 1 _ rfl
    have pf1 := BR.free 1
    have pc2 := BR.cell 2 _ rfl
    have pf2 := BR.free 2
    clear BR hmo8 hbk8 HS0 B0 P0 KLY
    go_wp2
    exact bodyPost_ret (v := .agg #[.slice y1 (layM m key ⟨#[]⟩).st.length q1, .slice y2 (layM m key ⟨#[]⟩).rs.length q2, .slice y3 (layM m key ⟨#[]⟩).ws.length q3]) (by simp [results, Tryd.results16, go_sem, *]) rfl ⟨_, _, _, rfl, MOut.base (B' := w.heap.size + 2) (by (repeat (with_reducible refine MOut.set ?_ (by omega) _ _)); with_reducible exact HMO.out) (by omega), (by (repeat (with_reducible refine Below.setCell ?_ (by simp) _)); with_reducible exact HB.out)⟩
  | true =>
    have hr := inB_iff.1 hb
    obtain ⟨dn, hdn⟩ : ∃ dn, decS n = dn := ⟨_, rfl⟩
    have hE : setM m key n = layM m key dn := by unfold setM numText; rw [hb, hdn]; rfl
    rw [hE]
    have hs := numText_size n
    rw [show numText n = dn by unfold numText; rw [hb, hdn]; rfl] at hs
    have KD := Lib.hid (fun W => specDecimal_c n W (by omega) (by omega))
    rw [hdn] at KD
    have KLY := Lib.hid (fun W (hS : SH w w.heap.size (w.heap.size + 2) (.slice a1 m.st.length c1) (.slice a2 m.rs.length c2) (.slice a3 m.ws.length c3) m (.slice a1 m.st.length c1) (.slice a2 m.rs.length c2) (.slice a3 m.ws.length c3) m W) => (sLay_c (.slice a1 m.st.length c1) (.slice a2 m.rs.length c2) (.slice a3 m.ws.length c3) m key dn W (hS.mo.rd HR.out hS.bel) HOK.out HK.out hs).mono fun e w' hx => hx.op (hS.mo.rd HR.out hS.bel))
    clear hE h hdn hs
    have cr0 : ∀ W, SH w w.heap.size (w.heap.size + 2) (.slice a1 m.st.length c1) (.slice a2 m.rs.length c2) (.slice a3 m.ws.length c3) m (.slice a1 m.st.length c1) (.slice a2 m.rs.length c2) (.slice a3 m.ws.length c3) m W → W.cell? ⟨w.heap.size, 0, none⟩ = some (.slice a1 m.st.length c1) := fun W h => h.x.cell 0 _ rfl
    have cr1 : ∀ W, SH w w.heap.size (w.heap.size + 2) (.slice a1 m.st.length c1) (.slice a2 m.rs.length c2) (.slice a3 m.ws.length c3) m (.slice a1 m.st.length c1) (.slice a2 m.rs.length c2) (.slice a3 m.ws.length c3) m W → W.cell? ⟨w.heap.size, 1, none⟩ = some (.slice a2 m.rs.length c2) := fun W h => h.x.cell 1 _ rfl
    have cr2 : ∀ W, SH w w.heap.size (w.heap.size + 2) (.slice a1 m.st.length c1) (.slice a2 m.rs.length c2) (.slice a3 m.ws.length c3) m (.slice a1 m.st.length c1) (.slice a2 m.rs.length c2) (.slice a3 m.ws.length c3) m W → W.cell? ⟨w.heap.size, 2, none⟩ = some (.slice a3 m.ws.length c3) := fun W h => h.x.cell 2 _ rfl
    have SX : SH w w.heap.size (w.heap.size + 2) (.slice a1 m.st.length c1) (.slice a2 m.rs.length c2) (.slice a3 m.ws.length c3) m (.slice a1 m.st.length c1) (.slice a2 m.rs.length c2) (.slice a3 m.ws.length c3) m ((w.alloc (.cells #[.slice a1 m.st.length c1, .slice a2 m.rs.length c2, .slice a3 m.ws.length c3] 31)).alloc (.cells #[.slice none 0 0, .slice none 0 0, .slice none 0 0] 31)) := HS0.out
    go_enter Tryd.func16, Tryd.ntmps16
    go_wp2_with (first | (go_at_call 26; refine (l01In_c _ _ _ _).mono ?_; rintro e w' ⟨rfl, rfl⟩) | fail)
    go_wp2_with fail
    go_region_held3 (fun w' => SH w w.heap.size (w.heap.size + 2) (.slice a1 m.st.length c1) (.slice a2 m.rs.length c2) (.slice a3 m.ws.length c3) m (.slice a1 m.st.length c1) (.slice a2 m.rs.length c2) (.slice a3 m.ws.length c3) m w') (first | with_reducible assumption | with_reducible exact SH.below (by with_reducible assumption) (by with_reducible assumption) | ((repeat (first | with_reducible refine SH.drew ?_ | with_reducible refine SH.set ?_ (by omega) (by omega) (by omega) _ _)); with_reducible assumption)) (first | (go_at_call 25; refine (KD.out _).mono ?_; rintro e w7 ⟨rfl, hbk⟩; have BR1 := Box.below (Box.drew P0.out) hbk) | (go_at_call 24; refine (KLY.out _ (by with_reducible assumption)).mono ?_; rintro e w8 ⟨y1, q1, y2, q2, y3, q3, rfl, hmo8, hbk8⟩; have BR := Box.below BR1 hbk8; have pc0 := BR.cell 0 _ rfl; have pf0 := BR.free 0; have pc1 := BR.cell 1 _ rfl; have pf1 := BR.free 1; have pc2 := BR.cell 2 _ rfl; have pf2 := BR.free 2; have HMO := MOut.base hmo8 (B := w.heap.size + 2) (by have := BR1.1; omega)))
    go_wp2
    exact bodyPost_ret (v := .agg #[.slice y1 (layM m key dn).st.length q1, .slice y2 (layM m key dn).rs.length q2, .slice y3 (layM m key dn).ws.length q3]) (by simp [results, Tryd.results16, go_sem, *]) rfl ⟨_, _, _, rfl, ((show SH w w.heap.size (w.heap.size + 2) (.slice a1 m.st.length c1) (.slice a2 m.rs.length c2) (.slice a3 m.ws.length c3) m (.slice a1 m.st.length c1) (.slice a2 m.rs.length c2) (.slice a3 m.ws.length c3) m _ from by with_reducible assumption).mo.trans (by (repeat (with_reducible refine MOut.set ?_ (by omega) _ _)); with_reducible exact HMO) (Nat.le_refl _)).base (by omega), (show SH w w.heap.size (w.heap.size + 2) (.slice a1 m.st.length c1) (.slice a2 m.rs.length c2) (.slice a3 m.ws.length c3) m (.slice a1 m.st.length c1) (.slice a2 m.rs.length c2) (.slice a3 m.ws.length c3) m _ from by with_reducible assumption).bel⟩

set_option maxRecDepth 100000 in
set_option maxHeartbeats 4000000 in
theorem sBumped_c (v1 v2 v3 : Value) (m : Mch) (key : ByteArray) (w : World) (h : MRd w v1 v2 v3 m) (ho : MOk 900000 m) (hk : key.size ≤ 1000) :
    Calls Tryd.prog 15 #[.agg #[v1, v2, v3], .string key] w (SRet v1 v2 v3 m (bumpM m key) (.int .i64 (bumpN m key)) w) := by
  have hnb := numOf_bounds (getKeyS m.st key)
  have HBM := Lib.hid (show bumpM m key = if 999 < numOfV (getKeyS m.st key) + 1 then lookM m key else setM (lookM m key) key (numOfV (getKeyS m.st key) + 1) from rfl)
  have HBN := Lib.hid (show bumpN m key = if 999 < numOfV (getKeyS m.st key) + 1 then 0 else numOfV (getKeyS m.st key) + 1 from rfl)
  generalize bumpM m key = bm at *
  generalize bumpN m key = bn at *
  have HK := Lib.hid hk
  clear hk
  obtain ⟨a1, c1, hv1, R1, l1, L1⟩ := h.r1
  obtain ⟨a2, c2, hv2, R2, l2, L2⟩ := h.r2
  obtain ⟨a3, c3, hv3, R3, l3, L3⟩ := h.r3
  subst hv1 hv2 hv3
  have HR := Lib.hid h
  have HR1 := Lib.hid R1
  have HR2 := Lib.hid R2
  have HR3 := Lib.hid R3
  have B0 := Lib.hid ((Box.new w [.slice a1 m.st.length c1, .slice a2 m.rs.length c2, .slice a3 m.ws.length c3] 31).alloc (.cells #[.slice none 0 0, .slice none 0 0, .slice none 0 0] 31))
  have P0 := Lib.hid (show Box ((w.alloc (.cells #[.slice a1 m.st.length c1, .slice a2 m.rs.length c2, .slice a3 m.ws.length c3] 31)).alloc (.cells #[.slice none 0 0, .slice none 0 0, .slice none 0 0] 31)) (w.heap.size + 1) [.slice none 0 0, .slice none 0 0, .slice none 0 0] from by
    have h := Box.new (w.alloc (.cells #[.slice a1 m.st.length c1, .slice a2 m.rs.length c2, .slice a3 m.ws.length c3] 31)) [.slice none 0 0, .slice none 0 0, .slice none 0 0] 31
    rw [show (w.alloc (.cells #[.slice a1 m.st.length c1, .slice a2 m.rs.length c2, .slice a3 m.ws.length c3] 31)).heap.size = w.heap.size + 1 by simp] at h
    exact h)
  have hsz : (((w.alloc (.cells #[.slice a1 m.st.length c1, .slice a2 m.rs.length c2, .slice a3 m.ws.length c3] 31)).alloc (.cells #[.slice none 0 0, .slice none 0 0, .slice none 0 0] 31))).heap.size = w.heap.size + 2 := by simp
  have HS0 := Lib.hid (show SH w w.heap.size (w.heap.size + 2) (.slice a1 m.st.length c1) (.slice a2 m.rs.length c2) (.slice a3 m.ws.length c3) m (.slice a1 m.st.length c1) (.slice a2 m.rs.length c2) (.slice a3 m.ws.length c3) m ((w.alloc (.cells #[.slice a1 m.st.length c1, .slice a2 m.rs.length c2, .slice a3 m.ws.length c3] 31)).alloc (.cells #[.slice none 0 0, .slice none 0 0, .slice none 0 0] 31)) from ⟨B0.out, (by repeat (first | exact Below.refl _ _ | refine Below.drew ?_ | refine below_drewN ?_ _ | refine Below.allocC ?_ _ | refine Below.setCell ?_ (by first | (simp; done) | (simp; omega)) _ | refine Below.chain ?_ (by assumption))), MOut.refl⟩)
  have KL := Lib.hid (sLook_c (.slice a1 m.st.length c1) (.slice a2 m.rs.length c2) (.slice a3 m.ws.length c3) m key ((w.alloc (.cells #[.slice a1 m.st.length c1, .slice a2 m.rs.length c2, .slice a3 m.ws.length c3] 31)).alloc (.cells #[.slice none 0 0, .slice none 0 0, .slice none 0 0] 31)) (HR.out.below (by repeat (first | exact Below.refl _ _ | refine Below.drew ?_ | refine below_drewN ?_ _ | refine Below.allocC ?_ _ | refine Below.setCell ?_ (by first | (simp; done) | (simp; omega)) _ | refine Below.chain ?_ (by assumption)))) (ho.mono (by omega)))
  have HOK := Lib.hid (ho.look key)
  have hgs := get_sz ho.sz key
  generalize getKeyS m.st key = s at *
  clear h R1 R2 R3 ho
  go_enter Tryd.func15, Tryd.ntmps15
  go_wp2_with fail
  refine KL.out.mono ?_
  rintro e w1 ⟨u1, u2, u3, rfl, hmo, hb1⟩
  rw [hsz] at hmo
  have hrd := hmo.rd (HR.out.below (show Below w.heap.size w ((w.alloc (.cells #[.slice a1 m.st.length c1, .slice a2 m.rs.length c2, .slice a3 m.ws.length c3] 31)).alloc (.cells #[.slice none 0 0, .slice none 0 0, .slice none 0 0] 31)) from (by repeat (first | exact Below.refl _ _ | refine Below.drew ?_ | refine below_drewN ?_ _ | refine Below.allocC ?_ _ | refine Below.setCell ?_ (by first | (simp; done) | (simp; omega)) _ | refine Below.chain ?_ (by assumption))))) hb1
  obtain ⟨x1, k1, hx1, _, _, _⟩ := hrd.r1
  obtain ⟨x2, k2, hx2, _, _, _⟩ := hrd.r2
  obtain ⟨x3, k3, hx3, _, _, _⟩ := hrd.r3
  subst hx1 hx2 hx3
  have S1 := HS0.out.below hb1
  have HX := Lib.hid (S1.put3 (Nat.le_refl _) (by omega) (Nat.le_refl _) hmo)
  have HPX := Lib.hid (box_far (box_far (box_far (P0.out.below hb1) (show w.heap.size + 1 ≠ w.heap.size by omega) 0 (.slice x1 (lookM m key).st.length k1)) (show w.heap.size + 1 ≠ w.heap.size by omega) 1 (.slice x2 (lookM m key).rs.length k2)) (show w.heap.size + 1 ≠ w.heap.size by omega) 2 (.slice x3 (lookM m key).ws.length k3))
  have e0 := S1.x.cell 0 _ rfl
  have e1 := S1.x.cell 1 _ rfl
  have e2 := S1.x.cell 2 _ rfl
  have z0 := S1.x.free 0
  have z1 := S1.x.free 1
  have z2 := S1.x.free 2
  clear hmo hb1 hrd S1 KL HS0 B0 P0
  have KN := Lib.hid (fun W => specNumOf_c s W)
  generalize numOfV s = n at *
  have hw : IntKind.i64.wrap (n + 1) = n + 1 := by rw [IntKind.wrap_i64]; omega
  go_wp2_with fail
  refine (KN.out _).mono ?_
  rintro e w2 ⟨rfl, hb2⟩
  have S2 := HX.out.below hb2
  have P2 := HPX.out.below hb2
  have HP2 := Lib.hid P2
  have HS2 := Lib.hid S2
  clear e0 e1 e2 z0 z1 z2 hb2 HX HPX KN
  by_cases hp : 999 < n + 1
  · have e1 : bm = lookM m key := HBM.out.trans (if_pos hp)
    have e2 : bn = 0 := HBN.out.trans (if_pos hp)
    subst e1 e2
    have d0 := S2.x.cell 0 _ rfl
    have d1 := S2.x.cell 1 _ rfl
    have d2 := S2.x.cell 2 _ rfl
    have pc0 := P2.cell 0 _ rfl
    have pf0 := P2.free 0
    have pc1 := P2.cell 1 _ rfl
    have pf1 := P2.free 1
    have pc2 := P2.cell 2 _ rfl
    have pf2 := P2.free 2
    clear S2 P2 HBM HBN
    go_wp2
    exact bodyPost_ret (v := .tuple #[.agg #[.slice x1 (lookM m key).st.length k1, .slice x2 (lookM m key).rs.length k2, .slice x3 (lookM m key).ws.length k3], .int .i64 0]) (by simp [results, Tryd.results15, go_sem, *]) rfl ⟨_, _, _, rfl, MOut.base (B' := w.heap.size + 2) (by (repeat (with_reducible refine MOut.set ?_ (by omega) _ _)); with_reducible exact HS2.out.mo) (by omega), (by (repeat (with_reducible refine Below.setCell ?_ (by simp) _)); with_reducible exact HS2.out.bel)⟩
  · obtain ⟨dn, hdn⟩ : ∃ dn, decS (n + 1) = dn := ⟨_, rfl⟩
    have hin : inB (n + 1) 1 999 = true := inB_iff.2 ⟨by omega, by omega⟩
    have hs := numText_size (n + 1)
    have hnt : numText (n + 1) = dn := by unfold numText; rw [hin, hdn]; rfl
    rw [hnt] at hs
    have e1 : bm = layM (lookM m key) key dn := (HBM.out.trans (if_neg hp)).trans (by unfold setM; rw [hnt])
    have e2 : bn = n + 1 := HBN.out.trans (if_neg hp)
    subst e1 e2
    have KD := Lib.hid (fun W => specDecimal_c (n + 1) W (by omega) (by omega))
    rw [hdn] at KD
    have KLY := Lib.hid (fun W (hS : SH w w.heap.size (w.heap.size + 2) (.slice a1 m.st.length c1) (.slice a2 m.rs.length c2) (.slice a3 m.ws.length c3) m (.slice x1 (lookM m key).st.length k1) (.slice x2 (lookM m key).rs.length k2) (.slice x3 (lookM m key).ws.length k3) (lookM m key) W) => (sLay_c (.slice x1 (lookM m key).st.length k1) (.slice x2 (lookM m key).rs.length k2) (.slice x3 (lookM m key).ws.length k3) (lookM m key) key dn W (hS.mo.rd HR.out hS.bel) (HOK.out.mono (by omega)) HK.out hs).mono fun e w' hx => hx.op (hS.mo.rd HR.out hS.bel))
    clear hdn hin hs hnt HBM HBN P2
    have cr0 : ∀ W, SH w w.heap.size (w.heap.size + 2) (.slice a1 m.st.length c1) (.slice a2 m.rs.length c2) (.slice a3 m.ws.length c3) m (.slice x1 (lookM m key).st.length k1) (.slice x2 (lookM m key).rs.length k2) (.slice x3 (lookM m key).ws.length k3) (lookM m key) W → W.cell? ⟨w.heap.size, 0, none⟩ = some (.slice x1 (lookM m key).st.length k1) := fun W h => h.x.cell 0 _ rfl
    have cr1 : ∀ W, SH w w.heap.size (w.heap.size + 2) (.slice a1 m.st.length c1) (.slice a2 m.rs.length c2) (.slice a3 m.ws.length c3) m (.slice x1 (lookM m key).st.length k1) (.slice x2 (lookM m key).rs.length k2) (.slice x3 (lookM m key).ws.length k3) (lookM m key) W → W.cell? ⟨w.heap.size, 1, none⟩ = some (.slice x2 (lookM m key).rs.length k2) := fun W h => h.x.cell 1 _ rfl
    have cr2 : ∀ W, SH w w.heap.size (w.heap.size + 2) (.slice a1 m.st.length c1) (.slice a2 m.rs.length c2) (.slice a3 m.ws.length c3) m (.slice x1 (lookM m key).st.length k1) (.slice x2 (lookM m key).rs.length k2) (.slice x3 (lookM m key).ws.length k3) (lookM m key) W → W.cell? ⟨w.heap.size, 2, none⟩ = some (.slice x3 (lookM m key).ws.length k3) := fun W h => h.x.cell 2 _ rfl
    go_wp2_with fail
    go_region_held3 (fun w' => SH w w.heap.size (w.heap.size + 2) (.slice a1 m.st.length c1) (.slice a2 m.rs.length c2) (.slice a3 m.ws.length c3) m (.slice x1 (lookM m key).st.length k1) (.slice x2 (lookM m key).rs.length k2) (.slice x3 (lookM m key).ws.length k3) (lookM m key) w') (first | with_reducible assumption | with_reducible exact SH.below (by with_reducible assumption) (by with_reducible assumption) | ((repeat (first | with_reducible refine SH.drew ?_ | with_reducible refine SH.set ?_ (by omega) (by omega) (by omega) _ _)); with_reducible assumption)) (first | (go_at_call 25; refine (KD.out _).mono ?_; rintro e w7 ⟨rfl, hbk⟩; have BR1 := Box.below (Box.drew HP2.out) hbk) | (go_at_call 24; refine (KLY.out _ (by with_reducible assumption)).mono ?_; rintro e w8 ⟨y1, q1, y2, q2, y3, q3, rfl, hmo8, hbk8⟩; have BR := Box.below BR1 hbk8; have pc0 := BR.cell 0 _ rfl; have pf0 := BR.free 0; have pc1 := BR.cell 1 _ rfl; have pf1 := BR.free 1; have pc2 := BR.cell 2 _ rfl; have pf2 := BR.free 2; have HMO := MOut.base hmo8 (B := w.heap.size + 2) (by have := BR1.1; omega)))
    go_wp2
    exact bodyPost_ret (v := .tuple #[.agg #[.slice y1 (layM (lookM m key) key dn).st.length q1, .slice y2 (layM (lookM m key) key dn).rs.length q2, .slice y3 (layM (lookM m key) key dn).ws.length q3], .int .i64 (n + 1)]) (by simp [results, Tryd.results15, go_sem, *]) rfl ⟨_, _, _, rfl, ((show SH w w.heap.size (w.heap.size + 2) (.slice a1 m.st.length c1) (.slice a2 m.rs.length c2) (.slice a3 m.ws.length c3) m (.slice x1 (lookM m key).st.length k1) (.slice x2 (lookM m key).rs.length k2) (.slice x3 (lookM m key).ws.length k3) (lookM m key) _ from by with_reducible assumption).mo.trans (by (repeat (with_reducible refine MOut.set ?_ (by omega) _ _)); with_reducible exact HMO) (Nat.le_refl _)).base (by omega), (show SH w w.heap.size (w.heap.size + 2) (.slice a1 m.st.length c1) (.slice a2 m.rs.length c2) (.slice a3 m.ws.length c3) m (.slice x1 (lookM m key).st.length k1) (.slice x2 (lookM m key).rs.length k2) (.slice x3 (lookM m key).ws.length k3) (lookM m key) _ from by with_reducible assumption).bel⟩

theorem sKey_c (n : Int) (t : ByteArray) (w : World) (h0 : -9223372036854775808 ≤ n) (h1 : n ≤ 9223372036854775807) (ht : t.size ≤ 100) :
    Calls Tryd.prog 17 #[.int .i64 n, .string t] w fun e w' => e = .returned (.string (procK n t)) ∧ Below w.heap.size w w' := by
  have K := Lib.hid (specKeyNum_c ⟨#[114, 47]⟩ n t w h0 h1 (by decide) (by omega))
  go_enter Tryd.func17, Tryd.ntmps17
  go_wp2_with fail
  refine K.out.mono ?_
  rintro e w1 ⟨rfl, hb⟩
  go_wp2
  go_ret
  exact ⟨rfl, hb⟩
end Go.Proofs.YtjlmoghifkgehaaDoor
