/- Contracts of the reference's draws of stores: cells with drawn keys and values. Conditions: the bytes came in as a slice; the cursor is the run's own. -/
import Derived.Test.YtedbmmoddemngaaDrawS
import Derived.Test.YtedbmmoddemngaaPutKey
namespace Go.Proofs.Ytedbmmoddemngaa
open Go.ChangeShapes Go.WideShapes Go.ChangeAt Go.RowKit
attribute [local go_sem ↓] Go.wp_at_zero Go.wp_at_succ
theorem putKeyS_mem {z : ByteArray × ByteArray} {xs : List (ByteArray × ByteArray)} {key val : ByteArray} (h : z ∈ putKeyS xs key val) : z = (key, val) ∨ z ∈ xs := by
  unfold putKeyS at h
  split at h
  · exact .inr h
  · exact putV_mem h
/-- The cells' keys lie in the list, and the values are short. -/
def CellsIn (L : List ByteArray) (xs : List (ByteArray × ByteArray)) : Prop := ∀ x ∈ xs, x.1 ∈ L ∧ x.2.size ≤ 61
def OwnStore (base : Nat) (L : List ByteArray) (N : Nat) (v : Value) (w : World) : Prop :=
  ∃ xs, w.ownsRow base 41 2 v xs.length (xs.flatMap encC) ∧ xs.length ≤ N ∧ CellsIn L xs
theorem key_sizes : ∀ s ∈ keyList, s.size ≤ 100 := fun s h => by
  have : (keyList.all fun a => decide (a.size ≤ 100)) = true := by kernel_rfl
  exact of_decide_eq_true (List.all_eq_true.1 this s h)
theorem anyList_sizes : ∀ s ∈ anyList, s.size ≤ 100 := by
  intro s hs
  rcases List.mem_append.1 hs with h | h
  · simp only [oddList, List.mem_cons, List.not_mem_nil, or_false] at h
    rcases h with rfl | rfl | rfl | rfl | rfl | rfl
    · decide
    · decide
    · decide
    · decide
    · rw [longK_size]; omega
    · rw [longK_size]; omega
  · exact key_sizes s h
theorem CellsIn.ok {L : List ByteArray} {xs : List (ByteArray × ByteArray)} (hL : ∀ s ∈ L, s.size ≤ 100) (h : CellsIn L xs) : ∀ x ∈ xs, x.1.size ≤ maxLen ∧ x.2.size ≤ maxLen := fun x hx => by
  have h1 := h x hx
  have h2 := hL _ h1.1
  unfold maxLen
  omega

set_option maxRecDepth 100000 in
set_option maxHeartbeats 4000000 in
theorem store_c (w0 w : World) (c : Nat) (hc : Cur w0 w c) :
    Calls Try.prog 54 #[.pointer (some ⟨c, 0, none⟩)] w (Drawn w0 c (OwnStore w.heap.size keyList 8) w) := by
  have hcl := hc.lt
  have HC := Lib.hid hc
  have HE0 := Lib.hid (own_empty w 41 2)
  have KB := Lib.hid (fun W (h : Cur w0 W c) => below_c w0 W c 8 h (by decide))
  have KK := Lib.hid (fun W (h : Cur w0 W c) => key_c w0 W c h)
  have KV := Lib.hid (fun W (h : Cur w0 W c) => val_c w0 W c h)
  clear hc
  go_enter Try.func54, Try.ntmps54
  go_wp2
  go_loopw [3, 4] (fun v i wr => ∃ (k : Nat) (xs : List (ByteArray × ByteArray)), i = .int .i64 k ∧ k ≤ 8 ∧ xs.length ≤ k ∧ Hid (CellsIn keyList xs) ∧ Hid (wr.ownsRow w.heap.size 41 2 v xs.length (xs.flatMap encC)) ∧ Hid (Cur w0 wr c) ∧ Hid (w.grownBy wr (some c))) (fun _ i _ => 8 - (intOf i).toNat)
  case atStart => exact ⟨0, [], rfl, Nat.zero_le _, Nat.zero_le _, Lib.hid (fun x hx => by simp at hx), HE0, Lib.hid (HC.out.below (by repeat (first | exact Below.refl _ _ | refine Below.drew ?_ | refine below_drewN ?_ _ | refine Below.allocC ?_ _ | refine Below.setCell ?_ (by first | (simp; done) | (simp; omega)) _ | refine Below.chain ?_ (by assumption)))), Lib.hid (grownBy_of_below (by repeat (first | exact Below.refl _ _ | refine Below.drew ?_ | refine below_drewN ?_ _ | refine Below.allocC ?_ _ | refine Below.setCell ?_ (by first | (simp; done) | (simp; omega)) _ | refine Below.chain ?_ (by assumption))) _)⟩
  case round =>
    obtain ⟨k, xs, rfl, hk, hl, HIn, HW, HCr, HG⟩ := hrel
    have p0 : (0 : Int) ≤ (k : Int) := by omega
    have K1 := Lib.hid (KB.out wr HCr.out)
    go_wp2_with fail
    refine K1.out.mono ?_
    rintro e w1 ⟨v, rfl, ⟨r, rfl, r0, r1, _⟩, hc1, hg1⟩
    have hr8 := r1 (by omega)
    have HC1 := Lib.hid hc1
    have HG1 := Lib.hid (grownBy_trans HG.out hg1)
    have HW1 := Lib.hid (own_far HW.out hg1 hcl)
    clear hc1 hg1 HW HG HCr r1
    by_cases hlt : (k : Int) < r
    · go_wp2_with fail
      refine (KK.out _ HC1.out).mono ?_
      rintro e w2 ⟨v, rfl, ⟨key, rfl, hkey⟩, hc2, hg2⟩
      have HC2 := Lib.hid hc2
      have HG2 := Lib.hid (grownBy_trans HG1.out hg2)
      have HW2 := Lib.hid (own_far HW1.out hg2 hcl)
      have HKY := Lib.hid hkey
      clear hc2 hg2 HW1 HG1 HC1 hkey
      go_wp2_with fail
      refine (KV.out _ HC2.out).mono ?_
      rintro e w3 ⟨v, rfl, ⟨val, rfl, hval⟩, hc3, hg3⟩
      have HC3 := Lib.hid hc3
      have HG3 := Lib.hid (grownBy_trans HG2.out hg3)
      have HW3 := Lib.hid (own_far HW2.out hg3 hcl)
      clear hc3 hg3 HW2 HG2 HC2
      obtain ⟨a3, cap3, hv3, hr3⟩ := reads_of_owns encC_len HW3.out
      subst hv3
      have KP := Lib.hid (specPutKey_c a3 cap3 xs key val w3 (by omega) hr3 (CellsIn.ok key_sizes HIn.out) (by have := key_sizes key HKY.out; unfold maxLen; omega) (by unfold maxLen; omega))
      clear hr3
      go_wp2_with fail
      refine KP.out.mono ?_
      rintro e w4 ⟨v4, rfl, o4, hb4⟩
      have HL4 := Lib.hid (putKeyS_len xs key val)
      have HI4 := Lib.hid (show CellsIn keyList (putKeyS xs key val) from fun z hz => by
        rcases putKeyS_mem hz with rfl | hz
        · exact ⟨HKY.out, hval⟩
        · exact HIn.out z hz)
      have HW4 := Lib.hid (ownsRow_base o4 (Nat.le_trans HG3.out.size (Nat.le_refl _)))
      have HC4 := Lib.hid (HC3.out.below hb4)
      have HG4 := Lib.hid (grownBy_below2 HG3.out hb4)
      clear o4 hb4 HW3
      go_wp2
      go_roundw
      case rel => exact ⟨k + 1, putKeyS xs key val, by go_num, by omega, by have := HL4.out; omega, HI4, HW4, HC4, HG4⟩
      case measure => simp [intOf]; omega
    · have HEND := Lib.hid (show Drawn w0 c (OwnStore w.heap.size keyList 8) w (.returned u3) w1 from ⟨_, rfl, ⟨xs, HW1.out, by omega, HIn.out⟩, HC1.out, HG1.out⟩)
      clear HW1 HC1 HG1
      go_wp2
      go_ret
      exact HEND.out

set_option maxRecDepth 100000 in
set_option maxHeartbeats 4000000 in
theorem any_c (w0 w : World) (c : Nat) (hc : Cur w0 w c) :
    Calls Try.prog 40 #[.pointer (some ⟨c, 0, none⟩)] w (Drawn w0 c (OwnStore w.heap.size anyList 9) w) := by
  obtain ⟨i0, hinf, hzz⟩ := Option.map_eq_some_iff.1 infoCell
  simp only [Prod.mk.injEq] at hzz
  have HI := Lib.hid hinf
  have HZ := Lib.hid hzz
  clear hinf hzz
  have hcl := hc.lt
  have K := Lib.hid (store_c w0 w c hc)
  have KO := Lib.hid (fun W (h : Cur w0 W c) => once_c w0 W c 8 h (by decide))
  have KK := Lib.hid (fun W (h : Cur w0 W c) => anyKey_c w0 W c h)
  have KV := Lib.hid (fun W (h : Cur w0 W c) => val_c w0 W c h)
  clear hc
  go_enter Try.func40, Try.ntmps40
  go_wp2_with fail
  refine K.out.mono ?_
  rintro e w1 ⟨v1, rfl, ⟨xs, o1, hl, hin⟩, hc1, hg1⟩
  have HIn := Lib.hid (show CellsIn anyList xs from fun z hz => ⟨List.mem_append_right _ (hin z hz).1, (hin z hz).2⟩)
  have HW1 := Lib.hid o1
  have HC1 := Lib.hid hc1
  have HG1 := Lib.hid hg1
  clear o1 hc1 hg1 hin
  go_wp2_with fail
  refine (KO.out _ HC1.out).mono ?_
  rintro e w2 ⟨v, rfl, ⟨b, rfl⟩, hc2, hg2⟩
  have HC2 := Lib.hid hc2
  have HG2 := Lib.hid (grownBy_trans HG1.out hg2)
  have HW2 := Lib.hid (own_far HW1.out hg2 hcl)
  clear hc2 hg2 HW1 HG1 HC1
  cases b
  · have HEND := Lib.hid (show Drawn w0 c (OwnStore w.heap.size anyList 9) w (.returned v1) w2 from ⟨_, rfl, ⟨xs, HW2.out, by omega, HIn.out⟩, HC2.out, HG2.out⟩)
    clear HW2 HC2 HG2
    go_wp2
    go_ret
    exact HEND.out
  · go_wp2_with fail
    refine (KK.out _ HC2.out).mono ?_
    rintro e w3 ⟨v, rfl, ⟨key, rfl, hkey⟩, hc3, hg3⟩
    have HC3 := Lib.hid hc3
    have HG3 := Lib.hid (grownBy_trans HG2.out hg3)
    have HW3 := Lib.hid (own_far HW2.out hg3 hcl)
    have HKY := Lib.hid hkey
    clear hc3 hg3 HW2 HG2 HC2 hkey
    go_wp2_with fail
    refine (KV.out _ HC3.out).mono ?_
    rintro e w4 ⟨v, rfl, ⟨val, rfl, hval⟩, hc4, hg4⟩
    have HC4 := Lib.hid hc4
    have HG4 := Lib.hid (grownBy_trans HG3.out hg4)
    have HW4 := Lib.hid (own_far HW3.out hg4 hcl)
    have hs4 : w.heap.size ≤ w4.heap.size := HG4.out.size
    clear hc4 hg4 HW3 HG3 HC3
    go_wp2_with (at_builtin; refine wpList_append_own2 _ rfl _ _ 26 rfl w.heap.size 41 i0 (.agg #[.string ⟨#[]⟩, .string ⟨#[]⟩]) 2 32 Try.underlying26 HI.out HZ.out.1 HZ.out.2.1 HZ.out.2.2 rfl (by decide) _ _ _ rfl (HW4.out.alloc _) ⟨w4.heap.size, 0, none⟩ 1 1 (encC (key, val)) rfl rfl (box_news (Box.new _ (encC (key, val)) _)) (encC_one _) (by unfold maxLen; omega) (by omega) (by simp; omega) ?_)
    intro v' w' o2 g2 or2
    have HG5 := Lib.hid (grown_own (grownBy_below2 HG4.out (show Below w4.heap.size w4 (w4.alloc (.cells #[.string key, .string val] 41)) from (by repeat (first | exact Below.refl _ _ | refine Below.drew ?_ | refine below_drewN ?_ _ | refine Below.allocC ?_ _ | refine Below.setCell ?_ (by first | (simp; done) | (simp; omega)) _ | refine Below.chain ?_ (by assumption))))) (HW4.out.alloc _) g2)
    have HC5 := Lib.hid (Cur.own (HC4.out.below (show Below w4.heap.size w4 (w4.alloc (.cells #[.string key, .string val] 41)) from (by repeat (first | exact Below.refl _ _ | refine Below.drew ?_ | refine below_drewN ?_ _ | refine Below.allocC ?_ _ | refine Below.setCell ?_ (by first | (simp; done) | (simp; omega)) _ | refine Below.chain ?_ (by assumption))))) (HW4.out.alloc _) hcl g2)
    have HEND := Lib.hid (show Drawn w0 c (OwnStore w.heap.size anyList 9) w (.returned v') w' from ⟨_, rfl, ⟨xs ++ [(key, val)], by
      rw [List.length_append, List.flatMap_append]; exact (by simpa using o2), by simp; omega, fun z hz => by
      rcases List.mem_append.1 hz with hz | hz
      · exact HIn.out z hz
      · have := List.mem_singleton.1 hz
        subst this
        exact ⟨HKY.out, hval⟩⟩, HC5.out, HG5.out⟩)
    clear o2 g2 or2 HW4 HC4 HG4 HC5 HG5
    go_wp2
    go_ret
    exact HEND.out
/-- A store and a text. -/
def StoreText (L : List ByteArray) (w : World) (e : Ending) (w' : World) : Prop :=
  ∃ v xs s, e = .returned (.tuple #[v, .string s]) ∧ s ∈ L ∧ w'.ownsRow w.heap.size 41 2 v xs.length (xs.flatMap encC) ∧ xs.length ≤ 9 ∧ CellsIn anyList xs ∧ Below w.heap.size w w'
/-- A store, a key and a value. -/
def StoreKeyVal (w : World) (e : Ending) (w' : World) : Prop :=
  ∃ v xs s t, e = .returned (.tuple #[v, .string s, .string t]) ∧ s ∈ anyList ∧ t.size ≤ 61 ∧ w'.ownsRow w.heap.size 41 2 v xs.length (xs.flatMap encC) ∧ xs.length ≤ 9 ∧ CellsIn anyList xs ∧ Below w.heap.size w w'
def prefixList : List ByteArray := [⟨#[]⟩, ⟨#[110, 47]⟩, ⟨#[105, 47, 49]⟩, ⟨#[105, 47, 49, 47]⟩, ⟨#[120]⟩, ⟨#[97]⟩]

end Go.Proofs.Ytedbmmoddemngaa
