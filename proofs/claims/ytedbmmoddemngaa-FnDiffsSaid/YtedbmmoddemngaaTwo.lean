/- Contract of the reference's draw of two stores. Conditions: the bytes came in as a slice. -/
import Derived.Test.YtedbmmoddemngaaDrawC
import Derived.Test.YtedbmmoddemngaaPutKey
namespace Go.Proofs.Ytedbmmoddemngaa
open Go.ChangeShapes Go.WideShapes Go.ChangeAt Go.RowKit
attribute [local go_sem ↓] Go.wp_at_zero Go.wp_at_succ
/-- Two stores. -/
def TwoStores (w : World) (e : Ending) (w' : World) : Prop :=
  ∃ a cap a2 cap2 xs ys, e = .returned (.tuple #[.slice a xs.length cap, .slice a2 ys.length cap2]) ∧ Reads w' a 2 encC xs ∧ Reads w' a2 2 encC ys ∧ xs.length ≤ 9 ∧ ys.length ≤ 10 ∧ CellsIn anyList xs ∧ CellsIn anyList ys ∧ Below w.heap.size w w'
theorem reads_own {w : World} {base T n cap : Nat} {a : Option Addr} {xs : List (ByteArray × ByteArray)} (h : w.ownsRow base T 2 (.slice a n cap) xs.length (xs.flatMap encC)) : Reads w a 2 encC xs ∧ n = xs.length := by
  obtain ⟨a', cap', e, hr⟩ := reads_of_owns encC_len h
  cases e
  exact ⟨hr, rfl⟩

set_option maxRecDepth 100000 in
set_option maxHeartbeats 4000000 in
theorem two_c (a : Option Addr) (len cap : Nat) (z : List Int) (w : World) (hz : IsRow .u8 w a len cap z) :
    Calls Try.prog 30 #[.slice a len cap] w (TwoStores w) := by
  obtain ⟨i0, hinf, hzz⟩ := Option.map_eq_some_iff.1 infoCell
  simp only [Prod.mk.injEq] at hzz
  have HI := Lib.hid hinf
  have HZ := Lib.hid hzz
  clear hinf hzz
  have K := Lib.hid (new_c a len cap z w hz)
  have KS := Lib.hid (fun W c (h : Cur w W c) => any_c w W c h)
  have KB := Lib.hid (fun W c (h : Cur w W c) => below_c w W c 4 h (by decide))
  have KK := Lib.hid (fun W c (h : Cur w W c) => key_c w W c h)
  have KV := Lib.hid (fun W c (h : Cur w W c) => val_c w W c h)
  clear hz
  go_enter Try.func30, Try.ntmps30
  go_wp2_with fail
  refine K.out.mono ?_
  rintro e w1 ⟨c, rfl, hc1⟩
  have HC1 := Lib.hid hc1
  have HB1 := Lib.hid hc1.base
  have hcl := hc1.lt
  clear hc1
  go_wp2_with fail
  refine (KS.out _ _ HC1.out).mono ?_
  rintro e w2 ⟨v2, rfl, ⟨xs, o2, hl, hin⟩, hc2, hg2⟩
  obtain ⟨a1, c1, hv, hr2⟩ := reads_of_owns encC_len o2
  subst hv
  have HW2 := Lib.hid o2
  have HIn := Lib.hid hin
  have HC2 := Lib.hid hc2
  clear o2 hin hc2 hg2 hr2
  go_wp2_with fail
  refine (KB.out _ _ HC2.out).mono ?_
  rintro e w3 ⟨v, rfl, ⟨m, rfl, m0, m1, _⟩, hc3, hg3⟩
  have HW3 := Lib.hid (own_far HW2.out hg3 hcl)
  have HC3 := Lib.hid hc3
  have HR3 := Lib.hid (reads_own HW3.out).1
  clear hc3 hg3 HW2 HC2 m1
  by_cases e0 : m = 0
  · subst e0
    go_wp2_with (at_builtin; refine wpList_append_reads _ rfl _ _ 26 rfl w3.heap.size 41 i0 (.agg #[.string ⟨#[]⟩, .string ⟨#[]⟩]) 2 32 Try.underlying26 HI.out HZ.out.1 HZ.out.2.1 HZ.out.2.2 rfl (by decide) encC_len encC_one _ 0 [] rfl (own_empty w3 41 2) _ _ _ xs rfl rfl (HR3.out.below (by repeat (first | exact Below.refl _ _ | refine Below.drew ?_ | refine below_drewN ?_ _ | refine Below.allocC ?_ _ | refine Below.setCell ?_ (by first | (simp; done) | (simp; omega)) _ | refine Below.chain ?_ (by assumption)))) (by unfold maxLen; omega) (by omega) (show Below w3.heap.size w3 (w3.alloc (.cells #[] 41)) from (by repeat (first | exact Below.refl _ _ | refine Below.drew ?_ | refine below_drewN ?_ _ | refine Below.allocC ?_ _ | refine Below.setCell ?_ (by first | (simp; done) | (simp; omega)) _ | refine Below.chain ?_ (by assumption)))).size ?_)
    intro v' w' ow gw _
    have hb : Below w3.heap.size w3 w' := (show Below w3.heap.size w3 (w3.alloc (.cells #[] 41)) from (by repeat (first | exact Below.refl _ _ | refine Below.drew ?_ | refine below_drewN ?_ _ | refine Below.allocC ?_ _ | refine Below.setCell ?_ (by first | (simp; done) | (simp; omega)) _ | refine Below.chain ?_ (by assumption)))).trans (below_of_grown gw (Nat.le_refl _) (show Below w3.heap.size w3 (w3.alloc (.cells #[] 41)) from (by repeat (first | exact Below.refl _ _ | refine Below.drew ?_ | refine below_drewN ?_ _ | refine Below.allocC ?_ _ | refine Below.setCell ?_ (by first | (simp; done) | (simp; omega)) _ | refine Below.chain ?_ (by assumption)))).size)
    obtain ⟨a2, c2, hv, hr'⟩ := reads_of_owns encC_len (show w'.ownsRow w3.heap.size 41 2 v' xs.length (xs.flatMap encC) from by simpa using ow)
    have HEND := Lib.hid (show TwoStores w (.returned (.tuple #[.slice a1 xs.length c1, v'])) w' from ⟨a1, c1, a2, c2, xs, xs, by rw [hv], HR3.out.below hb, hr', hl, by omega, HIn.out, HIn.out, HC3.out.base.trans (hb.mono HC3.out.base.size)⟩)
    clear HW3 HC3 hb hv hr' ow gw HR3
    go_wp2
    go_ret2
    exact HEND.out
  · by_cases e1 : m = 1
    · subst e1
      clear e0
      go_wp2_with fail
      refine (KK.out _ _ HC3.out).mono ?_
      rintro e w4 ⟨v, rfl, ⟨s, rfl, hs⟩, hc4, hg4⟩
      have HW4 := Lib.hid (own_far HW3.out hg4 hcl)
      have HC4 := Lib.hid hc4
      clear hc4 hg4 HW3 HC3 HR3
      go_wp2_with fail
      refine (KV.out _ _ HC4.out).mono ?_
      rintro e w5 ⟨v, rfl, ⟨t, rfl, ht⟩, hc5, hg5⟩
      have HW5 := Lib.hid (own_far HW4.out hg5 hcl)
      have HR5 := Lib.hid (reads_own HW5.out).1
      have HB5 := Lib.hid hc5.base
      have hss := key_sizes s hs
      have KP := Lib.hid (specPutKey_c a1 c1 xs s t w5 (by omega) HR5.out (CellsIn.ok anyList_sizes HIn.out) (by unfold maxLen; omega) (by unfold maxLen; omega))
      have HKS := Lib.hid hs
      clear hc5 hg5 HW4 HC4 HW5 hs
      go_wp2_with fail
      refine KP.out.mono ?_
      rintro e w6 ⟨v', rfl, o6, hb6⟩
      obtain ⟨a2, c2, hv, hr'⟩ := reads_of_owns encC_len o6
      have HEND := Lib.hid (show TwoStores w (.returned (.tuple #[.slice a1 xs.length c1, v'])) w6 from ⟨a1, c1, a2, c2, xs, putKeyS xs s t, by rw [hv], HR5.out.below hb6, hr', hl, by have := putKeyS_len xs s t; omega, HIn.out, fun z hz => by
        rcases putKeyS_mem hz with rfl | hz
        · exact ⟨List.mem_append_right _ HKS.out, ht⟩
        · exact HIn.out z hz, HB5.out.trans (hb6.mono HB5.out.size)⟩)
      clear HR5 HB5 hb6 o6 hv hr' KP HKS
      go_wp2
      go_ret2
      exact HEND.out
    · go_wp2_with fail
      refine (KS.out _ _ HC3.out).mono ?_
      rintro e w4 ⟨v4, rfl, ⟨ys, o4, hl4, hin4⟩, hc4, hg4⟩
      have HW4 := Lib.hid (own_far HW3.out hg4 hcl)
      obtain ⟨a2, c2, hv, hr'⟩ := reads_of_owns encC_len o4
      have HEND := Lib.hid (show TwoStores w (.returned (.tuple #[.slice a1 xs.length c1, v4])) w4 from ⟨a1, c1, a2, c2, xs, ys, by rw [hv], (reads_own HW4.out).1, hr', hl, by omega, HIn.out, hin4, hc4.base⟩)
      clear HW4 o4 hv hr' hc4 hg4 HR3 HW3 HC3 e0 e1
      go_wp2
      go_ret2
      exact HEND.out

theorem drawDiff_c (a : Option Addr) (len cap : Nat) (z : List Int) (w : World) (hz : IsRow .u8 w a len cap z) :
    Calls Try.prog 15 #[.slice a len cap] w (TwoStores w) := by
  have K := Lib.hid (two_c a len cap z w hz)
  clear hz
  go_enter Try.func15, Try.ntmps15
  go_wp2_with fail
  refine K.out.mono ?_
  rintro e w1 ⟨a1, c1, a2, c2, xs, ys, rfl, h1, h2, h3, h4, h5, h6, h7⟩
  have HEND := Lib.hid (show TwoStores w (.returned (.tuple #[.slice a1 xs.length c1, .slice a2 ys.length c2])) w1 from ⟨a1, c1, a2, c2, xs, ys, rfl, h1, h2, h3, h4, h5, h6, h7⟩)
  clear h1 h2 h3 h4 h5 h6 h7
  go_wp2
  go_ret2
  exact HEND.out
end Go.Proofs.Ytedbmmoddemngaa
