/- Contract of the reference's draw of twelve numbers. Conditions: the bytes came in as a slice. -/
import Derived.Test.YtedbmmoddemngaaDoorDrawS
namespace Go.Proofs.YtedbmmoddemngaaDoor
open Go.ChangeShapes Go.WideShapes Go.ChangeAt Go.RowKit
attribute [local go_sem ↓] Go.wp_at_zero Go.wp_at_succ
def encI (x : Int) : List Value := [.int .i64 x]
theorem encI_len (x : Int) : (encI x).length = 1 := rfl
theorem infoInt : (Tryd.prog.info? 3).map (fun i => (i.zero, i.size, i.bytes)) = some (some (.int .i64 0), 1, 8) := by kernel_rfl
/-- Twelve numbers below 10000, in memory of their own. -/
def IsPlaces (w : World) (e : Ending) (w' : World) : Prop := ∃ a cap xs, e = .returned (.slice a 12 cap) ∧ xs.length = 12 ∧ (∀ x ∈ xs, 0 ≤ x ∧ x < 10000) ∧ Reads w' a 1 encI xs ∧ Below w.heap.size w w'
set_option maxRecDepth 100000 in
set_option maxHeartbeats 4000000 in
theorem drawPlaces_c (a : Option Addr) (len cap : Nat) (z : List Int) (w : World) (hz : IsRow .u8 w a len cap z) :
    Calls Tryd.prog 26 #[.slice a len cap] w (IsPlaces w) := by
  obtain ⟨i0, hi, hzz⟩ := Option.map_eq_some_iff.1 infoInt
  simp only [Prod.mk.injEq] at hzz
  have HI := Lib.hid hi
  have HZ := Lib.hid hzz
  have K := Lib.hid (new_c a len cap z w hz)
  have KB := Lib.hid (fun W c (h : Cur w W c) => below_c w W c 10000 h (by decide))
  clear hi hzz hz
  go_enter Tryd.func26, Tryd.ntmps26
  go_wp2_with fail
  refine K.out.mono ?_
  rintro e w1 ⟨c, rfl, hc1⟩
  have HC1 := Lib.hid hc1
  have HB1 := Lib.hid hc1.base
  have hcl := hc1.lt
  have HE0 := Lib.hid (own_empty w1 3 1)
  clear hc1
  go_wp2
  go_loopw [4, 5] (fun v i wr => ∃ (k : Nat) (E : List Int), i = .int .i64 k ∧ k ≤ 12 ∧ E.length = k ∧ Hid (∀ x ∈ E, 0 ≤ x ∧ x < 10000) ∧ Hid (wr.ownsRow w1.heap.size 3 1 v k (E.flatMap encI)) ∧ Hid (Cur w wr c) ∧ Hid (w1.grownBy wr (some c))) (fun _ i _ => 12 - (intOf i).toNat)
  case atStart => exact ⟨0, [], rfl, Nat.zero_le _, rfl, Lib.hid (fun x h => by cases h), HE0, Lib.hid (HC1.out.below (by repeat (first | exact Below.refl _ _ | refine Below.drew ?_ | refine below_drewN ?_ _ | refine Below.allocC ?_ _ | refine Below.setCell ?_ (by first | (simp; done) | (simp; omega)) _ | refine Below.chain ?_ (by assumption)))), Lib.hid (grownBy_of_below (by repeat (first | exact Below.refl _ _ | refine Below.drew ?_ | refine below_drewN ?_ _ | refine Below.allocC ?_ _ | refine Below.setCell ?_ (by first | (simp; done) | (simp; omega)) _ | refine Below.chain ?_ (by assumption))) _)⟩
  case round =>
    obtain ⟨k, E, rfl, hk, hE, HIN, HW, HCr, HG⟩ := hrel
    have HEL := Lib.hid hE
    have p0 : (0 : Int) ≤ (k : Int) := by omega
    by_cases hlt : (k : Int) < 12
    · have K2 := Lib.hid (KB.out wr c HCr.out)
      clear hE
      go_wp2_with fail
      refine K2.out.mono ?_
      rintro e w2 ⟨v, rfl, ⟨x, rfl, x0, x1, _⟩, hc2, hg2⟩
      have x2 := x1 (by decide)
      have HC2 := Lib.hid hc2
      have HG2 := Lib.hid (grownBy_trans HG.out hg2)
      have HW2 := Lib.hid (own_far HW.out hg2 hcl)
      have HIN2 := Lib.hid (show ∀ y ∈ E ++ [x], 0 ≤ y ∧ y < 10000 from fun y hy => by
        rcases List.mem_append.1 hy with h | h
        · exact HIN.out y h
        · have := List.mem_singleton.1 h
          subst this
          exact ⟨x0, x2⟩)
      have hs1 : w1.heap.size ≤ w2.heap.size := HG2.out.size
      clear hc2 hg2 HW HG HCr HIN x1
      go_wp2_with (at_builtin; refine wpList_append_own2 _ rfl _ _ 39 rfl w1.heap.size 3 i0 _ 1 8 Tryd.underlying39 HI.out HZ.out.1 HZ.out.2.1 HZ.out.2.2 rfl (by decide) _ _ _ rfl (HW2.out.alloc _) ⟨w2.heap.size, 0, none⟩ 1 1 [.int .i64 x] rfl rfl (box_news (Box.new _ _ _)) (by intro u hu; simp at hu; subst hu; rfl) (by unfold maxLen; omega) (by omega) (by simp; omega) ?_)
      intro v' w' o2 g2 or2
      have HG3 := Lib.hid (grown_own (grownBy_below2 HG2.out (show Below w2.heap.size w2 (w2.alloc (.cells #[.int .i64 x] 3)) from (by repeat (first | exact Below.refl _ _ | refine Below.drew ?_ | refine below_drewN ?_ _ | refine Below.allocC ?_ _ | refine Below.setCell ?_ (by first | (simp; done) | (simp; omega)) _ | refine Below.chain ?_ (by assumption))))) (HW2.out.alloc _) g2)
      have HC3 := Lib.hid (Cur.own (HC2.out.below (show Below w2.heap.size w2 (w2.alloc (.cells #[.int .i64 x] 3)) from (by repeat (first | exact Below.refl _ _ | refine Below.drew ?_ | refine below_drewN ?_ _ | refine Below.allocC ?_ _ | refine Below.setCell ?_ (by first | (simp; done) | (simp; omega)) _ | refine Below.chain ?_ (by assumption))))) (HW2.out.alloc _) hcl g2)
      have HW3 := Lib.hid (show w'.ownsRow w1.heap.size 3 1 v' (k + 1) ((E ++ [x]).flatMap encI) from by
        rw [List.flatMap_append]; exact o2)
      have HL3 := Lib.hid (show (E ++ [x]).length = k + 1 from by rw [List.length_append, HEL.out]; rfl)
      clear o2 g2 or2 HW2 HC2 HG2
      go_wp2
      go_roundw
      case rel => exact ⟨k + 1, E ++ [x], by go_num, by omega, HL3.out, HIN2, HW3, HC3, HG3⟩
      case measure => simp [intOf]; omega
    · obtain rfl : k = 12 := by omega
      have h12 : wr.ownsRow w.heap.size 3 1 u4 E.length (E.flatMap encI) := by rw [hE]; exact ownsRow_base HW.out HB1.out.size
      obtain ⟨a', cap', hv, hr⟩ := reads_of_owns encI_len h12
      rw [hE] at hv
      have HEND := Lib.hid (show IsPlaces w (.returned u4) wr from ⟨a', cap', E, by rw [hv], hE, HIN.out, hr, HCr.out.base⟩)
      clear hE HW HCr HG h12 hv hr HIN
      go_wp2
      go_ret
      exact HEND.out
end Go.Proofs.YtedbmmoddemngaaDoor
