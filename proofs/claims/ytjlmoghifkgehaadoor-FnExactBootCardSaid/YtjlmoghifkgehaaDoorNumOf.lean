/- Contracts: NumOf of both sides: the number of which a text is the numeral, up to 999. Conditions: the bounds that any Go string meets; the library's variables hold what their texts lay. -/
import Derived.Test.YtjlmoghifkgehaaDoorReadDec
namespace Go.Proofs.YtjlmoghifkgehaaDoor
open Go.RowKit
attribute [local go_sem ↓] Go.wp_at_zero Go.wp_at_succ
noncomputable def numOfV (s : ByteArray) : Int := if 999 < readV s then 0 else readV s
theorem numOf_bounds (s : ByteArray) : 0 ≤ numOfV s ∧ numOfV s ≤ 999 := by
  have := readV_bounds s
  unfold numOfV; split <;> omega
theorem implNumOf_c (s : ByteArray) (w : World) (hs : s.size ≤ 281474976710656) (ht : DecTab w) (hE : NumErr w) :
    Calls Tryd.prog 28 #[.string s] w fun e w' => e = .returned (.int .i64 (numOfV s)) ∧ Below w.heap.size w w' := by
  have K := Lib.hid (implReadDec_c s w hs ht hE)
  clear ht hE
  have HX := Lib.hid (show numOfV s = if 999 < readV s then 0 else readV s from rfl)
  generalize readV s = n at *
  by_cases h : 999 < n
  · have HY := Lib.hid (HX.out.trans (if_pos h))
    go_enter Tryd.func28, Tryd.ntmps28
    go_wp2_with fail
    refine K.out.mono ?_
    rintro e w1 ⟨rfl, hb1⟩
    go_wp2
    go_ret
    exact ⟨by rw [HY.out]; rfl, hb1⟩
  · have HY := Lib.hid (HX.out.trans (if_neg h))
    go_enter Tryd.func28, Tryd.ntmps28
    go_wp2_with fail
    refine K.out.mono ?_
    rintro e w1 ⟨rfl, hb1⟩
    go_wp2
    go_ret
    exact ⟨by rw [HY.out]; rfl, hb1⟩
theorem specNumOf_c (s : ByteArray) (w : World) :
    Calls Tryd.prog 23 #[.string s] w fun e w' => e = .returned (.int .i64 (numOfV s)) ∧ Below w.heap.size w w' := by
  have K := Lib.hid (specReadDec_c s w)
  have HX := Lib.hid (show numOfV s = if 999 < readV s then 0 else readV s from rfl)
  cases ho : readOk s with
  | false =>
    have HZ := Lib.hid (show numOfV s = 0 by
      have : readV s = 0 := (read_no (fun n hn => by rw [(read_yes hn).1] at ho; cases ho)).2
      rw [HX.out, this]; rfl)
    rw [ho] at K
    clear ho
    generalize readV s = n at *
    go_enter Tryd.func23, Tryd.ntmps23
    go_wp2_with fail
    refine K.out.mono ?_
    rintro e w1 ⟨rfl, hb1⟩
    go_wp2
    go_ret
    exact ⟨by rw [HZ.out]; rfl, hb1⟩
  | true =>
    rw [ho] at K
    clear ho
    generalize readV s = n at *
    by_cases h : 999 < n
    · have HY := Lib.hid (HX.out.trans (if_pos h))
      go_enter Tryd.func23, Tryd.ntmps23
      go_wp2_with fail
      refine K.out.mono ?_
      rintro e w1 ⟨rfl, hb1⟩
      go_wp2
      go_ret
      exact ⟨by rw [HY.out]; rfl, hb1⟩
    · have HY := Lib.hid (HX.out.trans (if_neg h))
      go_enter Tryd.func23, Tryd.ntmps23
      go_wp2_with fail
      refine K.out.mono ?_
      rintro e w1 ⟨rfl, hb1⟩
      go_wp2
      go_ret
      exact ⟨by rw [HY.out]; rfl, hb1⟩
end Go.Proofs.YtjlmoghifkgehaaDoor
