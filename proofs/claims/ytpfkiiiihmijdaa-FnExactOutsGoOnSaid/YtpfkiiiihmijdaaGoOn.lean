/- Contracts: OutsGoOn of both sides says whether a list of texts is a beginning of another ('goOnB'). Conditions: only the bounds that any Go slice meets. -/
import Derived.Test.YtpfkiiiihmijdaaEqSString
import Derived.Test.YtpfkiiiihmijdaaEqLString
namespace Go.Proofs.Ytpfkiiiihmijdaa
open Go.RowKit
/-- xs is a beginning of ys. -/
noncomputable def goOnB (xs ys : List ByteArray) : Bool := decide (xs.length ≤ ys.length) && same xs (ys.take xs.length)
theorem goOn_no {xs ys : List ByteArray} (h : ys.length < xs.length) : goOnB xs ys = false := by simp [goOnB]; omega
theorem goOn_is {xs ys : List ByteArray} (h : xs.length ≤ ys.length) : goOnB xs ys = same xs (ys.take xs.length) := by simp [goOnB, h]

set_option maxHeartbeats 1600000 in
theorem specGoOn_c (a a2 : Option Addr) (cap cap2 : Nat) (xs ys : List ByteArray) (w : World) (l1 : xs.length ≤ maxLen) (hc : ys.length ≤ cap2) (_hm : cap2 ≤ maxLen) (h1 : Reads w a 1 encS xs) (h2 : Reads w a2 1 encS ys) :
    Calls Try.prog 28 #[.slice a xs.length cap, .slice a2 ys.length cap2] w fun e w' => e = .returned (.bool (goOnB xs ys)) ∧ Below w.heap.size w w' := by
  by_cases h : xs.length ≤ ys.length
  · have HG := Lib.hid (goOn_is h)
    have hl : (ys.take xs.length).length = xs.length := by rw [List.length_take]; omega
    have K0 := specEqString_c a a2 cap cap2 xs (ys.take xs.length) w l1 h1 (h2.take _)
    rw [hl] at K0
    have K := Lib.hid K0
    have p1 : (xs.length : Int) ≤ (ys.length : Int) := by omega
    have p2 : (xs.length : Int) ≤ (cap2 : Int) := by omega
    have p3 : xs.length ≤ cap2 := by omega
    clear K0 hl h1 h2
    unfold maxLen at l1 _hm
    generalize same xs (ys.take xs.length) = r at *
    go_enter Try.func28, Try.ntmps28
    go_wp2_with fail
    refine K.out.mono ?_
    rintro e w1 ⟨rfl, hb1⟩
    go_wp2
    go_ret
    exact ⟨by rw [HG.out]; rfl, hb1⟩
  · have HG := Lib.hid (goOn_no (xs := xs) (ys := ys) (by omega))
    have d1 : decide (xs.length ≤ ys.length) = false := by simp; omega
    have p1 : ¬ (xs.length : Int) ≤ (ys.length : Int) := by omega
    clear h1 h2
    go_enter Try.func28, Try.ntmps28
    go_wp2
    go_ret
    exact ⟨by rw [HG.out]; rfl, Below.refl _ _⟩

set_option maxHeartbeats 1600000 in
theorem implGoOn_c (a a2 : Option Addr) (cap cap2 : Nat) (xs ys : List ByteArray) (w : World) (l1 : xs.length ≤ maxLen) (hc : ys.length ≤ cap2) (_hm : cap2 ≤ maxLen) (h1 : Reads w a 1 encS xs) (h2 : Reads w a2 1 encS ys) :
    Calls Try.prog 30 #[.slice a xs.length cap, .slice a2 ys.length cap2] w fun e w' => e = .returned (.bool (goOnB xs ys)) ∧ Below w.heap.size w w' := by
  by_cases h : xs.length ≤ ys.length
  · have HG := Lib.hid (goOn_is h)
    have hl : (ys.take xs.length).length = xs.length := by rw [List.length_take]; omega
    have K0 := libEqString_c a a2 cap cap2 xs (ys.take xs.length) w l1 h1 (h2.take _)
    rw [hl] at K0
    have K := Lib.hid K0
    have p1 : (xs.length : Int) ≤ (ys.length : Int) := by omega
    have p2 : (xs.length : Int) ≤ (cap2 : Int) := by omega
    have p3 : xs.length ≤ cap2 := by omega
    clear K0 hl h1 h2
    unfold maxLen at l1 _hm
    generalize same xs (ys.take xs.length) = r at *
    go_enter Try.func30, Try.ntmps30
    go_wp2_with fail
    refine K.out.mono ?_
    rintro e w1 ⟨rfl, hb1⟩
    go_wp2
    go_ret
    exact ⟨by rw [HG.out]; rfl, hb1⟩
  · have HG := Lib.hid (goOn_no (xs := xs) (ys := ys) (by omega))
    have d1 : decide (xs.length ≤ ys.length) = false := by simp; omega
    have p1 : ¬ (xs.length : Int) ≤ (ys.length : Int) := by omega
    clear h1 h2
    go_enter Try.func30, Try.ntmps30
    go_wp2
    go_ret
    exact ⟨by rw [HG.out]; rfl, Below.refl _ _⟩
end Go.Proofs.Ytpfkiiiihmijdaa
