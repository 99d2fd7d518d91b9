/- Contracts: CallOk of both sides says whether a call is valid ('callOkB'). Conditions: only the bounds that any Go string meets. -/
import Derived.Test.YtedbmmoddemngaaDoorProg
import Derived.WalkKit
import Derived.WalkSpells
import Derived.WalkLawsBesides
import Derived.Test.YtedbmmoddemngaaDoorWithin
import Derived.Test.YtedbmmoddemngaaDoorSame
import Derived.Lib.Hide
namespace Go.Proofs.YtedbmmoddemngaaDoor
open Go.RowKit
/-- A call is valid. -/
def callOkB (x : Cal) : Bool := inB x.kind 1 22 && (decide ((x.name.size : Int) ≤ 20) && (decide ((x.dest.size : Int) ≤ 20) && decide ((x.text.size : Int) ≤ 64)))
theorem callOk_1 {x : Cal} (h : inB x.kind 1 22 = false) : callOkB x = false := by simp [callOkB, h]
theorem callOk_2 {x : Cal} (h : 20 < (x.name.size : Int)) : callOkB x = false := by simp [callOkB]; omega
theorem callOk_3 {x : Cal} (h : 20 < (x.dest.size : Int)) : callOkB x = false := by simp [callOkB]; omega
theorem callOk_4 {x : Cal} (h : 64 < (x.text.size : Int)) : callOkB x = false := by simp [callOkB]; omega
theorem callOk_yes {x : Cal} (h1 : inB x.kind 1 22 = true) (h2 : (x.name.size : Int) ≤ 20) (h3 : (x.dest.size : Int) ≤ 20) (h4 : (x.text.size : Int) ≤ 64) : callOkB x = true := by
  simp [callOkB, h1]; omega

set_option maxHeartbeats 1600000 in
theorem specCallOk_c (x : Cal) (b0 : x.name.size ≤ maxLen) (b1 : x.dest.size ≤ maxLen) (b2 : x.text.size ≤ maxLen) (w : World) :
    Calls Tryd.prog 55 #[.agg #[.int .i64 x.kind, .string x.name, .string x.dest, .int .i64 x.a, .int .i64 x.b, .string x.text]] w fun e w' => e = .returned (.bool (callOkB x)) ∧ Below w.heap.size w w' := by
  unfold maxLen at b0 b1 b2
  cases h1 : inB x.kind 1 22
  · have HS := Lib.hid (callOk_1 h1)
    go_enter Tryd.func55, Tryd.ntmps55
    go_wp2_with (first | (go_at_call 78; refine (l01In_c _ _ _ _).mono ?_; rintro e w' ⟨rfl, rfl⟩) | go_in)
    go_ret
    exact ⟨by rw [HS.out]; rfl, (by repeat (first | exact Below.refl _ _ | assumption | refine Below.alloc ?_ (by simp <;> omega) _ | refine Below.setCell ?_ (by simp <;> omega) _ | refine Below.drew ?_))⟩
  · by_cases h2 : (x.name.size : Int) ≤ 20
    · by_cases h3 : (x.dest.size : Int) ≤ 20
      · by_cases h4 : (x.text.size : Int) ≤ 64
        · have HS := Lib.hid (callOk_yes h1 h2 h3 h4)
          go_enter Tryd.func55, Tryd.ntmps55
          go_wp2_with (first | (go_at_call 78; refine (l01In_c _ _ _ _).mono ?_; rintro e w' ⟨rfl, rfl⟩) | go_in)
          go_ret
          exact ⟨by rw [HS.out]; rfl, (by repeat (first | exact Below.refl _ _ | assumption | refine Below.alloc ?_ (by simp <;> omega) _ | refine Below.setCell ?_ (by simp <;> omega) _ | refine Below.drew ?_))⟩
        · have HS := Lib.hid (callOk_4 (x := x) (by omega))
          have d1 : decide ((x.text.size : Int) ≤ 64) = false := by simp; omega
          go_enter Tryd.func55, Tryd.ntmps55
          go_wp2_with (first | (go_at_call 78; refine (l01In_c _ _ _ _).mono ?_; rintro e w' ⟨rfl, rfl⟩) | go_in)
          go_ret
          exact ⟨by rw [HS.out]; rfl, (by repeat (first | exact Below.refl _ _ | assumption | refine Below.alloc ?_ (by simp <;> omega) _ | refine Below.setCell ?_ (by simp <;> omega) _ | refine Below.drew ?_))⟩
      · have HS := Lib.hid (callOk_3 (x := x) (by omega))
        have d1 : decide ((x.dest.size : Int) ≤ 20) = false := by simp; omega
        go_enter Tryd.func55, Tryd.ntmps55
        go_wp2_with (first | (go_at_call 78; refine (l01In_c _ _ _ _).mono ?_; rintro e w' ⟨rfl, rfl⟩) | go_in)
        go_ret
        exact ⟨by rw [HS.out]; rfl, (by repeat (first | exact Below.refl _ _ | assumption | refine Below.alloc ?_ (by simp <;> omega) _ | refine Below.setCell ?_ (by simp <;> omega) _ | refine Below.drew ?_))⟩
    · have HS := Lib.hid (callOk_2 (x := x) (by omega))
      have d1 : decide ((x.name.size : Int) ≤ 20) = false := by simp; omega
      go_enter Tryd.func55, Tryd.ntmps55
      go_wp2_with (first | (go_at_call 78; refine (l01In_c _ _ _ _).mono ?_; rintro e w' ⟨rfl, rfl⟩) | go_in)
      go_ret
      exact ⟨by rw [HS.out]; rfl, (by repeat (first | exact Below.refl _ _ | assumption | refine Below.alloc ?_ (by simp <;> omega) _ | refine Below.setCell ?_ (by simp <;> omega) _ | refine Below.drew ?_))⟩

set_option maxHeartbeats 1600000 in
theorem implCallOk_c (x : Cal) (b0 : x.name.size ≤ maxLen) (b1 : x.dest.size ≤ maxLen) (b2 : x.text.size ≤ maxLen) (w : World) :
    Calls Tryd.prog 54 #[.agg #[.int .i64 x.kind, .string x.name, .string x.dest, .int .i64 x.a, .int .i64 x.b, .string x.text]] w fun e w' => e = .returned (.bool (callOkB x)) ∧ Below w.heap.size w w' := by
  unfold maxLen at b0 b1 b2
  cases h1 : inB x.kind 1 22
  · have HS := Lib.hid (callOk_1 h1)
    go_enter Tryd.func54, Tryd.ntmps54
    go_wp2_with (first | (go_at_call 59; refine (within_c _ _ _ _).mono ?_; rintro e w' ⟨rfl, rfl⟩) | go_in)
    go_ret
    exact ⟨by rw [HS.out]; rfl, (by repeat (first | exact Below.refl _ _ | assumption | refine Below.alloc ?_ (by simp <;> omega) _ | refine Below.setCell ?_ (by simp <;> omega) _ | refine Below.drew ?_))⟩
  · by_cases h2 : (x.name.size : Int) ≤ 20
    · by_cases h3 : (x.dest.size : Int) ≤ 20
      · by_cases h4 : (x.text.size : Int) ≤ 64
        · have HS := Lib.hid (callOk_yes h1 h2 h3 h4)
          go_enter Tryd.func54, Tryd.ntmps54
          go_wp2_with (first | (go_at_call 59; refine (within_c _ _ _ _).mono ?_; rintro e w' ⟨rfl, rfl⟩) | go_in)
          go_ret
          exact ⟨by rw [HS.out]; rfl, (by repeat (first | exact Below.refl _ _ | assumption | refine Below.alloc ?_ (by simp <;> omega) _ | refine Below.setCell ?_ (by simp <;> omega) _ | refine Below.drew ?_))⟩
        · have HS := Lib.hid (callOk_4 (x := x) (by omega))
          have d1 : decide ((x.text.size : Int) ≤ 64) = false := by simp; omega
          go_enter Tryd.func54, Tryd.ntmps54
          go_wp2_with (first | (go_at_call 59; refine (within_c _ _ _ _).mono ?_; rintro e w' ⟨rfl, rfl⟩) | go_in)
          go_ret
          exact ⟨by rw [HS.out]; rfl, (by repeat (first | exact Below.refl _ _ | assumption | refine Below.alloc ?_ (by simp <;> omega) _ | refine Below.setCell ?_ (by simp <;> omega) _ | refine Below.drew ?_))⟩
      · have HS := Lib.hid (callOk_3 (x := x) (by omega))
        have d1 : decide ((x.dest.size : Int) ≤ 20) = false := by simp; omega
        go_enter Tryd.func54, Tryd.ntmps54
        go_wp2_with (first | (go_at_call 59; refine (within_c _ _ _ _).mono ?_; rintro e w' ⟨rfl, rfl⟩) | go_in)
        go_ret
        exact ⟨by rw [HS.out]; rfl, (by repeat (first | exact Below.refl _ _ | assumption | refine Below.alloc ?_ (by simp <;> omega) _ | refine Below.setCell ?_ (by simp <;> omega) _ | refine Below.drew ?_))⟩
    · have HS := Lib.hid (callOk_2 (x := x) (by omega))
      have d1 : decide ((x.name.size : Int) ≤ 20) = false := by simp; omega
      go_enter Tryd.func54, Tryd.ntmps54
      go_wp2_with (first | (go_at_call 59; refine (within_c _ _ _ _).mono ?_; rintro e w' ⟨rfl, rfl⟩) | go_in)
      go_ret
      exact ⟨by rw [HS.out]; rfl, (by repeat (first | exact Below.refl _ _ | assumption | refine Below.alloc ?_ (by simp <;> omega) _ | refine Below.setCell ?_ (by simp <;> omega) _ | refine Below.drew ?_))⟩

end Go.Proofs.YtedbmmoddemngaaDoor
