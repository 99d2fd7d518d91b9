/- Contracts: SameCall of both sides says whether two calls are equal. No conditions. -/
import Derived.Test.YtedbmmoddemngaaDoorElemCall
namespace Go.Proofs.YtedbmmoddemngaaDoor
open Go.RowKit
set_option maxHeartbeats 1600000 in
theorem implSameCall_c (x y : Cal) (w : World) :
    Calls Tryd.prog 50 #[.agg #[.int .i64 x.kind, .string x.name, .string x.dest, .int .i64 x.a, .int .i64 x.b, .string x.text], .agg #[.int .i64 y.kind, .string y.name, .string y.dest, .int .i64 y.a, .int .i64 y.b, .string y.text]] w fun e w' => e = .returned (.bool (same x y)) ∧ Below w.heap.size w w' := by
  obtain ⟨a0, a1, a2, a3, a4, a5⟩ := x
  obtain ⟨c0, c1, c2, c3, c4, c5⟩ := y
  dsimp only
  by_cases h0 : a0 = c0
  rotate_left
  · have HS := Lib.hid (show same (Cal.mk a0 a1 a2 a3 a4 a5) (Cal.mk c0 c1 c2 c3 c4 c5) = false from same_ne (by simp [h0]))
    have q1 : (a0 == c0) = false := by simp [h0]
    go_enter Tryd.func50, Tryd.ntmps50
    go_wp2
    go_ret
    exact ⟨by rw [HS.out]; rfl, (by repeat (first | exact Below.refl _ _ | assumption | refine Below.alloc ?_ (by simp <;> omega) _ | refine Below.setCell ?_ (by simp <;> omega) _ | refine Below.drew ?_))⟩
  subst h0
  by_cases h1 : a1 = c1
  rotate_left
  · have HS := Lib.hid (show same (Cal.mk a0 a1 a2 a3 a4 a5) (Cal.mk a0 c1 c2 c3 c4 c5) = false from same_ne (by simp [h1]))
    have q1 := toList_ne h1
    have q2 := beq_toList_false h1
    clear h1
    go_enter Tryd.func50, Tryd.ntmps50
    go_wp2
    go_ret
    exact ⟨by rw [HS.out]; rfl, (by repeat (first | exact Below.refl _ _ | assumption | refine Below.alloc ?_ (by simp <;> omega) _ | refine Below.setCell ?_ (by simp <;> omega) _ | refine Below.drew ?_))⟩
  subst h1
  by_cases h2 : a2 = c2
  rotate_left
  · have HS := Lib.hid (show same (Cal.mk a0 a1 a2 a3 a4 a5) (Cal.mk a0 a1 c2 c3 c4 c5) = false from same_ne (by simp [h2]))
    have q1 := toList_ne h2
    have q2 := beq_toList_false h2
    clear h2
    go_enter Tryd.func50, Tryd.ntmps50
    go_wp2
    go_ret
    exact ⟨by rw [HS.out]; rfl, (by repeat (first | exact Below.refl _ _ | assumption | refine Below.alloc ?_ (by simp <;> omega) _ | refine Below.setCell ?_ (by simp <;> omega) _ | refine Below.drew ?_))⟩
  subst h2
  by_cases h3 : a3 = c3
  rotate_left
  · have HS := Lib.hid (show same (Cal.mk a0 a1 a2 a3 a4 a5) (Cal.mk a0 a1 a2 c3 c4 c5) = false from same_ne (by simp [h3]))
    have q1 : (a3 == c3) = false := by simp [h3]
    go_enter Tryd.func50, Tryd.ntmps50
    go_wp2
    go_ret
    exact ⟨by rw [HS.out]; rfl, (by repeat (first | exact Below.refl _ _ | assumption | refine Below.alloc ?_ (by simp <;> omega) _ | refine Below.setCell ?_ (by simp <;> omega) _ | refine Below.drew ?_))⟩
  subst h3
  by_cases h4 : a4 = c4
  rotate_left
  · have HS := Lib.hid (show same (Cal.mk a0 a1 a2 a3 a4 a5) (Cal.mk a0 a1 a2 a3 c4 c5) = false from same_ne (by simp [h4]))
    have q1 : (a4 == c4) = false := by simp [h4]
    go_enter Tryd.func50, Tryd.ntmps50
    go_wp2
    go_ret
    exact ⟨by rw [HS.out]; rfl, (by repeat (first | exact Below.refl _ _ | assumption | refine Below.alloc ?_ (by simp <;> omega) _ | refine Below.setCell ?_ (by simp <;> omega) _ | refine Below.drew ?_))⟩
  subst h4
  by_cases h5 : a5 = c5
  rotate_left
  · have HS := Lib.hid (show same (Cal.mk a0 a1 a2 a3 a4 a5) (Cal.mk a0 a1 a2 a3 a4 c5) = false from same_ne (by simp [h5]))
    have q1 := toList_ne h5
    have q2 := beq_toList_false h5
    clear h5
    go_enter Tryd.func50, Tryd.ntmps50
    go_wp2
    go_ret
    exact ⟨by rw [HS.out]; rfl, (by repeat (first | exact Below.refl _ _ | assumption | refine Below.alloc ?_ (by simp <;> omega) _ | refine Below.setCell ?_ (by simp <;> omega) _ | refine Below.drew ?_))⟩
  subst h5
  have HS := Lib.hid (same_self (Cal.mk a0 a1 a2 a3 a4 a5))
  go_enter Tryd.func50, Tryd.ntmps50
  go_wp2
  go_ret
  exact ⟨by rw [HS.out]; rfl, (by repeat (first | exact Below.refl _ _ | assumption | refine Below.alloc ?_ (by simp <;> omega) _ | refine Below.setCell ?_ (by simp <;> omega) _ | refine Below.drew ?_))⟩

end Go.Proofs.YtedbmmoddemngaaDoor
