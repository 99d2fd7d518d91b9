/- Contracts for the laws' helpers on a Cell: toCell copies it, szCell counts it, eqCell compares two. Conditions: only the bounds that any Go string meets. -/
import Derived.Test.YtedbmmoddemngaaDoorProg
import Derived.WalkKit
import Derived.WalkSpells
import Derived.WalkLawsBesides
import Derived.Test.YtedbmmoddemngaaDoorSame
import Derived.Lib.Hide
import Derived.Test.YtedbmmoddemngaaDoorOwn
open Go.RowKit
namespace Go.Proofs.YtedbmmoddemngaaDoor
open Go.RowKit

set_option maxHeartbeats 800000 in
theorem toCell_c (x : (ByteArray × ByteArray)) (w : World) : Calls Tryd.prog 66 #[.agg #[.string x.1, .string x.2]] w fun e w' => e = .returned (.agg #[.string x.1, .string x.2]) ∧ Below w.heap.size w w' := by go_enter Tryd.func66, Tryd.ntmps66; go_wp2; exact bodyPost_ret (v := .agg #[.string x.1, .string x.2]) (by simp [results, Tryd.results66, go_sem]) rfl ⟨rfl, (by repeat (first | exact Below.refl _ _ | assumption | refine Below.alloc ?_ (by simp <;> omega) _ | refine Below.setCell ?_ (by simp <;> omega) _ | refine Below.drew ?_))⟩

set_option maxHeartbeats 800000 in
theorem szCell_c (x : (ByteArray × ByteArray)) (left : Int) (l0 : 0 ≤ left) (l1 : left ≤ 1048576) (b0 : x.1.size ≤ maxLen) (b1 : x.2.size ≤ maxLen) (w : World) :
    Calls Tryd.prog 65 #[.agg #[.string x.1, .string x.2], .int .i64 left] w fun e w' => e = .returned (.int .i64 (szSub left (bulkC x))) ∧ Below w.heap.size w w' := by
  unfold maxLen at b0 b1
  by_cases h1 : left < x.1.size
  · have hs : szSub left (bulkC x) = -1 := szSub_no (by unfold bulkC; omega)
    have HS := Lib.hid hs
    clear hs
    go_enter Tryd.func65, Tryd.ntmps65
    go_wp2
    go_ret
    exact ⟨by rw [HS.out]; rfl, (by repeat (first | exact Below.refl _ _ | assumption | refine Below.alloc ?_ (by simp <;> omega) _ | refine Below.setCell ?_ (by simp <;> omega) _ | refine Below.drew ?_))⟩
  · skip
    by_cases h2 : left - x.1.size < x.2.size
    · have hs : szSub left (bulkC x) = -1 := szSub_no (by unfold bulkC; omega)
      have HS := Lib.hid hs
      clear hs
      go_enter Tryd.func65, Tryd.ntmps65
      go_wp2
      go_ret
      exact ⟨by rw [HS.out]; rfl, (by repeat (first | exact Below.refl _ _ | assumption | refine Below.alloc ?_ (by simp <;> omega) _ | refine Below.setCell ?_ (by simp <;> omega) _ | refine Below.drew ?_))⟩
    · have hs : szSub left (bulkC x) = left - x.1.size - x.2.size := by rw [szSub_yes (by unfold bulkC; omega)]; unfold bulkC; omega
      have HS := Lib.hid hs
      clear hs
      go_enter Tryd.func65, Tryd.ntmps65
      go_wp2
      go_ret
      exact ⟨by rw [HS.out]; rfl, (by repeat (first | exact Below.refl _ _ | assumption | refine Below.alloc ?_ (by simp <;> omega) _ | refine Below.setCell ?_ (by simp <;> omega) _ | refine Below.drew ?_))⟩

set_option maxHeartbeats 1600000 in
theorem eqCell_c (x y : (ByteArray × ByteArray)) (w : World) :
    Calls Tryd.prog 68 #[.agg #[.string x.1, .string x.2], .agg #[.string y.1, .string y.2]] w fun e w' => e = .returned (.bool (same x y)) ∧ Below w.heap.size w w' := by
  obtain ⟨a0, a1⟩ := x
  obtain ⟨c0, c1⟩ := y
  dsimp only
  by_cases h0 : a0 = c0
  rotate_left
  · have hs : same (α := (ByteArray × ByteArray)) (a0, a1) (c0, c1) = false := same_ne (by simp [h0])
    have HS := Lib.hid hs
    have q1 := toList_ne h0
    have q2 := beq_toList_false h0
    clear hs h0
    go_enter Tryd.func68, Tryd.ntmps68
    go_wp2
    go_ret
    exact ⟨by rw [HS.out]; rfl, (by repeat (first | exact Below.refl _ _ | assumption | refine Below.alloc ?_ (by simp <;> omega) _ | refine Below.setCell ?_ (by simp <;> omega) _ | refine Below.drew ?_))⟩
  subst h0
  by_cases h1 : a1 = c1
  rotate_left
  · have hs : same (α := (ByteArray × ByteArray)) (a0, a1) (a0, c1) = false := same_ne (by simp [h1])
    have HS := Lib.hid hs
    have q1 := toList_ne h1
    have q2 := beq_toList_false h1
    clear hs h1
    go_enter Tryd.func68, Tryd.ntmps68
    go_wp2
    go_ret
    exact ⟨by rw [HS.out]; rfl, (by repeat (first | exact Below.refl _ _ | assumption | refine Below.alloc ?_ (by simp <;> omega) _ | refine Below.setCell ?_ (by simp <;> omega) _ | refine Below.drew ?_))⟩
  subst h1
  have hs := same_self (α := (ByteArray × ByteArray)) (a0, a1)
  have HS := Lib.hid hs
  clear hs
  go_enter Tryd.func68, Tryd.ntmps68
  go_wp2
  go_ret
  exact ⟨by rw [HS.out]; rfl, (by repeat (first | exact Below.refl _ _ | assumption | refine Below.alloc ?_ (by simp <;> omega) _ | refine Below.setCell ?_ (by simp <;> omega) _ | refine Below.drew ?_))⟩
end Go.Proofs.YtedbmmoddemngaaDoor
