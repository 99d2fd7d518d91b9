/- Contracts for the laws' helpers on a Cell: toCell copies it, szCell counts it, eqCell compares two. Conditions: only the bounds that any Go string meets. -/
import Derived.Test.YtjlmoghifkgehaaDoorProg
import Derived.WalkKit
import Derived.WalkSpells
import Derived.WalkLawsBesides
import Derived.Test.YtjlmoghifkgehaaDoorSame
import Derived.Lib.Hide
import Derived.Test.YtjlmoghifkgehaaDoorOwn
open Go.RowKit
namespace Go.Proofs.YtjlmoghifkgehaaDoor
set_option maxHeartbeats 1600000 in
theorem eqCell_c (x y : (ByteArray × ByteArray)) (w : World) :
    Calls Tryd.prog 12 #[.agg #[.string x.1, .string x.2], .agg #[.string y.1, .string y.2]] w fun e w' => e = .returned (.bool (same x y)) ∧ Below w.heap.size w w' := by
  obtain ⟨a0, a1⟩ := x
  obtain ⟨c0, c1⟩ := y
  dsimp only
  by_cases h0 : a0 = c0
  rotate_left
  · have hs : same (α := (ByteArray × ByteArray)) (a0, a1) (c0, c1) = false := same_ne (by simp [h0])
    have HS := Lib.hid hs
    have q1 := toList_ne h0
    have q2 := beq_toList_false h0
    clear hs h0
    go_enter Tryd.func12, Tryd.ntmps12
    go_wp2
    go_ret
    exact ⟨by rw [HS.out]; rfl, (by repeat (first | exact Below.refl _ _ | assumption | refine Below.alloc ?_ (by simp <;> omega) _ | refine Below.setCell ?_ (by simp <;> omega) _ | refine Below.drew ?_))⟩
  subst h0
  by_cases h1 : a1 = c1
  rotate_left
  · have hs : same (α := (ByteArray × ByteArray)) (a0, a1) (a0, c1) = false := same_ne (by simp [h1])
    have HS := Lib.hid hs
    have q1 := toList_ne h1
    have q2 := beq_toList_false h1
    clear hs h1
    go_enter Tryd.func12, Tryd.ntmps12
    go_wp2
    go_ret
    exact ⟨by rw [HS.out]; rfl, (by repeat (first | exact Below.refl _ _ | assumption | refine Below.alloc ?_ (by simp <;> omega) _ | refine Below.setCell ?_ (by simp <;> omega) _ | refine Below.drew ?_))⟩
  subst h1
  have hs := same_self (α := (ByteArray × ByteArray)) (a0, a1)
  have HS := Lib.hid hs
  clear hs
  go_enter Tryd.func12, Tryd.ntmps12
  go_wp2
  go_ret
  exact ⟨by rw [HS.out]; rfl, (by repeat (first | exact Below.refl _ _ | assumption | refine Below.alloc ?_ (by simp <;> omega) _ | refine Below.setCell ?_ (by simp <;> omega) _ | refine Below.drew ?_))⟩
end Go.Proofs.YtjlmoghifkgehaaDoor
