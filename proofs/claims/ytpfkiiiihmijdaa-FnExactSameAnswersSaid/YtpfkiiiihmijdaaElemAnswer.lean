/- Contracts for the laws' helpers on an Answer: toAnswer copies it, szAnswer counts it, eqAnswer compares two. Conditions: only the bounds that any Go string meets. -/
import Derived.Test.YtpfkiiiihmijdaaProg
import Derived.WalkKit
import Derived.WalkSpells
import Derived.WalkLawsBesides
import Derived.Test.YtpfkiiiihmijdaaSame
import Derived.Lib.Hide
namespace Go.Proofs.Ytpfkiiiihmijdaa
open Go.RowKit

set_option maxHeartbeats 800000 in
theorem toAnswer_c (x : Ans) (w : World) : Calls Try.prog 68 #[.agg #[.int .i64 x.code, .int .i64 x.n, .string x.text]] w fun e w' => e = .returned (.agg #[.int .i64 x.code, .int .i64 x.n, .string x.text]) ∧ Below w.heap.size w w' := by go_enter Try.func68, Try.ntmps68; go_wp2; exact bodyPost_ret (v := .agg #[.int .i64 x.code, .int .i64 x.n, .string x.text]) (by simp [results, Try.results68, go_sem]) rfl ⟨rfl, (by repeat (first | exact Below.refl _ _ | assumption | refine Below.alloc ?_ (by simp <;> omega) _ | refine Below.setCell ?_ (by simp <;> omega) _ | refine Below.drew ?_))⟩

set_option maxHeartbeats 800000 in
theorem szAnswer_c (x : Ans) (left : Int) (l0 : 0 ≤ left) (l1 : left ≤ 1048576) (b0 : x.text.size ≤ maxLen) (w : World) :
    Calls Try.prog 67 #[.agg #[.int .i64 x.code, .int .i64 x.n, .string x.text], .int .i64 left] w fun e w' => e = .returned (.int .i64 (szSub left (bulkA x))) ∧ Below w.heap.size w w' := by
  unfold maxLen at b0
  by_cases h1 : left < x.text.size
  · have hs : szSub left (bulkA x) = -1 := szSub_no h1
    have HS := Lib.hid hs
    clear hs
    go_enter Try.func67, Try.ntmps67
    go_wp2
    go_ret
    exact ⟨by rw [HS.out]; rfl, (by repeat (first | exact Below.refl _ _ | assumption | refine Below.alloc ?_ (by simp <;> omega) _ | refine Below.setCell ?_ (by simp <;> omega) _ | refine Below.drew ?_))⟩
  · have hs : szSub left (bulkA x) = left - x.text.size := szSub_yes (show (x.text.size : Int) ≤ left by omega)
    have HS := Lib.hid hs
    clear hs
    go_enter Try.func67, Try.ntmps67
    go_wp2
    go_ret
    exact ⟨by rw [HS.out]; rfl, (by repeat (first | exact Below.refl _ _ | assumption | refine Below.alloc ?_ (by simp <;> omega) _ | refine Below.setCell ?_ (by simp <;> omega) _ | refine Below.drew ?_))⟩

set_option maxHeartbeats 1600000 in
theorem eqAnswer_c (x y : Ans) (w : World) :
    Calls Try.prog 70 #[.agg #[.int .i64 x.code, .int .i64 x.n, .string x.text], .agg #[.int .i64 y.code, .int .i64 y.n, .string y.text]] w fun e w' => e = .returned (.bool (same x y)) ∧ Below w.heap.size w w' := by
  obtain ⟨a0, a1, a2⟩ := x
  obtain ⟨c0, c1, c2⟩ := y
  dsimp only
  by_cases h0 : a0 = c0
  rotate_left
  · have hs : same (α := Ans) ⟨a0, a1, a2⟩ ⟨c0, c1, c2⟩ = false := same_ne (by simp [h0])
    have HS := Lib.hid hs
    have q1 : (a0 != c0) = true := by simp [h0]
    clear hs h0
    go_enter Try.func70, Try.ntmps70
    go_wp2
    go_ret
    exact ⟨by rw [HS.out]; rfl, (by repeat (first | exact Below.refl _ _ | assumption | refine Below.alloc ?_ (by simp <;> omega) _ | refine Below.setCell ?_ (by simp <;> omega) _ | refine Below.drew ?_))⟩
  subst h0
  by_cases h1 : a1 = c1
  rotate_left
  · have hs : same (α := Ans) ⟨a0, a1, a2⟩ ⟨a0, c1, c2⟩ = false := same_ne (by simp [h1])
    have HS := Lib.hid hs
    have q1 : (a1 != c1) = true := by simp [h1]
    clear hs h1
    go_enter Try.func70, Try.ntmps70
    go_wp2
    go_ret
    exact ⟨by rw [HS.out]; rfl, (by repeat (first | exact Below.refl _ _ | assumption | refine Below.alloc ?_ (by simp <;> omega) _ | refine Below.setCell ?_ (by simp <;> omega) _ | refine Below.drew ?_))⟩
  subst h1
  by_cases h2 : a2 = c2
  rotate_left
  · have hs : same (α := Ans) ⟨a0, a1, a2⟩ ⟨a0, a1, c2⟩ = false := same_ne (by simp [h2])
    have HS := Lib.hid hs
    have q1 := toList_ne h2
    have q2 := beq_toList_false h2
    clear hs h2
    go_enter Try.func70, Try.ntmps70
    go_wp2
    go_ret
    exact ⟨by rw [HS.out]; rfl, (by repeat (first | exact Below.refl _ _ | assumption | refine Below.alloc ?_ (by simp <;> omega) _ | refine Below.setCell ?_ (by simp <;> omega) _ | refine Below.drew ?_))⟩
  subst h2
  have hs := same_self (α := Ans) ⟨a0, a1, a2⟩
  have HS := Lib.hid hs
  clear hs
  go_enter Try.func70, Try.ntmps70
  go_wp2
  go_ret
  exact ⟨by rw [HS.out]; rfl, (by repeat (first | exact Below.refl _ _ | assumption | refine Below.alloc ?_ (by simp <;> omega) _ | refine Below.setCell ?_ (by simp <;> omega) _ | refine Below.drew ?_))⟩
end Go.Proofs.Ytpfkiiiihmijdaa
