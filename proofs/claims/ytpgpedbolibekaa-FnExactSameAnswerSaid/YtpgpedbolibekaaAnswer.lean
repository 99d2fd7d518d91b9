/- Contracts for the answer helpers of the laws: toAnswer copies, szAnswer counts, SameAnswer compares. Conditions: only the bounds that any Go string meets. -/
import Derived.Test.YtpgpedbolibekaaProg
import Derived.WalkKit
import Derived.WalkSpells
import Derived.WalkLawsBesides
namespace Go.Proofs.Ytpgpedbolibekaa
open Go.RowKit

set_option maxHeartbeats 400000 in
theorem toAnswer_c (c n : Int) (t : ByteArray) (w : World) :
    Calls Try.prog 14 #[.agg #[.int .i64 c, .int .i64 n, .string t]] w fun e w' =>
      e = .returned (.agg #[.int .i64 c, .int .i64 n, .string t]) ∧ Below w.heap.size w w' := by
  go_enter Try.func14, Try.ntmps14
  go_wp2
  exact bodyPost_ret (v := .agg #[.int .i64 c, .int .i64 n, .string t]) (by simp [results, Try.results14, go_sem]) rfl ⟨rfl, (by repeat (first | exact Below.refl _ _ | assumption | refine Below.alloc ?_ (by simp <;> omega) _ | refine Below.setCell ?_ (by simp <;> omega) _ | refine Below.drew ?_))⟩

/-- What is left of a budget behind a text of n bytes; -1 if it is used up. -/
def szSub (left : Int) (n : Nat) : Int := if left < n then -1 else left - n

set_option maxHeartbeats 400000 in
theorem szAnswer_c (c n : Int) (t : ByteArray) (left : Int) (h0 : 0 ≤ left) (h1 : left ≤ 1048576) (ht : t.size ≤ 9223372036854775807) (w : World) :
    Calls Try.prog 12 #[.agg #[.int .i64 c, .int .i64 n, .string t], .int .i64 left] w fun e w' =>
      e = .returned (.int .i64 (szSub left t.size)) ∧ Below w.heap.size w w' := by
  by_cases h : left < t.size
  · go_enter Try.func12, Try.ntmps12
    go_wp2
    go_ret
    exact ⟨by unfold szSub; rw [if_pos (by omega)]; rfl, (by repeat (first | exact Below.refl _ _ | assumption | refine Below.alloc ?_ (by simp <;> omega) _ | refine Below.setCell ?_ (by simp <;> omega) _ | refine Below.drew ?_))⟩
  · go_enter Try.func12, Try.ntmps12
    go_wp2
    go_ret
    exact ⟨by unfold szSub; rw [if_neg (by omega)]; rfl, (by repeat (first | exact Below.refl _ _ | assumption | refine Below.alloc ?_ (by simp <;> omega) _ | refine Below.setCell ?_ (by simp <;> omega) _ | refine Below.drew ?_))⟩

set_option maxHeartbeats 400000 in
theorem specSameAnswer_c (c n : Int) (t : ByteArray) (c' n' : Int) (t' : ByteArray) (w : World) :
    Calls Try.prog 13 #[.agg #[.int .i64 c, .int .i64 n, .string t], .agg #[.int .i64 c', .int .i64 n', .string t']] w fun e w' =>
      e = .returned (.bool (c == c' && n == n' && t.toList == t'.toList)) ∧ Below w.heap.size w w' := by
  go_enter Try.func13, Try.ntmps13
  go_wp2
  all_goals
    go_ret
    exact ⟨by simp [*], (by repeat (first | exact Below.refl _ _ | assumption | refine Below.alloc ?_ (by simp <;> omega) _ | refine Below.setCell ?_ (by simp <;> omega) _ | refine Below.drew ?_))⟩

set_option maxHeartbeats 400000 in
theorem implSameAnswer_c (c n : Int) (t : ByteArray) (c' n' : Int) (t' : ByteArray) (w : World) :
    Calls Try.prog 15 #[.agg #[.int .i64 c, .int .i64 n, .string t], .agg #[.int .i64 c', .int .i64 n', .string t']] w fun e w' =>
      e = .returned (.bool (c == c' && n == n' && t.toList == t'.toList)) ∧ Below w.heap.size w w' := by
  go_enter Try.func15, Try.ntmps15
  go_wp2
  all_goals
    go_ret
    exact ⟨by simp [*], (by repeat (first | exact Below.refl _ _ | assumption | refine Below.alloc ?_ (by simp <;> omega) _ | refine Below.setCell ?_ (by simp <;> omega) _ | refine Below.drew ?_))⟩
end Go.Proofs.Ytpgpedbolibekaa
