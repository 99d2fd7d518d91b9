/- Contracts for the laws' helpers on an Answer: toAnswer copies it, szAnswer counts it, eqAnswer compares two. Conditions: only the bounds that any Go string meets. -/
import Derived.Test.YtedbmmoddemngaaDoorProg
import Derived.WalkKit
import Derived.WalkSpells
import Derived.WalkLawsBesides
import Derived.Test.YtedbmmoddemngaaDoorSame
import Derived.Lib.Hide
namespace Go.Proofs.YtedbmmoddemngaaDoor
open Go.RowKit

set_option maxHeartbeats 800000 in
theorem toAnswer_c (x : Ans) (w : World) : Calls Tryd.prog 23 #[.agg #[.int .i64 x.code, .int .i64 x.n, .string x.text]] w fun e w' => e = .returned (.agg #[.int .i64 x.code, .int .i64 x.n, .string x.text]) ∧ Below w.heap.size w w' := by go_enter Tryd.func23, Tryd.ntmps23; go_wp2; exact bodyPost_ret (v := .agg #[.int .i64 x.code, .int .i64 x.n, .string x.text]) (by simp [results, Tryd.results23, go_sem]) rfl ⟨rfl, (by repeat (first | exact Below.refl _ _ | assumption | refine Below.alloc ?_ (by simp <;> omega) _ | refine Below.setCell ?_ (by simp <;> omega) _ | refine Below.drew ?_))⟩

set_option maxHeartbeats 800000 in
theorem szAnswer_c (x : Ans) (left : Int) (l0 : 0 ≤ left) (l1 : left ≤ 1048576) (b0 : x.text.size ≤ maxLen) (w : World) :
    Calls Tryd.prog 21 #[.agg #[.int .i64 x.code, .int .i64 x.n, .string x.text], .int .i64 left] w fun e w' => e = .returned (.int .i64 (szSub left (bulkA x))) ∧ Below w.heap.size w w' := by
  unfold maxLen at b0
  by_cases h1 : left < x.text.size
  · have hs : szSub left (bulkA x) = -1 := szSub_no h1
    have HS := Lib.hid hs
    clear hs
    go_enter Tryd.func21, Tryd.ntmps21
    go_wp2
    go_ret
    exact ⟨by rw [HS.out]; rfl, (by repeat (first | exact Below.refl _ _ | assumption | refine Below.alloc ?_ (by simp <;> omega) _ | refine Below.setCell ?_ (by simp <;> omega) _ | refine Below.drew ?_))⟩
  · have hs : szSub left (bulkA x) = left - x.text.size := szSub_yes (show (x.text.size : Int) ≤ left by omega)
    have HS := Lib.hid hs
    clear hs
    go_enter Tryd.func21, Tryd.ntmps21
    go_wp2
    go_ret
    exact ⟨by rw [HS.out]; rfl, (by repeat (first | exact Below.refl _ _ | assumption | refine Below.alloc ?_ (by simp <;> omega) _ | refine Below.setCell ?_ (by simp <;> omega) _ | refine Below.drew ?_))⟩

end Go.Proofs.YtedbmmoddemngaaDoor
