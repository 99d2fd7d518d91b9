/- Contracts: LooksOnly of both sides. No conditions. -/
import Derived.Test.YtedbmmoddemngaaDoorProg
import Derived.WalkKit
import Derived.WalkSpells
import Derived.WalkLawsBesides
import Derived.Test.YtedbmmoddemngaaDoorRead
import Derived.Lib.Hide
namespace Go.Proofs.YtedbmmoddemngaaDoor
open Go.RowKit
def looksB (k : Int) : Bool := k == 5 || k == 6 || k == 15 || k == 21
theorem specLooks_c (k : Int) (w : World) : Calls Tryd.prog 53 #[.int .i64 k] w fun e w' => e = .returned (.bool (looksB k)) ∧ w = w' := by
  by_cases h1 : k = 5
  · subst h1
    go_enter Tryd.func53, Tryd.ntmps53
    go_wp2
    go_ret
    exact ⟨rfl, rfl⟩
  have e1 : (k == 5) = false := by rw [beq_eq_false_iff_ne]; exact h1
  by_cases h2 : k = 6
  · subst h2
    go_enter Tryd.func53, Tryd.ntmps53
    go_wp2
    go_ret
    exact ⟨rfl, rfl⟩
  have e2 : (k == 6) = false := by rw [beq_eq_false_iff_ne]; exact h2
  by_cases h3 : k = 15
  · subst h3
    go_enter Tryd.func53, Tryd.ntmps53
    go_wp2
    go_ret
    exact ⟨rfl, rfl⟩
  have e3 : (k == 15) = false := by rw [beq_eq_false_iff_ne]; exact h3
  have HL := Lib.hid (show looksB k = (k == 21) from by unfold looksB; rw [e1, e2, e3]; rfl)
  go_enter Tryd.func53, Tryd.ntmps53
  go_wp2
  go_ret
  exact ⟨by rw [HL.out]; rfl, rfl⟩

theorem implLooks_c (k : Int) (w : World) : Calls Tryd.prog 52 #[.int .i64 k] w fun e w' => e = .returned (.bool (looksB k)) ∧ w = w' := by
  by_cases h1 : k = 5
  · subst h1
    go_enter Tryd.func52, Tryd.ntmps52
    go_wp2
    go_ret
    exact ⟨rfl, rfl⟩
  have e1 : (k == 5) = false := by rw [beq_eq_false_iff_ne]; exact h1
  by_cases h2 : k = 6
  · subst h2
    go_enter Tryd.func52, Tryd.ntmps52
    go_wp2
    go_ret
    exact ⟨rfl, rfl⟩
  have e2 : (k == 6) = false := by rw [beq_eq_false_iff_ne]; exact h2
  by_cases h3 : k = 15
  · subst h3
    go_enter Tryd.func52, Tryd.ntmps52
    go_wp2
    go_ret
    exact ⟨rfl, rfl⟩
  have e3 : (k == 15) = false := by rw [beq_eq_false_iff_ne]; exact h3
  have HL := Lib.hid (show looksB k = (k == 21) from by unfold looksB; rw [e1, e2, e3]; rfl)
  go_enter Tryd.func52, Tryd.ntmps52
  go_wp2
  go_ret
  exact ⟨by rw [HL.out]; rfl, rfl⟩

end Go.Proofs.YtedbmmoddemngaaDoor
