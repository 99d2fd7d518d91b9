/- Contract: the laws' big says whether the drawn bytes are too many. No conditions. -/
import Derived.Test.YtedbmmoddemngaaDoorBytes
namespace Go.Proofs.YtedbmmoddemngaaDoor
open Go.RowKit
theorem big_no (a : Option Addr) (len cap : Nat) (w : World) (h : len ≤ 1048576) : Calls Tryd.prog 25 #[.slice a len cap] w fun e w' => e = .returned (.bool false) ∧ w = w' := by
  have p : ¬ (1048576 : Int) < (len : Int) := by omega
  go_enter Tryd.func25, Tryd.ntmps25
  go_wp2
  go_ret
  exact ⟨by first | (simp; done) | (simp; omega), rfl⟩
theorem big_yes (a : Option Addr) (len cap : Nat) (w : World) (h : 1048576 < len) : Calls Tryd.prog 25 #[.slice a len cap] w fun e w' => e = .returned (.bool true) ∧ w = w' := by
  have p : (1048576 : Int) < (len : Int) := by omega
  go_enter Tryd.func25, Tryd.ntmps25
  go_wp2
  go_ret
  exact ⟨by first | (simp; done) | (simp; omega), rfl⟩
theorem IsRow.below {k : IntKind} {w w' : World} {a : Option Addr} {len cap : Nat} {z : List Int} (h : IsRow k w a len cap z) (hb : Below w.heap.size w w') : IsRow k w' a len cap z :=
  ⟨h.1, h.2.1, h.2.2.1, h.2.2.2.1.below hb, h.2.2.2.2⟩
end Go.Proofs.YtedbmmoddemngaaDoor
