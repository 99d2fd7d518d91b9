/- Contract: the program's SameSteps says whether two slices are equal. Conditions: only the bounds that any Go slice meets. -/
import Derived.Test.YtpfkiiiihmijdaaEqLStep
namespace Go.Proofs.Ytpfkiiiihmijdaa
open Go.RowKit
set_option maxHeartbeats 1000000 in
theorem implSameSteps_c (a a2 : Option Addr) (cap cap2 : Nat) (xs ys : List Stp) (w : World) (hlen : xs.length ≤ maxLen) (hr : Reads w a 7 encStp xs) (hr2 : Reads w a2 7 encStp ys) :
    Calls Try.prog 52 #[.slice a xs.length cap, .slice a2 ys.length cap2] w fun e w' => e = .returned (.bool (same xs ys)) ∧ Below w.heap.size w w' := by
  have H := Lib.hid (libEqStep_c a a2 cap cap2 xs ys w hlen hr hr2)
  clear hr hr2 hlen
  generalize same xs ys = r at *
  go_enter Try.func52, Try.ntmps52
  go_wp2_with fail
  refine H.out.mono ?_
  rintro e w1 ⟨rfl, hb⟩
  go_wp2
  go_ret
  exact ⟨rfl, hb⟩
end Go.Proofs.Ytpfkiiiihmijdaa
