/- Contract: the program's SameStore says whether two slices are equal. Conditions: only the bounds that any Go slice meets. -/
import Derived.Test.YtedbmmoddemngaaEqLCell
namespace Go.Proofs.Ytedbmmoddemngaa
open Go.RowKit
set_option maxHeartbeats 1000000 in
theorem implSameStore_c (a a2 : Option Addr) (cap cap2 : Nat) (xs ys : List (ByteArray × ByteArray)) (w : World) (hlen : xs.length ≤ maxLen) (hr : Reads w a 2 encC xs) (hr2 : Reads w a2 2 encC ys) :
    Calls Try.prog 17 #[.slice a xs.length cap, .slice a2 ys.length cap2] w fun e w' => e = .returned (.bool (same xs ys)) ∧ Below w.heap.size w w' := by
  have H := Lib.hid (libEqCell_c a a2 cap cap2 xs ys w hlen hr hr2)
  clear hr hr2 hlen
  generalize same xs ys = r at *
  go_enter Try.func17, Try.ntmps17
  go_wp2_with fail
  refine H.out.mono ?_
  rintro e w1 ⟨rfl, hb⟩
  go_wp2
  go_ret
  exact ⟨rfl, hb⟩
end Go.Proofs.Ytedbmmoddemngaa
