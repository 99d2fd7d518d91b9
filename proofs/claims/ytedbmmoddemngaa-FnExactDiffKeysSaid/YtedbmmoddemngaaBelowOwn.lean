/- What is written in an own row leaves all that stands below it. Of no program. -/
import Derived.Test.YtedbmmoddemngaaClone
namespace Go.Proofs.Ytedbmmoddemngaa
open Go.RowKit
theorem below_of_own {w W w' : World} {T K n : Nat} {v : Value} {cells : List Value} (hb : Below w.heap.size w W) (ho : W.ownsRow w.heap.size T K v n cells) (hg : W.grownBy w' v.ownBlock) : Below w.heap.size w w' := below_of_own0 hb ho hg
end Go.Proofs.Ytedbmmoddemngaa
