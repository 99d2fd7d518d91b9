/- Contract: the library's slices.Insert of one element at texts: onto an own row, in place or in a new row. Conditions: at most 2^21 elements, the element lies in a block of its own. -/
import Derived.Test.YtedbmmoddemngaaRun
import Derived.Test.YtedbmmoddemngaaFind
import Derived.Test.YtedbmmoddemngaaSliceString
import Derived.Deep.RegionLaw
namespace Go.Proofs.Ytedbmmoddemngaa
open Go.RowKit
attribute [local go_sem ↓] Go.wp_at_zero Go.wp_at_succ
end Go.Proofs.Ytedbmmoddemngaa
