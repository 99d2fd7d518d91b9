/- Only imports: no contract of the library's is laid here. No conditions. -/
import Derived.Test.YtedbmmoddemngaaProg
import Derived.Shelf.Hex.Encode
import Derived.Shelf.Hex.More
namespace Go.Proofs
end Go.Proofs
