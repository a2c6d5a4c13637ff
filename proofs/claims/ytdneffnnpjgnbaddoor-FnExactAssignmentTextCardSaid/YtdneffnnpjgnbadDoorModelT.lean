/- What the functions on eclipse models return. -/
import Derived.Test.YtdneffnnpjgnbadDoorBase
namespace Go.Proofs.YtdneffnnpjgnbadDoor
open Go.RowKit

end Go.Proofs.YtdneffnnpjgnbadDoor
