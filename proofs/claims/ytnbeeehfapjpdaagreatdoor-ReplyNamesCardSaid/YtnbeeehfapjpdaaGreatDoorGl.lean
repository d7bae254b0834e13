/- What every walk asks of the library's own variables: that they are there; and that it stays so. -/
import Derived.WalkKit
namespace Go.Proofs.YtnbeeehfapjpdaaGreatDoor
open Go.RowKit

end Go.Proofs.YtnbeeehfapjpdaaGreatDoor
