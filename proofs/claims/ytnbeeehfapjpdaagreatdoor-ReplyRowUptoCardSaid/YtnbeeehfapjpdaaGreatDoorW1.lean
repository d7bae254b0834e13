/- Walks of package words' smallest functions: which letters, which modes, the two predicates on runes. -/
import Derived.Test.YtnbeeehfapjpdaaGreatDoorProg
import Derived.Test.YtnbeeehfapjpdaaGreatDoorSp
import Derived.WalkKit
import Derived.WalkLawsBesides
import Derived.WalkSpells
namespace Go.Proofs.YtnbeeehfapjpdaaGreatDoor
open Go.RowKit

/-- a Go string of these bytes -/
abbrev str (l : Sp.Bs) : Value := .string ⟨l.toArray⟩


end Go.Proofs.YtnbeeehfapjpdaaGreatDoor
