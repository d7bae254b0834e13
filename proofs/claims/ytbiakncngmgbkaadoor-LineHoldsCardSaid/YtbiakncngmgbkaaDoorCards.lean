/-
  DERIVED. GIVEN WITH THE SEED: THE CARDS: each row of YtbiakncngmgbkaaDoorRows.lean that lists a variable, with what it lists TIED to the program's text (the seventh form; the later family's looks); each row that meets fmt, with fmt's text TOLD by the authors' own Lean function (tested against real Go, not proved from fmt's source: count such statements apart). THE CARD IS WHAT COUNTS. Prove the row's statement (the work); the ties are given (YtbiakncngmgbkaaDoorTie.lean); close each card by the builder's one call (the guide's Derived/Test/ToyasCard.lean, 'card_holds'). Laid BY PROGRAM, IN A SANDBOX (cutbox-door.mjs). By AI agents, Wed Nov 11 2026. No macro, syntax, notation, axiom, sorry.
-/
import Derived.Test.YtbiakncngmgbkaaDoorRows
import GoSem.ClaimSeven
namespace Go.Proofs.YtbiakncngmgbkaaDoor
namespace Rows

/-- THE TIED CARD OF 'granarylaw12.LineNames'. -/
def lineNamesCard : Claim7 := { stood := { row := lineNamesRow, standIns := [], harness := (true, "a1eeed7ad3df872c3c2b737ca24778d71b435fbf67f24c5667af886fa73eb38b"), looks := true }, kinds := [], alts := [], laidByText := true, laidKinds := [.data, .data, .data, .data, .sentinel, .sentinel, .pinned], laidTests := true, laidLooks := .later }
def LineNamesCardSaid : Prop := Claim7.holds Tryd.pinned (.plain (OpenSpec.ofChange lineNamesSpec)) lineNamesCard

/-- THE TIED CARD OF 'granarylaw12.LineHolds'. -/
def lineHoldsCard : Claim7 := { stood := { row := lineHoldsRow, standIns := [], harness := (true, "a1eeed7ad3df872c3c2b737ca24778d71b435fbf67f24c5667af886fa73eb38b"), looks := true }, kinds := [], alts := [], laidByText := true, laidKinds := [.data, .data, .data, .data, .sentinel, .sentinel, .pinned], laidTests := true, laidLooks := .later }
def LineHoldsCardSaid : Prop := Claim7.holds Tryd.pinned (.plain (OpenSpec.ofChange lineHoldsSpec)) lineHoldsCard

/-- THE SECOND FORM's CARD OF 'granarylaw12.LineNames'. -/
def lineNamesUptoCard : Claim7 := { stood := { row := lineNamesUptoRow, standIns := [], harness := (true, "a1eeed7ad3df872c3c2b737ca24778d71b435fbf67f24c5667af886fa73eb38b"), looks := true }, kinds := [], alts := [], laidByText := true, laidKinds := [.data, .data, .data, .data, .sentinel, .sentinel, .pinned], laidTests := true, laidLooks := .later }
def LineNamesUptoCardSaid : Prop := Claim7.holds Tryd.pinned (.plain (OpenSpec.upto lineNamesSpec)) lineNamesUptoCard

/-- THE SECOND FORM's CARD OF 'granarylaw12.LineHolds'. -/
def lineHoldsUptoCard : Claim7 := { stood := { row := lineHoldsUptoRow, standIns := [], harness := (true, "a1eeed7ad3df872c3c2b737ca24778d71b435fbf67f24c5667af886fa73eb38b"), looks := true }, kinds := [], alts := [], laidByText := true, laidKinds := [.data, .data, .data, .data, .sentinel, .sentinel, .pinned], laidTests := true, laidLooks := .later }
def LineHoldsUptoCardSaid : Prop := Claim7.holds Tryd.pinned (.plain (OpenSpec.upto lineHoldsSpec)) lineHoldsUptoCard
end Rows
end Go.Proofs.YtbiakncngmgbkaaDoor
