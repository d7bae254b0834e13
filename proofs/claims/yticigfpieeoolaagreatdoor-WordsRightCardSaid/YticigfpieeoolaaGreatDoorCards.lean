/-
  DERIVED. GIVEN WITH THE SEED: THE CARDS: each row of YticigfpieeoolaaGreatDoorRows.lean that lists a variable, with what it lists TIED to the program's text (the seventh form; the later family's looks); each row that meets fmt, with fmt's text TOLD by the authors' own Lean function (tested against real Go, not proved from fmt's source: count such statements apart). THE CARD IS WHAT COUNTS. Prove the row's statement (the work); the ties are given (YticigfpieeoolaaGreatDoorTie.lean); close each card by the builder's one call (the guide's Derived/Test/ToyasCard.lean, 'card_holds'). Laid BY PROGRAM, IN A SANDBOX (cutbox-door.mjs). By AI agents, Wed Nov 11 2026. No macro, syntax, notation, axiom, sorry.
-/
import Derived.Test.YticigfpieeoolaaGreatDoorRows
import GoSem.ClaimSeven
namespace Go.Proofs.YticigfpieeoolaaGreatDoor
namespace Rows

/-- THE TIED CARD OF 'granarylaw11.WordsLine'. -/
def wordsLineCard : Claim7 := { stood := { row := wordsLineRow, standIns := [], harness := (true, "03628fec8cb14bb6a4b77357f4b03b90f4942c90a86d308d6778f515da70f490"), looks := true }, kinds := [], alts := [], laidByText := true, laidKinds := [.data, .data, .data, .data, .sentinel, .sentinel, .pinned], laidTests := true, laidLooks := .later }
def WordsLineCardSaid : Prop := Claim7.holds Tryz.pinned (.plain (OpenSpec.ofChange wordsLineSpec)) wordsLineCard

/-- THE TIED CARD OF 'granarylaw11.WordsAll'. -/
def wordsAllCard : Claim7 := { stood := { row := wordsAllRow, standIns := [], harness := (true, "03628fec8cb14bb6a4b77357f4b03b90f4942c90a86d308d6778f515da70f490"), looks := true }, kinds := [], alts := [], laidByText := true, laidKinds := [.data, .data, .data, .data, .sentinel, .sentinel, .pinned], laidTests := true, laidLooks := .later }
def WordsAllCardSaid : Prop := Claim7.holds Tryz.pinned (.plain (OpenSpec.ofChange wordsAllSpec)) wordsAllCard

/-- THE TIED CARD OF 'granarylaw11.WordsBytes'. -/
def wordsBytesCard : Claim7 := { stood := { row := wordsBytesRow, standIns := [], harness := (true, "03628fec8cb14bb6a4b77357f4b03b90f4942c90a86d308d6778f515da70f490"), looks := true }, kinds := [], alts := [], laidByText := true, laidKinds := [.data, .data, .data, .data, .sentinel, .sentinel, .pinned], laidTests := true, laidLooks := .later }
def WordsBytesCardSaid : Prop := Claim7.holds Tryz.pinned (.plain (OpenSpec.ofChange wordsBytesSpec)) wordsBytesCard

/-- THE TIED CARD OF 'granarylaw11.WordsFlags'. -/
def wordsFlagsCard : Claim7 := { stood := { row := wordsFlagsRow, standIns := [], harness := (true, "03628fec8cb14bb6a4b77357f4b03b90f4942c90a86d308d6778f515da70f490"), looks := true }, kinds := [], alts := [], laidByText := true, laidKinds := [.data, .data, .data, .data, .sentinel, .sentinel, .pinned], laidTests := true, laidLooks := .later }
def WordsFlagsCardSaid : Prop := Claim7.holds Tryz.pinned (.plain (OpenSpec.ofChange wordsFlagsSpec)) wordsFlagsCard

/-- THE TIED CARD OF 'granarylaw11.WordsNames'. -/
def wordsNamesCard : Claim7 := { stood := { row := wordsNamesRow, standIns := [], harness := (true, "03628fec8cb14bb6a4b77357f4b03b90f4942c90a86d308d6778f515da70f490"), looks := true }, kinds := [], alts := [], laidByText := true, laidKinds := [.data, .data, .data, .data, .sentinel, .sentinel, .pinned], laidTests := true, laidLooks := .later }
def WordsNamesCardSaid : Prop := Claim7.holds Tryz.pinned (.plain (OpenSpec.ofChange wordsNamesSpec)) wordsNamesCard

/-- THE TIED CARD OF 'granarylaw11.WordsBack'. -/
def wordsBackCard : Claim7 := { stood := { row := wordsBackRow, standIns := [], harness := (true, "03628fec8cb14bb6a4b77357f4b03b90f4942c90a86d308d6778f515da70f490"), looks := true }, kinds := [], alts := [], laidByText := true, laidKinds := [.data, .data, .data, .data, .sentinel, .sentinel, .pinned], laidTests := true, laidLooks := .later }
def WordsBackCardSaid : Prop := Claim7.holds Tryz.pinned (.plain (OpenSpec.ofChange wordsBackSpec)) wordsBackCard

/-- THE TIED CARD OF 'granarylaw11.WordsWhole'. -/
def wordsWholeCard : Claim7 := { stood := { row := wordsWholeRow, standIns := [], harness := (true, "03628fec8cb14bb6a4b77357f4b03b90f4942c90a86d308d6778f515da70f490"), looks := true }, kinds := [], alts := [], laidByText := true, laidKinds := [.data, .data, .data, .data, .sentinel, .sentinel, .pinned], laidTests := true, laidLooks := .later }
def WordsWholeCardSaid : Prop := Claim7.holds Tryz.pinned (.plain (OpenSpec.ofChange wordsWholeSpec)) wordsWholeCard

/-- THE TIED CARD OF 'granarylaw11.WordsRight'. -/
def wordsRightCard : Claim7 := { stood := { row := wordsRightRow, standIns := [], harness := (true, "03628fec8cb14bb6a4b77357f4b03b90f4942c90a86d308d6778f515da70f490"), looks := true }, kinds := [], alts := [], laidByText := true, laidKinds := [.data, .data, .data, .data, .sentinel, .sentinel, .pinned], laidTests := true, laidLooks := .later }
def WordsRightCardSaid : Prop := Claim7.holds Tryz.pinned (.plain (OpenSpec.ofChange wordsRightSpec)) wordsRightCard

/-- THE SECOND FORM's CARD OF 'granarylaw11.WordsLine'. -/
def wordsLineUptoCard : Claim7 := { stood := { row := wordsLineUptoRow, standIns := [], harness := (true, "03628fec8cb14bb6a4b77357f4b03b90f4942c90a86d308d6778f515da70f490"), looks := true }, kinds := [], alts := [], laidByText := true, laidKinds := [.data, .data, .data, .data, .sentinel, .sentinel, .pinned], laidTests := true, laidLooks := .later }
def WordsLineUptoCardSaid : Prop := Claim7.holds Tryz.pinned (.plain (OpenSpec.upto wordsLineSpec)) wordsLineUptoCard

/-- THE SECOND FORM's CARD OF 'granarylaw11.WordsAll'. -/
def wordsAllUptoCard : Claim7 := { stood := { row := wordsAllUptoRow, standIns := [], harness := (true, "03628fec8cb14bb6a4b77357f4b03b90f4942c90a86d308d6778f515da70f490"), looks := true }, kinds := [], alts := [], laidByText := true, laidKinds := [.data, .data, .data, .data, .sentinel, .sentinel, .pinned], laidTests := true, laidLooks := .later }
def WordsAllUptoCardSaid : Prop := Claim7.holds Tryz.pinned (.plain (OpenSpec.upto wordsAllSpec)) wordsAllUptoCard

/-- THE SECOND FORM's CARD OF 'granarylaw11.WordsBytes'. -/
def wordsBytesUptoCard : Claim7 := { stood := { row := wordsBytesUptoRow, standIns := [], harness := (true, "03628fec8cb14bb6a4b77357f4b03b90f4942c90a86d308d6778f515da70f490"), looks := true }, kinds := [], alts := [], laidByText := true, laidKinds := [.data, .data, .data, .data, .sentinel, .sentinel, .pinned], laidTests := true, laidLooks := .later }
def WordsBytesUptoCardSaid : Prop := Claim7.holds Tryz.pinned (.plain (OpenSpec.upto wordsBytesSpec)) wordsBytesUptoCard

/-- THE SECOND FORM's CARD OF 'granarylaw11.WordsFlags'. -/
def wordsFlagsUptoCard : Claim7 := { stood := { row := wordsFlagsUptoRow, standIns := [], harness := (true, "03628fec8cb14bb6a4b77357f4b03b90f4942c90a86d308d6778f515da70f490"), looks := true }, kinds := [], alts := [], laidByText := true, laidKinds := [.data, .data, .data, .data, .sentinel, .sentinel, .pinned], laidTests := true, laidLooks := .later }
def WordsFlagsUptoCardSaid : Prop := Claim7.holds Tryz.pinned (.plain (OpenSpec.upto wordsFlagsSpec)) wordsFlagsUptoCard

/-- THE SECOND FORM's CARD OF 'granarylaw11.WordsNames'. -/
def wordsNamesUptoCard : Claim7 := { stood := { row := wordsNamesUptoRow, standIns := [], harness := (true, "03628fec8cb14bb6a4b77357f4b03b90f4942c90a86d308d6778f515da70f490"), looks := true }, kinds := [], alts := [], laidByText := true, laidKinds := [.data, .data, .data, .data, .sentinel, .sentinel, .pinned], laidTests := true, laidLooks := .later }
def WordsNamesUptoCardSaid : Prop := Claim7.holds Tryz.pinned (.plain (OpenSpec.upto wordsNamesSpec)) wordsNamesUptoCard

/-- THE SECOND FORM's CARD OF 'granarylaw11.WordsBack'. -/
def wordsBackUptoCard : Claim7 := { stood := { row := wordsBackUptoRow, standIns := [], harness := (true, "03628fec8cb14bb6a4b77357f4b03b90f4942c90a86d308d6778f515da70f490"), looks := true }, kinds := [], alts := [], laidByText := true, laidKinds := [.data, .data, .data, .data, .sentinel, .sentinel, .pinned], laidTests := true, laidLooks := .later }
def WordsBackUptoCardSaid : Prop := Claim7.holds Tryz.pinned (.plain (OpenSpec.upto wordsBackSpec)) wordsBackUptoCard

/-- THE SECOND FORM's CARD OF 'granarylaw11.WordsWhole'. -/
def wordsWholeUptoCard : Claim7 := { stood := { row := wordsWholeUptoRow, standIns := [], harness := (true, "03628fec8cb14bb6a4b77357f4b03b90f4942c90a86d308d6778f515da70f490"), looks := true }, kinds := [], alts := [], laidByText := true, laidKinds := [.data, .data, .data, .data, .sentinel, .sentinel, .pinned], laidTests := true, laidLooks := .later }
def WordsWholeUptoCardSaid : Prop := Claim7.holds Tryz.pinned (.plain (OpenSpec.upto wordsWholeSpec)) wordsWholeUptoCard

/-- THE SECOND FORM's CARD OF 'granarylaw11.WordsRight'. -/
def wordsRightUptoCard : Claim7 := { stood := { row := wordsRightUptoRow, standIns := [], harness := (true, "03628fec8cb14bb6a4b77357f4b03b90f4942c90a86d308d6778f515da70f490"), looks := true }, kinds := [], alts := [], laidByText := true, laidKinds := [.data, .data, .data, .data, .sentinel, .sentinel, .pinned], laidTests := true, laidLooks := .later }
def WordsRightUptoCardSaid : Prop := Claim7.holds Tryz.pinned (.plain (OpenSpec.upto wordsRightSpec)) wordsRightUptoCard
end Rows
end Go.Proofs.YticigfpieeoolaaGreatDoor
