/-
  DERIVED. GIVEN WITH THE SEED: THE CARDS: each row of YtnbeeehfapjpdaaGreatDoorRows.lean that lists a variable, with what it lists TIED to the program's text (the seventh form; the later family's looks); each row that meets fmt, with fmt's text TOLD by the authors' own Lean function (tested against real Go, not proved from fmt's source: count such statements apart). THE CARD IS WHAT COUNTS. Prove the row's statement (the work); the ties are given (YtnbeeehfapjpdaaGreatDoorTie.lean); close each card by the builder's one call (the guide's Derived/Test/ToyasCard.lean, 'card_holds'). Laid BY PROGRAM, IN A SANDBOX (cutbox-door.mjs). By AI agents, Wed Nov 11 2026. No macro, syntax, notation, axiom, sorry.
-/
import Derived.Test.YtnbeeehfapjpdaaGreatDoorRows
import GoSem.ClaimSeven
namespace Go.Proofs.YtnbeeehfapjpdaaGreatDoor
namespace Rows

/-- THE TIED CARD OF 'granarylaw13.ReplyExact'. -/
def replyExactCard : Claim7 := { stood := { row := replyExactRow, standIns := [], harness := (true, "fd2242b89c57e055b08e8786a4c5ca206ad245864ec7beacefe222aafd31ebdc"), looks := true }, kinds := [], alts := [], laidByText := true, laidKinds := [.data, .data, .data, .data, .pinned], laidTests := true, laidLooks := .later }
def ReplyExactCardSaid : Prop := Claim7.holds Tryz.pinned (.plain (OpenSpec.ofChange replyExactSpec)) replyExactCard

/-- THE TIED CARD OF 'granarylaw13.ReplyReads'. -/
def replyReadsCard : Claim7 := { stood := { row := replyReadsRow, standIns := [], harness := (true, "fd2242b89c57e055b08e8786a4c5ca206ad245864ec7beacefe222aafd31ebdc"), looks := true }, kinds := [], alts := [], laidByText := true, laidKinds := [.data, .data, .data, .data, .pinned], laidTests := true, laidLooks := .later }
def ReplyReadsCardSaid : Prop := Claim7.holds Tryz.pinned (.plain (OpenSpec.ofChange replyReadsSpec)) replyReadsCard

/-- THE TIED CARD OF 'granarylaw13.ReplyNames'. -/
def replyNamesCard : Claim7 := { stood := { row := replyNamesRow, standIns := [], harness := (true, "fd2242b89c57e055b08e8786a4c5ca206ad245864ec7beacefe222aafd31ebdc"), looks := true }, kinds := [], alts := [], laidByText := true, laidKinds := [.data, .data, .data, .data, .pinned], laidTests := true, laidLooks := .later }
def ReplyNamesCardSaid : Prop := Claim7.holds Tryz.pinned (.plain (OpenSpec.ofChange replyNamesSpec)) replyNamesCard

/-- THE TIED CARD OF 'granarylaw13.ReplyBack'. -/
def replyBackCard : Claim7 := { stood := { row := replyBackRow, standIns := [], harness := (true, "fd2242b89c57e055b08e8786a4c5ca206ad245864ec7beacefe222aafd31ebdc"), looks := true }, kinds := [], alts := [], laidByText := true, laidKinds := [.data, .data, .data, .data, .pinned], laidTests := true, laidLooks := .later }
def ReplyBackCardSaid : Prop := Claim7.holds Tryz.pinned (.plain (OpenSpec.ofChange replyBackSpec)) replyBackCard

/-- THE TIED CARD OF 'granarylaw13.ReplyOne'. -/
def replyOneCard : Claim7 := { stood := { row := replyOneRow, standIns := [], harness := (true, "fd2242b89c57e055b08e8786a4c5ca206ad245864ec7beacefe222aafd31ebdc"), looks := true }, kinds := [], alts := [], laidByText := true, laidKinds := [.data, .data, .data, .data, .pinned], laidTests := true, laidLooks := .later }
def ReplyOneCardSaid : Prop := Claim7.holds Tryz.pinned (.plain (OpenSpec.ofChange replyOneSpec)) replyOneCard

/-- THE TIED CARD OF 'granarylaw13.ReplyRow'. -/
def replyRowCard : Claim7 := { stood := { row := replyRowRow, standIns := [], harness := (true, "fd2242b89c57e055b08e8786a4c5ca206ad245864ec7beacefe222aafd31ebdc"), looks := true }, kinds := [], alts := [], laidByText := true, laidKinds := [.data, .data, .data, .data, .pinned], laidTests := true, laidLooks := .later }
def ReplyRowCardSaid : Prop := Claim7.holds Tryz.pinned (.plain (OpenSpec.ofChange replyRowSpec)) replyRowCard

/-- THE TIED CARD OF 'granarylaw13.ReplyWrong'. -/
def replyWrongCard : Claim7 := { stood := { row := replyWrongRow, standIns := [], harness := (true, "fd2242b89c57e055b08e8786a4c5ca206ad245864ec7beacefe222aafd31ebdc"), looks := true }, kinds := [], alts := [], laidByText := true, laidKinds := [.data, .data, .data, .data, .pinned], laidTests := true, laidLooks := .later }
def ReplyWrongCardSaid : Prop := Claim7.holds Tryz.pinned (.plain (OpenSpec.ofChange replyWrongSpec)) replyWrongCard

/-- THE SECOND FORM's CARD OF 'granarylaw13.ReplyExact'. -/
def replyExactUptoCard : Claim7 := { stood := { row := replyExactUptoRow, standIns := [], harness := (true, "fd2242b89c57e055b08e8786a4c5ca206ad245864ec7beacefe222aafd31ebdc"), looks := true }, kinds := [], alts := [], laidByText := true, laidKinds := [.data, .data, .data, .data, .pinned], laidTests := true, laidLooks := .later }
def ReplyExactUptoCardSaid : Prop := Claim7.holds Tryz.pinned (.plain (OpenSpec.upto replyExactSpec)) replyExactUptoCard

/-- THE SECOND FORM's CARD OF 'granarylaw13.ReplyReads'. -/
def replyReadsUptoCard : Claim7 := { stood := { row := replyReadsUptoRow, standIns := [], harness := (true, "fd2242b89c57e055b08e8786a4c5ca206ad245864ec7beacefe222aafd31ebdc"), looks := true }, kinds := [], alts := [], laidByText := true, laidKinds := [.data, .data, .data, .data, .pinned], laidTests := true, laidLooks := .later }
def ReplyReadsUptoCardSaid : Prop := Claim7.holds Tryz.pinned (.plain (OpenSpec.upto replyReadsSpec)) replyReadsUptoCard

/-- THE SECOND FORM's CARD OF 'granarylaw13.ReplyNames'. -/
def replyNamesUptoCard : Claim7 := { stood := { row := replyNamesUptoRow, standIns := [], harness := (true, "fd2242b89c57e055b08e8786a4c5ca206ad245864ec7beacefe222aafd31ebdc"), looks := true }, kinds := [], alts := [], laidByText := true, laidKinds := [.data, .data, .data, .data, .pinned], laidTests := true, laidLooks := .later }
def ReplyNamesUptoCardSaid : Prop := Claim7.holds Tryz.pinned (.plain (OpenSpec.upto replyNamesSpec)) replyNamesUptoCard

/-- THE SECOND FORM's CARD OF 'granarylaw13.ReplyBack'. -/
def replyBackUptoCard : Claim7 := { stood := { row := replyBackUptoRow, standIns := [], harness := (true, "fd2242b89c57e055b08e8786a4c5ca206ad245864ec7beacefe222aafd31ebdc"), looks := true }, kinds := [], alts := [], laidByText := true, laidKinds := [.data, .data, .data, .data, .pinned], laidTests := true, laidLooks := .later }
def ReplyBackUptoCardSaid : Prop := Claim7.holds Tryz.pinned (.plain (OpenSpec.upto replyBackSpec)) replyBackUptoCard

/-- THE SECOND FORM's CARD OF 'granarylaw13.ReplyOne'. -/
def replyOneUptoCard : Claim7 := { stood := { row := replyOneUptoRow, standIns := [], harness := (true, "fd2242b89c57e055b08e8786a4c5ca206ad245864ec7beacefe222aafd31ebdc"), looks := true }, kinds := [], alts := [], laidByText := true, laidKinds := [.data, .data, .data, .data, .pinned], laidTests := true, laidLooks := .later }
def ReplyOneUptoCardSaid : Prop := Claim7.holds Tryz.pinned (.plain (OpenSpec.upto replyOneSpec)) replyOneUptoCard

/-- THE SECOND FORM's CARD OF 'granarylaw13.ReplyRow'. -/
def replyRowUptoCard : Claim7 := { stood := { row := replyRowUptoRow, standIns := [], harness := (true, "fd2242b89c57e055b08e8786a4c5ca206ad245864ec7beacefe222aafd31ebdc"), looks := true }, kinds := [], alts := [], laidByText := true, laidKinds := [.data, .data, .data, .data, .pinned], laidTests := true, laidLooks := .later }
def ReplyRowUptoCardSaid : Prop := Claim7.holds Tryz.pinned (.plain (OpenSpec.upto replyRowSpec)) replyRowUptoCard

/-- THE SECOND FORM's CARD OF 'granarylaw13.ReplyWrong'. -/
def replyWrongUptoCard : Claim7 := { stood := { row := replyWrongUptoRow, standIns := [], harness := (true, "fd2242b89c57e055b08e8786a4c5ca206ad245864ec7beacefe222aafd31ebdc"), looks := true }, kinds := [], alts := [], laidByText := true, laidKinds := [.data, .data, .data, .data, .pinned], laidTests := true, laidLooks := .later }
def ReplyWrongUptoCardSaid : Prop := Claim7.holds Tryz.pinned (.plain (OpenSpec.upto replyWrongSpec)) replyWrongUptoCard
end Rows
end Go.Proofs.YtnbeeehfapjpdaaGreatDoor
