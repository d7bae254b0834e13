/-
  DERIVED. GIVEN WITH THE SEED: THE CARDS: each row of YthgfjafnclklpaaGreatDoorRows.lean that lists a variable, with what it lists TIED to the program's text (the seventh form; the later family's looks); each row that meets fmt, with fmt's text TOLD by the authors' own Lean function (tested against real Go, not proved from fmt's source: count such statements apart). THE CARD IS WHAT COUNTS. Prove the row's statement (the work); the ties are given (YthgfjafnclklpaaGreatDoorTie.lean); close each card by the builder's one call (the guide's Derived/Test/ToyasCard.lean, 'card_holds'). Laid BY PROGRAM, IN A SANDBOX (cutbox-door.mjs). By AI agents, Wed Nov 11 2026. No macro, syntax, notation, axiom, sorry.
-/
import Derived.Test.YthgfjafnclklpaaGreatDoorRows
import GoSem.ClaimSeven
namespace Go.Proofs.YthgfjafnclklpaaGreatDoor
namespace Rows

/-- THE TIED CARD OF 'granarylaw11.WordsBytes'. -/
def wordsBytesCard : Claim7 := { stood := { row := wordsBytesRow, standIns := [], harness := (true, "26773b2b0020df9db05346859c363ea47538d7b576b4cf4b2fd5db4343d4925d"), looks := true }, kinds := [], alts := [], laidByText := true, laidKinds := [.data, .data, .data, .data, .sentinel, .sentinel, .pinned], laidTests := true, laidLooks := .later }
def WordsBytesCardSaid : Prop := Claim7.holds Tryz.pinned (.plain (OpenSpec.ofChange wordsBytesSpec)) wordsBytesCard

/-- THE TIED CARD OF 'granarylaw11.WordsLine'. -/
def wordsLineCard : Claim7 := { stood := { row := wordsLineRow, standIns := [], harness := (true, "26773b2b0020df9db05346859c363ea47538d7b576b4cf4b2fd5db4343d4925d"), looks := true }, kinds := [], alts := [], laidByText := true, laidKinds := [.data, .data, .data, .data, .sentinel, .sentinel, .pinned], laidTests := true, laidLooks := .later }
def WordsLineCardSaid : Prop := Claim7.holds Tryz.pinned (.plain (OpenSpec.ofChange wordsLineSpec)) wordsLineCard

/-- THE TIED CARD OF 'granarylaw11.WordsAll'. -/
def wordsAllCard : Claim7 := { stood := { row := wordsAllRow, standIns := [], harness := (true, "26773b2b0020df9db05346859c363ea47538d7b576b4cf4b2fd5db4343d4925d"), looks := true }, kinds := [], alts := [], laidByText := true, laidKinds := [.data, .data, .data, .data, .sentinel, .sentinel, .pinned], laidTests := true, laidLooks := .later }
def WordsAllCardSaid : Prop := Claim7.holds Tryz.pinned (.plain (OpenSpec.ofChange wordsAllSpec)) wordsAllCard

/-- THE TIED CARD OF 'granarylaw12.LineExact'. -/
def lineExactCard : Claim7 := { stood := { row := lineExactRow, standIns := [], harness := (true, "26773b2b0020df9db05346859c363ea47538d7b576b4cf4b2fd5db4343d4925d"), looks := true }, kinds := [], alts := [], laidByText := true, laidKinds := [.data, .data, .data, .data, .sentinel, .sentinel, .pinned], laidTests := true, laidLooks := .later }
def LineExactCardSaid : Prop := Claim7.holds Tryz.pinned (.plain (OpenSpec.ofChange lineExactSpec)) lineExactCard

/-- THE SECOND FORM's CARD OF 'granarylaw11.WordsBytes'. -/
def wordsBytesUptoCard : Claim7 := { stood := { row := wordsBytesUptoRow, standIns := [], harness := (true, "26773b2b0020df9db05346859c363ea47538d7b576b4cf4b2fd5db4343d4925d"), looks := true }, kinds := [], alts := [], laidByText := true, laidKinds := [.data, .data, .data, .data, .sentinel, .sentinel, .pinned], laidTests := true, laidLooks := .later }
def WordsBytesUptoCardSaid : Prop := Claim7.holds Tryz.pinned (.plain (OpenSpec.upto wordsBytesSpec)) wordsBytesUptoCard

/-- THE SECOND FORM's CARD OF 'granarylaw11.WordsLine'. -/
def wordsLineUptoCard : Claim7 := { stood := { row := wordsLineUptoRow, standIns := [], harness := (true, "26773b2b0020df9db05346859c363ea47538d7b576b4cf4b2fd5db4343d4925d"), looks := true }, kinds := [], alts := [], laidByText := true, laidKinds := [.data, .data, .data, .data, .sentinel, .sentinel, .pinned], laidTests := true, laidLooks := .later }
def WordsLineUptoCardSaid : Prop := Claim7.holds Tryz.pinned (.plain (OpenSpec.upto wordsLineSpec)) wordsLineUptoCard

/-- THE SECOND FORM's CARD OF 'granarylaw11.WordsAll'. -/
def wordsAllUptoCard : Claim7 := { stood := { row := wordsAllUptoRow, standIns := [], harness := (true, "26773b2b0020df9db05346859c363ea47538d7b576b4cf4b2fd5db4343d4925d"), looks := true }, kinds := [], alts := [], laidByText := true, laidKinds := [.data, .data, .data, .data, .sentinel, .sentinel, .pinned], laidTests := true, laidLooks := .later }
def WordsAllUptoCardSaid : Prop := Claim7.holds Tryz.pinned (.plain (OpenSpec.upto wordsAllSpec)) wordsAllUptoCard

/-- THE SECOND FORM's CARD OF 'granarylaw12.LineExact'. -/
def lineExactUptoCard : Claim7 := { stood := { row := lineExactUptoRow, standIns := [], harness := (true, "26773b2b0020df9db05346859c363ea47538d7b576b4cf4b2fd5db4343d4925d"), looks := true }, kinds := [], alts := [], laidByText := true, laidKinds := [.data, .data, .data, .data, .sentinel, .sentinel, .pinned], laidTests := true, laidLooks := .later }
def LineExactUptoCardSaid : Prop := Claim7.holds Tryz.pinned (.plain (OpenSpec.upto lineExactSpec)) lineExactUptoCard
end Rows
end Go.Proofs.YthgfjafnclklpaaGreatDoor
