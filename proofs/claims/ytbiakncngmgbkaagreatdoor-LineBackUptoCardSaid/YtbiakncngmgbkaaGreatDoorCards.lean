/-
  DERIVED. GIVEN WITH THE SEED: THE CARDS: each row of YtbiakncngmgbkaaGreatDoorRows.lean that lists a variable, with what it lists TIED to the program's text (the seventh form; the later family's looks); each row that meets fmt, with fmt's text TOLD by the authors' own Lean function (tested against real Go, not proved from fmt's source: count such statements apart). THE CARD IS WHAT COUNTS. Prove the row's statement (the work); the ties are given (YtbiakncngmgbkaaGreatDoorTie.lean); close each card by the builder's one call (the guide's Derived/Test/ToyasCard.lean, 'card_holds'). Laid BY PROGRAM, IN A SANDBOX (cutbox-door.mjs). By AI agents, Wed Nov 11 2026. No macro, syntax, notation, axiom, sorry.
-/
import Derived.Test.YtbiakncngmgbkaaGreatDoorRows
import GoSem.ClaimSeven
namespace Go.Proofs.YtbiakncngmgbkaaGreatDoor
namespace Rows

/-- THE TIED CARD OF 'granarylaw12.LineExact'. -/
def lineExactCard : Claim7 := { stood := { row := lineExactRow, standIns := [], harness := (true, "411c831c4a11621850ac83207685432272859e4c02c399933bdfa57e467ab446"), looks := true }, kinds := [], alts := [], laidByText := true, laidKinds := [.data, .data, .data, .data, .sentinel, .sentinel, .pinned], laidTests := true, laidLooks := .later }
def LineExactCardSaid : Prop := Claim7.holds Tryz.pinned (.plain (OpenSpec.ofChange lineExactSpec)) lineExactCard

/-- THE TIED CARD OF 'granarylaw12.LineBack'. -/
def lineBackCard : Claim7 := { stood := { row := lineBackRow, standIns := [], harness := (true, "411c831c4a11621850ac83207685432272859e4c02c399933bdfa57e467ab446"), looks := true }, kinds := [], alts := [], laidByText := true, laidKinds := [.data, .data, .data, .data, .sentinel, .sentinel, .pinned], laidTests := true, laidLooks := .later }
def LineBackCardSaid : Prop := Claim7.holds Tryz.pinned (.plain (OpenSpec.ofChange lineBackSpec)) lineBackCard

/-- THE TIED CARD OF 'granarylaw12.LineCuts'. -/
def lineCutsCard : Claim7 := { stood := { row := lineCutsRow, standIns := [], harness := (true, "411c831c4a11621850ac83207685432272859e4c02c399933bdfa57e467ab446"), looks := true }, kinds := [], alts := [], laidByText := true, laidKinds := [.data, .data, .data, .data, .sentinel, .sentinel, .pinned], laidTests := true, laidLooks := .later }
def LineCutsCardSaid : Prop := Claim7.holds Tryz.pinned (.plain (OpenSpec.ofChange lineCutsSpec)) lineCutsCard

/-- THE TIED CARD OF 'granarylaw12.LineApart'. -/
def lineApartCard : Claim7 := { stood := { row := lineApartRow, standIns := [], harness := (true, "411c831c4a11621850ac83207685432272859e4c02c399933bdfa57e467ab446"), looks := true }, kinds := [], alts := [], laidByText := true, laidKinds := [.data, .data, .data, .data, .sentinel, .sentinel, .pinned], laidTests := true, laidLooks := .later }
def LineApartCardSaid : Prop := Claim7.holds Tryz.pinned (.plain (OpenSpec.ofChange lineApartSpec)) lineApartCard

/-- THE TIED CARD OF 'granarylaw12.LineWhole'. -/
def lineWholeCard : Claim7 := { stood := { row := lineWholeRow, standIns := [], harness := (true, "411c831c4a11621850ac83207685432272859e4c02c399933bdfa57e467ab446"), looks := true }, kinds := [], alts := [], laidByText := true, laidKinds := [.data, .data, .data, .data, .sentinel, .sentinel, .pinned], laidTests := true, laidLooks := .later }
def LineWholeCardSaid : Prop := Claim7.holds Tryz.pinned (.plain (OpenSpec.ofChange lineWholeSpec)) lineWholeCard

/-- THE SECOND FORM's CARD OF 'granarylaw12.LineExact'. -/
def lineExactUptoCard : Claim7 := { stood := { row := lineExactUptoRow, standIns := [], harness := (true, "411c831c4a11621850ac83207685432272859e4c02c399933bdfa57e467ab446"), looks := true }, kinds := [], alts := [], laidByText := true, laidKinds := [.data, .data, .data, .data, .sentinel, .sentinel, .pinned], laidTests := true, laidLooks := .later }
def LineExactUptoCardSaid : Prop := Claim7.holds Tryz.pinned (.plain (OpenSpec.upto lineExactSpec)) lineExactUptoCard

/-- THE SECOND FORM's CARD OF 'granarylaw12.LineBack'. -/
def lineBackUptoCard : Claim7 := { stood := { row := lineBackUptoRow, standIns := [], harness := (true, "411c831c4a11621850ac83207685432272859e4c02c399933bdfa57e467ab446"), looks := true }, kinds := [], alts := [], laidByText := true, laidKinds := [.data, .data, .data, .data, .sentinel, .sentinel, .pinned], laidTests := true, laidLooks := .later }
def LineBackUptoCardSaid : Prop := Claim7.holds Tryz.pinned (.plain (OpenSpec.upto lineBackSpec)) lineBackUptoCard

/-- THE SECOND FORM's CARD OF 'granarylaw12.LineCuts'. -/
def lineCutsUptoCard : Claim7 := { stood := { row := lineCutsUptoRow, standIns := [], harness := (true, "411c831c4a11621850ac83207685432272859e4c02c399933bdfa57e467ab446"), looks := true }, kinds := [], alts := [], laidByText := true, laidKinds := [.data, .data, .data, .data, .sentinel, .sentinel, .pinned], laidTests := true, laidLooks := .later }
def LineCutsUptoCardSaid : Prop := Claim7.holds Tryz.pinned (.plain (OpenSpec.upto lineCutsSpec)) lineCutsUptoCard

/-- THE SECOND FORM's CARD OF 'granarylaw12.LineApart'. -/
def lineApartUptoCard : Claim7 := { stood := { row := lineApartUptoRow, standIns := [], harness := (true, "411c831c4a11621850ac83207685432272859e4c02c399933bdfa57e467ab446"), looks := true }, kinds := [], alts := [], laidByText := true, laidKinds := [.data, .data, .data, .data, .sentinel, .sentinel, .pinned], laidTests := true, laidLooks := .later }
def LineApartUptoCardSaid : Prop := Claim7.holds Tryz.pinned (.plain (OpenSpec.upto lineApartSpec)) lineApartUptoCard

/-- THE SECOND FORM's CARD OF 'granarylaw12.LineWhole'. -/
def lineWholeUptoCard : Claim7 := { stood := { row := lineWholeUptoRow, standIns := [], harness := (true, "411c831c4a11621850ac83207685432272859e4c02c399933bdfa57e467ab446"), looks := true }, kinds := [], alts := [], laidByText := true, laidKinds := [.data, .data, .data, .data, .sentinel, .sentinel, .pinned], laidTests := true, laidLooks := .later }
def LineWholeUptoCardSaid : Prop := Claim7.holds Tryz.pinned (.plain (OpenSpec.upto lineWholeSpec)) lineWholeUptoCard
end Rows
end Go.Proofs.YtbiakncngmgbkaaGreatDoor
