/-
  DERIVED. GIVEN WITH THE SEED: THE CARDS: each row of YtjecflbbcnocdaaDoorRows.lean that lists a variable, with what it lists TIED to the program's text (the seventh form; the later family's looks); each row that meets fmt, with fmt's text TOLD by the authors' own Lean function (tested against real Go, not proved from fmt's source: count such statements apart). THE CARD IS WHAT COUNTS. Prove the row's statement (the work); the ties are given (YtjecflbbcnocdaaDoorTie.lean); close each card by the builder's one call (the guide's Derived/Test/ToyasCard.lean, 'card_holds'). Laid BY PROGRAM, IN A SANDBOX (cutbox-door.mjs). By AI agents, Wed Nov 11 2026. No macro, syntax, notation, axiom, sorry.
-/
import Derived.Test.YtjecflbbcnocdaaDoorRows
import GoSem.ClaimSeven
namespace Go.Proofs.YtjecflbbcnocdaaDoor
namespace Rows

/-- THE TIED CARD OF 'copyholdlaw.TokenScans'. -/
def tokenScansCard : Claim7 := { stood := { row := tokenScansRow, standIns := [], harness := (true, "1d91d0552b79f72cc67a5c0545cbdfac7507aba64b0d40a7c0c366d8c1a75b03"), looks := true }, kinds := [], alts := [], laidByText := true, laidKinds := [.data, .data, .data, .sentinel, .sentinel], laidTests := true, laidLooks := .later }
def TokenScansCardSaid : Prop := Claim7.holds Tryd.pinned (.plain (OpenSpec.ofChange tokenScansSpec)) tokenScansCard

/-- THE TIED CARD OF 'copyholdlaw.TokenBack'. -/
def tokenBackCard : Claim7 := { stood := { row := tokenBackRow, standIns := [], harness := (true, "1d91d0552b79f72cc67a5c0545cbdfac7507aba64b0d40a7c0c366d8c1a75b03"), looks := true }, kinds := [], alts := [], laidByText := true, laidKinds := [.data, .data, .data, .sentinel, .sentinel], laidTests := true, laidLooks := .later }
def TokenBackCardSaid : Prop := Claim7.holds Tryd.pinned (.plain (OpenSpec.ofChange tokenBackSpec)) tokenBackCard

/-- THE TIED CARD OF 'copyholdlaw.RenderApart'. -/
def renderApartCard : Claim7 := { stood := { row := renderApartRow, standIns := [], harness := (true, "1d91d0552b79f72cc67a5c0545cbdfac7507aba64b0d40a7c0c366d8c1a75b03"), looks := true }, kinds := [], alts := [], laidByText := true, laidKinds := [.data, .data, .data], laidTests := true, laidLooks := .later }
def RenderApartCardSaid : Prop := Claim7.holds Tryd.pinned (.plain (OpenSpec.ofChange renderApartSpec)) renderApartCard

/-- THE SECOND FORM's CARD OF 'copyholdlaw.TokenScans'. -/
def tokenScansUptoCard : Claim7 := { stood := { row := tokenScansUptoRow, standIns := [], harness := (true, "1d91d0552b79f72cc67a5c0545cbdfac7507aba64b0d40a7c0c366d8c1a75b03"), looks := true }, kinds := [], alts := [], laidByText := true, laidKinds := [.data, .data, .data, .sentinel, .sentinel], laidTests := true, laidLooks := .later }
def TokenScansUptoCardSaid : Prop := Claim7.holds Tryd.pinned (.plain (OpenSpec.upto tokenScansSpec)) tokenScansUptoCard

/-- THE SECOND FORM's CARD OF 'copyholdlaw.TokenBack'. -/
def tokenBackUptoCard : Claim7 := { stood := { row := tokenBackUptoRow, standIns := [], harness := (true, "1d91d0552b79f72cc67a5c0545cbdfac7507aba64b0d40a7c0c366d8c1a75b03"), looks := true }, kinds := [], alts := [], laidByText := true, laidKinds := [.data, .data, .data, .sentinel, .sentinel], laidTests := true, laidLooks := .later }
def TokenBackUptoCardSaid : Prop := Claim7.holds Tryd.pinned (.plain (OpenSpec.upto tokenBackSpec)) tokenBackUptoCard

/-- THE SECOND FORM's CARD OF 'copyholdlaw.RenderApart'. -/
def renderApartUptoCard : Claim7 := { stood := { row := renderApartUptoRow, standIns := [], harness := (true, "1d91d0552b79f72cc67a5c0545cbdfac7507aba64b0d40a7c0c366d8c1a75b03"), looks := true }, kinds := [], alts := [], laidByText := true, laidKinds := [.data, .data, .data], laidTests := true, laidLooks := .later }
def RenderApartUptoCardSaid : Prop := Claim7.holds Tryd.pinned (.plain (OpenSpec.upto renderApartSpec)) renderApartUptoCard
end Rows
end Go.Proofs.YtjecflbbcnocdaaDoor
