/-
  DERIVED. GIVEN WITH THE SEED: THE CARDS: each row of YthdkbdnbflkagaaGreatDoorRows.lean that lists a variable, with what it lists TIED to the program's text (the seventh form; the later family's looks); each row that meets fmt, with fmt's text TOLD by the authors' own Lean function (tested against real Go, not proved from fmt's source: count such statements apart). THE CARD IS WHAT COUNTS. Prove the row's statement (the work); the ties are given (YthdkbdnbflkagaaGreatDoorTie.lean); close each card by the builder's one call (the guide's Derived/Test/ToyasCard.lean, 'card_holds'). Laid BY PROGRAM, IN A SANDBOX (cutbox-door.mjs). By AI agents, Wed Nov 11 2026. No macro, syntax, notation, axiom, sorry.
-/
import Derived.Test.YthdkbdnbflkagaaGreatDoorRows
import GoSem.ClaimSeven
namespace Go.Proofs.YthdkbdnbflkagaaGreatDoor
namespace Rows

/-- THE TIED CARD OF 'copyholdlaw.DeskEnds'. -/
def deskEndsCard : Claim7 := { stood := { row := deskEndsRow, standIns := [], harness := (true, "b171d3276e842d72a7150f542c0798b2977fc6a379ff364ff03878d20a6c2bcd"), looks := true }, kinds := [], alts := [], laidByText := true, laidKinds := [.data, .data, .data, .sentinel, .sentinel], laidTests := true, laidLooks := .later }
def DeskEndsCardSaid : Prop := Claim7.holds Tryz.pinned (.plain (OpenSpec.ofChange deskEndsSpec)) deskEndsCard

/-- THE SECOND FORM's CARD OF 'copyholdlaw.DeskEnds'. -/
def deskEndsUptoCard : Claim7 := { stood := { row := deskEndsUptoRow, standIns := [], harness := (true, "b171d3276e842d72a7150f542c0798b2977fc6a379ff364ff03878d20a6c2bcd"), looks := true }, kinds := [], alts := [], laidByText := true, laidKinds := [.data, .data, .data, .sentinel, .sentinel], laidTests := true, laidLooks := .later }
def DeskEndsUptoCardSaid : Prop := Claim7.holds Tryz.pinned (.plain (OpenSpec.upto deskEndsSpec)) deskEndsUptoCard
end Rows
end Go.Proofs.YthdkbdnbflkagaaGreatDoor
