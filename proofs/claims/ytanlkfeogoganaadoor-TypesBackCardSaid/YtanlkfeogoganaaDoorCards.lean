/-
  DERIVED. GIVEN WITH THE SEED: THE CARDS: each row of YtanlkfeogoganaaDoorRows.lean that lists a variable, with what it lists TIED to the program's text (the seventh form; the later family's looks); each row that meets fmt, with fmt's text TOLD by the authors' own Lean function (tested against real Go, not proved from fmt's source: count such statements apart). THE CARD IS WHAT COUNTS. Prove the row's statement (the work); the ties are given (YtanlkfeogoganaaDoorTie.lean); close each card by the builder's one call (the guide's Derived/Test/ToyasCard.lean, 'card_holds'). Laid BY PROGRAM, IN A SANDBOX (cutbox-door.mjs). By AI agents, Wed Nov 11 2026. No macro, syntax, notation, axiom, sorry.
-/
import Derived.Test.YtanlkfeogoganaaDoorRows
import GoSem.ClaimSeven
namespace Go.Proofs.YtanlkfeogoganaaDoor
namespace Rows

/-- THE TIED CARD OF 'copyholdlaw.TypesDoes'. -/
def typesDoesCard : Claim7 := { stood := { row := typesDoesRow, standIns := [], harness := (true, "02ea5f207ebc7d97b995d078286ff3bce4690feab8d460bdf5f0552c9c691139"), looks := false }, kinds := [], alts := [], laidByText := true, laidKinds := [.data, .data, .data], laidTests := true, laidLooks := .later }
def TypesDoesCardSaid : Prop := Claim7.holds Tryd.pinned (.plain (OpenSpec.ofChange typesDoesSpec)) typesDoesCard

/-- THE TIED CARD OF 'copyholdlaw.TypesBack'. -/
def typesBackCard : Claim7 := { stood := { row := typesBackRow, standIns := [], harness := (true, "02ea5f207ebc7d97b995d078286ff3bce4690feab8d460bdf5f0552c9c691139"), looks := false }, kinds := [], alts := [], laidByText := true, laidKinds := [.data, .data, .data], laidTests := true, laidLooks := .later }
def TypesBackCardSaid : Prop := Claim7.holds Tryd.pinned (.plain (OpenSpec.ofChange typesBackSpec)) typesBackCard

/-- THE SECOND FORM's CARD OF 'copyholdlaw.TypesDoes'. -/
def typesDoesUptoCard : Claim7 := { stood := { row := typesDoesUptoRow, standIns := [], harness := (true, "02ea5f207ebc7d97b995d078286ff3bce4690feab8d460bdf5f0552c9c691139"), looks := false }, kinds := [], alts := [], laidByText := true, laidKinds := [.data, .data, .data], laidTests := true, laidLooks := .later }
def TypesDoesUptoCardSaid : Prop := Claim7.holds Tryd.pinned (.plain (OpenSpec.upto typesDoesSpec)) typesDoesUptoCard

/-- THE SECOND FORM's CARD OF 'copyholdlaw.TypesBack'. -/
def typesBackUptoCard : Claim7 := { stood := { row := typesBackUptoRow, standIns := [], harness := (true, "02ea5f207ebc7d97b995d078286ff3bce4690feab8d460bdf5f0552c9c691139"), looks := false }, kinds := [], alts := [], laidByText := true, laidKinds := [.data, .data, .data], laidTests := true, laidLooks := .later }
def TypesBackUptoCardSaid : Prop := Claim7.holds Tryd.pinned (.plain (OpenSpec.upto typesBackSpec)) typesBackUptoCard
end Rows
end Go.Proofs.YtanlkfeogoganaaDoor
