/-
  No cell of these rows narrows 'for every input' (looked for: loops, veiled, ifaces, maps, wideKeys, modest, calm, conditions, laid).
  DERIVED. THE GIVEN ROWS OF THIS SEAT. 11 by the template 'for every input the law returns true; each argument reads behind the call as it read before'; 0 by the template 'total and deterministic' (their statements: YtocllfbfogcbgaaTotals.lean).
  GIVEN WITH THE SEED: the statements are not yours to turn. If you find one false, say at which input.
  Laid BY PROGRAM, IN A SANDBOX (cutbox-rows.mjs): the forced cells as the released guide's own fill.sh prints them over the translation 5f358e4621d733e2… (all of the seat's roots in one cut). By AI agents, Wed Nov 11 2026. No macro, syntax, notation, axiom, sorry.
-/
import Derived.Test.YtocllfbfogcbgaaChecked
import GoSem.Claim
import GoSem.ClaimJoined
import GoSem.ClaimMapViews
import Derived.JoinedTies
import Derived.KernelRfl
namespace Go.Proofs.Ytocllfbfogcbgaa
/- THE CELL 'sum', in the pinned program and in every row, IS THE sha256 OF THE DUMP (.gsa) THAT YtocllfbfogcbgaaProg.lean LOADS. Nothing in Lean hashes anything: it is a label: what it is worth is what the hold of that sum in a sandbox is worth. -/
noncomputable def Try.pinned : Pinned := { name := "ytocllfbfogcbgaa", sum := "5f358e4621d733e2450458429e417ed36a4ab16e11afdb3ed4a6ce8c806e3817", checked := Try.checked }
namespace Rows
def none {H : Type} : Left H := { results := [], args := [] }

/-- 'copyholdlaw.ArithOps': WHATEVER THE INPUT: true; the input reads as it did. -/
def arithOpsSpec : ChangeSpec := { name := "arithOps", fn := fun _ => fun
  | [d1, d2, d3] => { results := [.lit (.bool true)], args := [d1, d2, d3] }
  | _ => none }
def arithOpsRow : OpenClaim := { program := "ytocllfbfogcbgaa", sum := "5f358e4621d733e2450458429e417ed36a4ab16e11afdb3ed4a6ce8c806e3817", func := "copyhold/copyholdlaw.ArithOps", spec := "arithOps", apart := false }
def ArithOpsSaid : Prop := arithOpsRow.holds Try.pinned (OpenSpec.ofChange arithOpsSpec)

/-- ITS FALSE NEIGHBOUR: 'it returns false'. Refute it at one input. -/
def arithOpsWrong : ChangeSpec := { name := "arithOps", fn := fun _ => fun
  | [d1, d2, d3] => { results := [.lit (.bool false)], args := [d1, d2, d3] }
  | _ => none }
def ArithOpsWrongFalsely : Prop := arithOpsRow.holds Try.pinned (OpenSpec.ofChange arithOpsWrong)

/-- 'copyholdlaw.ArithParts': WHATEVER THE INPUT: true; the input reads as it did. -/
def arithPartsSpec : ChangeSpec := { name := "arithParts", fn := fun _ => fun
  | [d1, d2] => { results := [.lit (.bool true)], args := [d1, d2] }
  | _ => none }
def arithPartsRow : OpenClaim := { program := "ytocllfbfogcbgaa", sum := "5f358e4621d733e2450458429e417ed36a4ab16e11afdb3ed4a6ce8c806e3817", func := "copyhold/copyholdlaw.ArithParts", spec := "arithParts", apart := false }
def ArithPartsSaid : Prop := arithPartsRow.holds Try.pinned (OpenSpec.ofChange arithPartsSpec)

/-- ITS FALSE NEIGHBOUR: 'it returns false'. Refute it at one input. -/
def arithPartsWrong : ChangeSpec := { name := "arithParts", fn := fun _ => fun
  | [d1, d2] => { results := [.lit (.bool false)], args := [d1, d2] }
  | _ => none }
def ArithPartsWrongFalsely : Prop := arithPartsRow.holds Try.pinned (OpenSpec.ofChange arithPartsWrong)

/-- 'copyholdlaw.HeldDoes': WHATEVER THE INPUT: true; the input reads as it did. -/
def heldDoesSpec : ChangeSpec := { name := "heldDoes", fn := fun _ => fun
  | [d1, d2] => { results := [.lit (.bool true)], args := [d1, d2] }
  | _ => none }
def heldDoesRow : OpenClaim := { program := "ytocllfbfogcbgaa", sum := "5f358e4621d733e2450458429e417ed36a4ab16e11afdb3ed4a6ce8c806e3817", func := "copyhold/copyholdlaw.HeldDoes", spec := "heldDoes", apart := false }
def HeldDoesSaid : Prop := heldDoesRow.holds Try.pinned (OpenSpec.ofChange heldDoesSpec)

/-- ITS FALSE NEIGHBOUR: 'it returns false'. Refute it at one input. -/
def heldDoesWrong : ChangeSpec := { name := "heldDoes", fn := fun _ => fun
  | [d1, d2] => { results := [.lit (.bool false)], args := [d1, d2] }
  | _ => none }
def HeldDoesWrongFalsely : Prop := heldDoesRow.holds Try.pinned (OpenSpec.ofChange heldDoesWrong)

/-- 'copyholdlaw.PoolDoes': WHATEVER THE INPUT: true; the input reads as it did. -/
def poolDoesSpec : ChangeSpec := { name := "poolDoes", fn := fun _ => fun
  | [d1, d2] => { results := [.lit (.bool true)], args := [d1, d2] }
  | _ => none }
def poolDoesRow : OpenClaim := { program := "ytocllfbfogcbgaa", sum := "5f358e4621d733e2450458429e417ed36a4ab16e11afdb3ed4a6ce8c806e3817", func := "copyhold/copyholdlaw.PoolDoes", spec := "poolDoes", apart := false }
def PoolDoesSaid : Prop := poolDoesRow.holds Try.pinned (OpenSpec.ofChange poolDoesSpec)

/-- ITS FALSE NEIGHBOUR: 'it returns false'. Refute it at one input. -/
def poolDoesWrong : ChangeSpec := { name := "poolDoes", fn := fun _ => fun
  | [d1, d2] => { results := [.lit (.bool false)], args := [d1, d2] }
  | _ => none }
def PoolDoesWrongFalsely : Prop := poolDoesRow.holds Try.pinned (OpenSpec.ofChange poolDoesWrong)

/-- 'copyholdlaw.PoolOnce': WHATEVER THE INPUT: true; the input reads as it did. -/
def poolOnceSpec : ChangeSpec := { name := "poolOnce", fn := fun _ => fun
  | [d1, d2] => { results := [.lit (.bool true)], args := [d1, d2] }
  | _ => none }
def poolOnceRow : OpenClaim := { program := "ytocllfbfogcbgaa", sum := "5f358e4621d733e2450458429e417ed36a4ab16e11afdb3ed4a6ce8c806e3817", func := "copyhold/copyholdlaw.PoolOnce", spec := "poolOnce", apart := false }
def PoolOnceSaid : Prop := poolOnceRow.holds Try.pinned (OpenSpec.ofChange poolOnceSpec)

/-- ITS FALSE NEIGHBOUR: 'it returns false'. Refute it at one input. -/
def poolOnceWrong : ChangeSpec := { name := "poolOnce", fn := fun _ => fun
  | [d1, d2] => { results := [.lit (.bool false)], args := [d1, d2] }
  | _ => none }
def PoolOnceWrongFalsely : Prop := poolOnceRow.holds Try.pinned (OpenSpec.ofChange poolOnceWrong)

/-- 'copyholdlaw.EstateRoom': WHATEVER THE INPUT: true; the input reads as it did. -/
def estateRoomSpec : ChangeSpec := { name := "estateRoom", fn := fun _ => fun
  | [d1, d2] => { results := [.lit (.bool true)], args := [d1, d2] }
  | _ => none }
def estateRoomRow : OpenClaim := { program := "ytocllfbfogcbgaa", sum := "5f358e4621d733e2450458429e417ed36a4ab16e11afdb3ed4a6ce8c806e3817", func := "copyhold/copyholdlaw.EstateRoom", spec := "estateRoom", apart := false }
def EstateRoomSaid : Prop := estateRoomRow.holds Try.pinned (OpenSpec.ofChange estateRoomSpec)

/-- ITS FALSE NEIGHBOUR: 'it returns false'. Refute it at one input. -/
def estateRoomWrong : ChangeSpec := { name := "estateRoom", fn := fun _ => fun
  | [d1, d2] => { results := [.lit (.bool false)], args := [d1, d2] }
  | _ => none }
def EstateRoomWrongFalsely : Prop := estateRoomRow.holds Try.pinned (OpenSpec.ofChange estateRoomWrong)

/-- 'copyholdlaw.EstateApart': WHATEVER THE INPUT: true; the input reads as it did. -/
def estateApartSpec : ChangeSpec := { name := "estateApart", fn := fun _ => fun
  | [d1, d2] => { results := [.lit (.bool true)], args := [d1, d2] }
  | _ => none }
def estateApartRow : OpenClaim := { program := "ytocllfbfogcbgaa", sum := "5f358e4621d733e2450458429e417ed36a4ab16e11afdb3ed4a6ce8c806e3817", func := "copyhold/copyholdlaw.EstateApart", spec := "estateApart", apart := false }
def EstateApartSaid : Prop := estateApartRow.holds Try.pinned (OpenSpec.ofChange estateApartSpec)

/-- ITS FALSE NEIGHBOUR: 'it returns false'. Refute it at one input. -/
def estateApartWrong : ChangeSpec := { name := "estateApart", fn := fun _ => fun
  | [d1, d2] => { results := [.lit (.bool false)], args := [d1, d2] }
  | _ => none }
def EstateApartWrongFalsely : Prop := estateApartRow.holds Try.pinned (OpenSpec.ofChange estateApartWrong)

/-- 'copyholdlaw.HeapDoes': WHATEVER THE INPUT: true; the input reads as it did. -/
def heapDoesSpec : ChangeSpec := { name := "heapDoes", fn := fun _ => fun
  | [d1, d2, d3] => { results := [.lit (.bool true)], args := [d1, d2, d3] }
  | _ => none }
def heapDoesRow : OpenClaim := { program := "ytocllfbfogcbgaa", sum := "5f358e4621d733e2450458429e417ed36a4ab16e11afdb3ed4a6ce8c806e3817", func := "copyhold/copyholdlaw.HeapDoes", spec := "heapDoes", apart := false }
def HeapDoesSaid : Prop := heapDoesRow.holds Try.pinned (OpenSpec.ofChange heapDoesSpec)

/-- ITS FALSE NEIGHBOUR: 'it returns false'. Refute it at one input. -/
def heapDoesWrong : ChangeSpec := { name := "heapDoes", fn := fun _ => fun
  | [d1, d2, d3] => { results := [.lit (.bool false)], args := [d1, d2, d3] }
  | _ => none }
def HeapDoesWrongFalsely : Prop := heapDoesRow.holds Try.pinned (OpenSpec.ofChange heapDoesWrong)

/-- 'copyholdlaw.HeapApart': WHATEVER THE INPUT: true; the input reads as it did. -/
def heapApartSpec : ChangeSpec := { name := "heapApart", fn := fun _ => fun
  | [d1, d2, d3, d4, d5] => { results := [.lit (.bool true)], args := [d1, d2, d3, d4, d5] }
  | _ => none }
def heapApartRow : OpenClaim := { program := "ytocllfbfogcbgaa", sum := "5f358e4621d733e2450458429e417ed36a4ab16e11afdb3ed4a6ce8c806e3817", func := "copyhold/copyholdlaw.HeapApart", spec := "heapApart", apart := false }
def HeapApartSaid : Prop := heapApartRow.holds Try.pinned (OpenSpec.ofChange heapApartSpec)

/-- ITS FALSE NEIGHBOUR: 'it returns false'. Refute it at one input. -/
def heapApartWrong : ChangeSpec := { name := "heapApart", fn := fun _ => fun
  | [d1, d2, d3, d4, d5] => { results := [.lit (.bool false)], args := [d1, d2, d3, d4, d5] }
  | _ => none }
def HeapApartWrongFalsely : Prop := heapApartRow.holds Try.pinned (OpenSpec.ofChange heapApartWrong)

/-- 'copyholdlaw.HeapGone': WHATEVER THE INPUT: true; the input reads as it did. -/
def heapGoneSpec : ChangeSpec := { name := "heapGone", fn := fun _ => fun
  | [d1, d2, d3] => { results := [.lit (.bool true)], args := [d1, d2, d3] }
  | _ => none }
def heapGoneRow : OpenClaim := { program := "ytocllfbfogcbgaa", sum := "5f358e4621d733e2450458429e417ed36a4ab16e11afdb3ed4a6ce8c806e3817", func := "copyhold/copyholdlaw.HeapGone", spec := "heapGone", apart := false }
def HeapGoneSaid : Prop := heapGoneRow.holds Try.pinned (OpenSpec.ofChange heapGoneSpec)

/-- ITS FALSE NEIGHBOUR: 'it returns false'. Refute it at one input. -/
def heapGoneWrong : ChangeSpec := { name := "heapGone", fn := fun _ => fun
  | [d1, d2, d3] => { results := [.lit (.bool false)], args := [d1, d2, d3] }
  | _ => none }
def HeapGoneWrongFalsely : Prop := heapGoneRow.holds Try.pinned (OpenSpec.ofChange heapGoneWrong)

/-- 'copyholdlaw.EstateDoes': WHATEVER THE INPUT: true; the input reads as it did. -/
def estateDoesSpec : ChangeSpec := { name := "estateDoes", fn := fun _ => fun
  | [d1, d2] => { results := [.lit (.bool true)], args := [d1, d2] }
  | _ => none }
def estateDoesRow : OpenClaim := { program := "ytocllfbfogcbgaa", sum := "5f358e4621d733e2450458429e417ed36a4ab16e11afdb3ed4a6ce8c806e3817", func := "copyhold/copyholdlaw.EstateDoes", spec := "estateDoes", apart := false }
def EstateDoesSaid : Prop := estateDoesRow.holds Try.pinned (OpenSpec.ofChange estateDoesSpec)

/-- ITS FALSE NEIGHBOUR: 'it returns false'. Refute it at one input. -/
def estateDoesWrong : ChangeSpec := { name := "estateDoes", fn := fun _ => fun
  | [d1, d2] => { results := [.lit (.bool false)], args := [d1, d2] }
  | _ => none }
def EstateDoesWrongFalsely : Prop := estateDoesRow.holds Try.pinned (OpenSpec.ofChange estateDoesWrong)

/- THE SECOND FORM. 'bulk': how many values and letters a reading holds, each counted each time it is reached (what is shared counts as often as it is met; a slice's spare places count too). A statement '..UptoSaid' is the law's where the arguments, and the package variables that the reading takes, are together of bulk at most 1048576: NARROWER than '..Said'. Prove '..Said' where nothing that the law and all that it calls make is longer than what came in: it says more and counts as full. Else prove '..UptoSaid'. A law counts once. -/
mutual
def uptoBulk {H : Type} : DataW H → Nat
  | .lit (.string bytes) => bytes.length + 1
  | .lit _ => 1
  | .nil => 1
  | .ptr d => uptoBulk d + 1
  | .slice elems spare => uptoBulkAll elems + uptoBulkAll spare + 1
  | .agg parts => uptoBulkAll parts + 1
  | .iface _ d => uptoBulk d + 1
  | .map entries => uptoBulkEntries entries + 1
  | .held _ => 1
def uptoBulkAll {H : Type} : List (DataW H) → Nat
  | [] => 0
  | d :: r => uptoBulk d + uptoBulkAll r
def uptoBulkEntries {H : Type} : List (Lit × DataW H) → Nat
  | [] => 0
  | x :: r => uptoBulkEntry x + uptoBulkEntries r
def uptoBulkEntry {H : Type} : Lit × DataW H → Nat
  | (.string bytes, d) => bytes.length + uptoBulk d + 1
  | (_, d) => uptoBulk d + 1
 end
def uptoSmall : (H : Type) → List (DataW H) → Bool := fun _ ds => decide (uptoBulkAll ds ≤ 1048576)
def OpenSpec.upto (s : _root_.Go.ChangeSpec) : _root_.Go.OpenSpec := { _root_.Go.OpenSpec.ofChange s with cond := some uptoSmall }

/-- 'copyholdlaw.ArithOps', WHERE WHAT IT READS IS OF BULK AT MOST 1048576: true; the input reads as it did. -/
def arithOpsUptoRow : OpenClaim := { program := "ytocllfbfogcbgaa", sum := "5f358e4621d733e2450458429e417ed36a4ab16e11afdb3ed4a6ce8c806e3817", func := "copyhold/copyholdlaw.ArithOps", spec := "arithOps", apart := false, narrowed := true }
def ArithOpsUptoSaid : Prop := arithOpsUptoRow.holds Try.pinned (OpenSpec.upto arithOpsSpec)

/-- 'copyholdlaw.ArithParts', WHERE WHAT IT READS IS OF BULK AT MOST 1048576: true; the input reads as it did. -/
def arithPartsUptoRow : OpenClaim := { program := "ytocllfbfogcbgaa", sum := "5f358e4621d733e2450458429e417ed36a4ab16e11afdb3ed4a6ce8c806e3817", func := "copyhold/copyholdlaw.ArithParts", spec := "arithParts", apart := false, narrowed := true }
def ArithPartsUptoSaid : Prop := arithPartsUptoRow.holds Try.pinned (OpenSpec.upto arithPartsSpec)

/-- 'copyholdlaw.HeldDoes', WHERE WHAT IT READS IS OF BULK AT MOST 1048576: true; the input reads as it did. -/
def heldDoesUptoRow : OpenClaim := { program := "ytocllfbfogcbgaa", sum := "5f358e4621d733e2450458429e417ed36a4ab16e11afdb3ed4a6ce8c806e3817", func := "copyhold/copyholdlaw.HeldDoes", spec := "heldDoes", apart := false, narrowed := true }
def HeldDoesUptoSaid : Prop := heldDoesUptoRow.holds Try.pinned (OpenSpec.upto heldDoesSpec)

/-- 'copyholdlaw.PoolDoes', WHERE WHAT IT READS IS OF BULK AT MOST 1048576: true; the input reads as it did. -/
def poolDoesUptoRow : OpenClaim := { program := "ytocllfbfogcbgaa", sum := "5f358e4621d733e2450458429e417ed36a4ab16e11afdb3ed4a6ce8c806e3817", func := "copyhold/copyholdlaw.PoolDoes", spec := "poolDoes", apart := false, narrowed := true }
def PoolDoesUptoSaid : Prop := poolDoesUptoRow.holds Try.pinned (OpenSpec.upto poolDoesSpec)

/-- 'copyholdlaw.PoolOnce', WHERE WHAT IT READS IS OF BULK AT MOST 1048576: true; the input reads as it did. -/
def poolOnceUptoRow : OpenClaim := { program := "ytocllfbfogcbgaa", sum := "5f358e4621d733e2450458429e417ed36a4ab16e11afdb3ed4a6ce8c806e3817", func := "copyhold/copyholdlaw.PoolOnce", spec := "poolOnce", apart := false, narrowed := true }
def PoolOnceUptoSaid : Prop := poolOnceUptoRow.holds Try.pinned (OpenSpec.upto poolOnceSpec)

/-- 'copyholdlaw.EstateRoom', WHERE WHAT IT READS IS OF BULK AT MOST 1048576: true; the input reads as it did. -/
def estateRoomUptoRow : OpenClaim := { program := "ytocllfbfogcbgaa", sum := "5f358e4621d733e2450458429e417ed36a4ab16e11afdb3ed4a6ce8c806e3817", func := "copyhold/copyholdlaw.EstateRoom", spec := "estateRoom", apart := false, narrowed := true }
def EstateRoomUptoSaid : Prop := estateRoomUptoRow.holds Try.pinned (OpenSpec.upto estateRoomSpec)

/-- 'copyholdlaw.EstateApart', WHERE WHAT IT READS IS OF BULK AT MOST 1048576: true; the input reads as it did. -/
def estateApartUptoRow : OpenClaim := { program := "ytocllfbfogcbgaa", sum := "5f358e4621d733e2450458429e417ed36a4ab16e11afdb3ed4a6ce8c806e3817", func := "copyhold/copyholdlaw.EstateApart", spec := "estateApart", apart := false, narrowed := true }
def EstateApartUptoSaid : Prop := estateApartUptoRow.holds Try.pinned (OpenSpec.upto estateApartSpec)

/-- 'copyholdlaw.HeapDoes', WHERE WHAT IT READS IS OF BULK AT MOST 1048576: true; the input reads as it did. -/
def heapDoesUptoRow : OpenClaim := { program := "ytocllfbfogcbgaa", sum := "5f358e4621d733e2450458429e417ed36a4ab16e11afdb3ed4a6ce8c806e3817", func := "copyhold/copyholdlaw.HeapDoes", spec := "heapDoes", apart := false, narrowed := true }
def HeapDoesUptoSaid : Prop := heapDoesUptoRow.holds Try.pinned (OpenSpec.upto heapDoesSpec)

/-- 'copyholdlaw.HeapApart', WHERE WHAT IT READS IS OF BULK AT MOST 1048576: true; the input reads as it did. -/
def heapApartUptoRow : OpenClaim := { program := "ytocllfbfogcbgaa", sum := "5f358e4621d733e2450458429e417ed36a4ab16e11afdb3ed4a6ce8c806e3817", func := "copyhold/copyholdlaw.HeapApart", spec := "heapApart", apart := false, narrowed := true }
def HeapApartUptoSaid : Prop := heapApartUptoRow.holds Try.pinned (OpenSpec.upto heapApartSpec)

/-- 'copyholdlaw.HeapGone', WHERE WHAT IT READS IS OF BULK AT MOST 1048576: true; the input reads as it did. -/
def heapGoneUptoRow : OpenClaim := { program := "ytocllfbfogcbgaa", sum := "5f358e4621d733e2450458429e417ed36a4ab16e11afdb3ed4a6ce8c806e3817", func := "copyhold/copyholdlaw.HeapGone", spec := "heapGone", apart := false, narrowed := true }
def HeapGoneUptoSaid : Prop := heapGoneUptoRow.holds Try.pinned (OpenSpec.upto heapGoneSpec)

/-- 'copyholdlaw.EstateDoes', WHERE WHAT IT READS IS OF BULK AT MOST 1048576: true; the input reads as it did. -/
def estateDoesUptoRow : OpenClaim := { program := "ytocllfbfogcbgaa", sum := "5f358e4621d733e2450458429e417ed36a4ab16e11afdb3ed4a6ce8c806e3817", func := "copyhold/copyholdlaw.EstateDoes", spec := "estateDoes", apart := false, narrowed := true }
def EstateDoesUptoSaid : Prop := estateDoesUptoRow.holds Try.pinned (OpenSpec.upto estateDoesSpec)

end Rows
end Go.Proofs.Ytocllfbfogcbgaa
