/-
  NARROWER THAN 'FOR EVERY INPUT', by the rows' own cells (each row's printed sentence says how): CodecDoes: loops · JudgeDoes: loops · VerifyChecks: loops.
  DERIVED. THE GIVEN ROWS OF THIS SEAT. 3 by the template 'for every input the law returns true; each argument reads behind the call as it read before'; 0 by the template 'total and deterministic' (their statements: YtanlkfeogoganaaGreatTotals.lean).
  GIVEN WITH THE SEED: the statements are not yours to turn. If you find one false, say at which input.
  Laid BY PROGRAM, IN A SANDBOX (cutbox-rows.mjs): the forced cells as the released guide's own fill.sh prints them over the translation 06dd3cc15e7cabf5… (all of the seat's roots in one cut). By AI agents, Wed Nov 11 2026. No macro, syntax, notation, axiom, sorry.
-/
import Derived.Test.YtanlkfeogoganaaGreatChecked
import GoSem.Claim
import GoSem.ClaimJoined
import GoSem.ClaimMapViews
import Derived.JoinedTies
import Derived.KernelRfl
namespace Go.Proofs.YtanlkfeogoganaaGreat
/- THE CELL 'sum', in the pinned program and in every row, IS THE sha256 OF THE DUMP (.gsa) THAT YtanlkfeogoganaaGreatProg.lean LOADS. Nothing in Lean hashes anything: it is a label: what it is worth is what the hold of that sum in a sandbox is worth. -/
noncomputable def Tryz.pinned : Pinned := { name := "ytanlkfeogoganaagreat", sum := "06dd3cc15e7cabf5c3ca274944896db7b04f072086983bdf3c4109d656834aa4", checked := Tryz.checked }
namespace Rows
def none {H : Type} : Left H := { results := [], args := [] }

/-- 'copyholdlaw.CodecDoes': WHATEVER THE INPUT: true; the input reads as it did. -/
def codecDoesSpec : ChangeSpec := { name := "codecDoes", fn := fun _ => fun
  | [d1, d2] => { results := [.lit (.bool true)], args := [d1, d2] }
  | _ => none }
def codecDoesRow : OpenClaim := { program := "ytanlkfeogoganaagreat", sum := "06dd3cc15e7cabf5c3ca274944896db7b04f072086983bdf3c4109d656834aa4", func := "copyhold/copyholdlaw.CodecDoes", spec := "codecDoes", unfollowed := true, recurses := true, loops := true, apart := false }
def CodecDoesSaid : Prop := codecDoesRow.holds Tryz.pinned (OpenSpec.ofChange codecDoesSpec)

/-- ITS FALSE NEIGHBOUR: 'it returns false'. Refute it at one input. -/
def codecDoesWrong : ChangeSpec := { name := "codecDoes", fn := fun _ => fun
  | [d1, d2] => { results := [.lit (.bool false)], args := [d1, d2] }
  | _ => none }
def CodecDoesWrongFalsely : Prop := codecDoesRow.holds Tryz.pinned (OpenSpec.ofChange codecDoesWrong)

/-- 'copyholdlaw.JudgeDoes': WHATEVER THE INPUT: true; the input reads as it did. -/
def judgeDoesSpec : ChangeSpec := { name := "judgeDoes", fn := fun _ => fun
  | [d1, d2, d3, d4, d5] => { results := [.lit (.bool true)], args := [d1, d2, d3, d4, d5] }
  | _ => none }
def judgeDoesRow : OpenClaim := { program := "ytanlkfeogoganaagreat", sum := "06dd3cc15e7cabf5c3ca274944896db7b04f072086983bdf3c4109d656834aa4", func := "copyhold/copyholdlaw.JudgeDoes", spec := "judgeDoes", unfollowed := true, recurses := true, loops := true, apart := false }
def JudgeDoesSaid : Prop := judgeDoesRow.holds Tryz.pinned (OpenSpec.ofChange judgeDoesSpec)

/-- ITS FALSE NEIGHBOUR: 'it returns false'. Refute it at one input. -/
def judgeDoesWrong : ChangeSpec := { name := "judgeDoes", fn := fun _ => fun
  | [d1, d2, d3, d4, d5] => { results := [.lit (.bool false)], args := [d1, d2, d3, d4, d5] }
  | _ => none }
def JudgeDoesWrongFalsely : Prop := judgeDoesRow.holds Tryz.pinned (OpenSpec.ofChange judgeDoesWrong)

/-- 'copyholdlaw.VerifyChecks': WHATEVER THE INPUT: true; the input reads as it did. -/
def verifyChecksSpec : ChangeSpec := { name := "verifyChecks", fn := fun _ => fun
  | [d] => { results := [.lit (.bool true)], args := [d] }
  | _ => none }
def verifyChecksRow : OpenClaim := { program := "ytanlkfeogoganaagreat", sum := "06dd3cc15e7cabf5c3ca274944896db7b04f072086983bdf3c4109d656834aa4", func := "copyhold/copyholdlaw.VerifyChecks", spec := "verifyChecks", unfollowed := true, recurses := true, loops := true, apart := false }
def VerifyChecksSaid : Prop := verifyChecksRow.holds Tryz.pinned (OpenSpec.ofChange verifyChecksSpec)

/-- ITS FALSE NEIGHBOUR: 'it returns false'. Refute it at one input. -/
def verifyChecksWrong : ChangeSpec := { name := "verifyChecks", fn := fun _ => fun
  | [d] => { results := [.lit (.bool false)], args := [d] }
  | _ => none }
def VerifyChecksWrongFalsely : Prop := verifyChecksRow.holds Tryz.pinned (OpenSpec.ofChange verifyChecksWrong)

/- THE SECOND FORM. 'bulk': how many values and letters a reading holds, each counted each time it is reached (what is shared counts as often as it is met; a slice's spare places count too). A statement '..UptoSaid' is the law's where the arguments, and the package variables that the reading takes, are together of bulk at most 1048576: NARROWER than '..Said'. Prove '..Said' where nothing that the law and all that it calls make is longer than what came in: it says more and counts as full. Else prove '..UptoSaid'. A law counts once. -/
mutual
def uptoBulk {H : Type} : DataW H → Nat
  | .lit (.string bytes) => bytes.length + 1
  | .lit _ => 1
  | .nil => 1
  | .ptr d => uptoBulk d + 1
  | .slice elems spare => uptoBulkAll elems + uptoBulkAll spare + 1
  | .agg parts => uptoBulkAll parts + 1
  | .iface _ d => uptoBulk d + 1
  | .map entries => uptoBulkEntries entries + 1
  | .held _ => 1
def uptoBulkAll {H : Type} : List (DataW H) → Nat
  | [] => 0
  | d :: r => uptoBulk d + uptoBulkAll r
def uptoBulkEntries {H : Type} : List (Lit × DataW H) → Nat
  | [] => 0
  | x :: r => uptoBulkEntry x + uptoBulkEntries r
def uptoBulkEntry {H : Type} : Lit × DataW H → Nat
  | (.string bytes, d) => bytes.length + uptoBulk d + 1
  | (_, d) => uptoBulk d + 1
 end
def uptoSmall : (H : Type) → List (DataW H) → Bool := fun _ ds => decide (uptoBulkAll ds ≤ 1048576)
def OpenSpec.upto (s : _root_.Go.ChangeSpec) : _root_.Go.OpenSpec := { _root_.Go.OpenSpec.ofChange s with cond := some uptoSmall }

/-- 'copyholdlaw.CodecDoes', WHERE WHAT IT READS IS OF BULK AT MOST 1048576: true; the input reads as it did. -/
def codecDoesUptoRow : OpenClaim := { program := "ytanlkfeogoganaagreat", sum := "06dd3cc15e7cabf5c3ca274944896db7b04f072086983bdf3c4109d656834aa4", func := "copyhold/copyholdlaw.CodecDoes", spec := "codecDoes", unfollowed := true, recurses := true, loops := true, apart := false, narrowed := true }
def CodecDoesUptoSaid : Prop := codecDoesUptoRow.holds Tryz.pinned (OpenSpec.upto codecDoesSpec)

/-- 'copyholdlaw.JudgeDoes', WHERE WHAT IT READS IS OF BULK AT MOST 1048576: true; the input reads as it did. -/
def judgeDoesUptoRow : OpenClaim := { program := "ytanlkfeogoganaagreat", sum := "06dd3cc15e7cabf5c3ca274944896db7b04f072086983bdf3c4109d656834aa4", func := "copyhold/copyholdlaw.JudgeDoes", spec := "judgeDoes", unfollowed := true, recurses := true, loops := true, apart := false, narrowed := true }
def JudgeDoesUptoSaid : Prop := judgeDoesUptoRow.holds Tryz.pinned (OpenSpec.upto judgeDoesSpec)

/-- 'copyholdlaw.VerifyChecks', WHERE WHAT IT READS IS OF BULK AT MOST 1048576: true; the input reads as it did. -/
def verifyChecksUptoRow : OpenClaim := { program := "ytanlkfeogoganaagreat", sum := "06dd3cc15e7cabf5c3ca274944896db7b04f072086983bdf3c4109d656834aa4", func := "copyhold/copyholdlaw.VerifyChecks", spec := "verifyChecks", unfollowed := true, recurses := true, loops := true, apart := false, narrowed := true }
def VerifyChecksUptoSaid : Prop := verifyChecksUptoRow.holds Tryz.pinned (OpenSpec.upto verifyChecksSpec)

end Rows
end Go.Proofs.YtanlkfeogoganaaGreat
