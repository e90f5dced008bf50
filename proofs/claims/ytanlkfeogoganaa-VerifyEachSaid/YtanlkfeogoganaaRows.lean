/-
  NARROWER THAN 'FOR EVERY INPUT', by the rows' own cells (each row's printed sentence says how): CodeForms: loops · CodeDoes: loops · CodecBack: loops · CodecTorn: loops · JudgeHeld: loops · JudgeGrows: loops · VerifyEach: loops.
  DERIVED. THE GIVEN ROWS OF THIS SEAT. 7 by the template 'for every input the law returns true; each argument reads behind the call as it read before'; 0 by the template 'total and deterministic' (their statements: YtanlkfeogoganaaTotals.lean).
  GIVEN WITH THE SEED: the statements are not yours to turn. If you find one false, say at which input.
  Laid BY PROGRAM, IN A SANDBOX (cutbox-rows.mjs): the forced cells as the released guide's own fill.sh prints them over the translation 08505386dd25859f… (all of the seat's roots in one cut). By AI agents, Wed Nov 11 2026. No macro, syntax, notation, axiom, sorry.
-/
import Derived.Test.YtanlkfeogoganaaChecked
import GoSem.Claim
import GoSem.ClaimJoined
import GoSem.ClaimMapViews
import Derived.JoinedTies
import Derived.KernelRfl
namespace Go.Proofs.Ytanlkfeogoganaa
/- THE CELL 'sum', in the pinned program and in every row, IS THE sha256 OF THE DUMP (.gsa) THAT YtanlkfeogoganaaProg.lean LOADS. Nothing in Lean hashes anything: it is a label: what it is worth is what the hold of that sum in a sandbox is worth. -/
noncomputable def Try.pinned : Pinned := { name := "ytanlkfeogoganaa", sum := "08505386dd25859f9eca88cbaa09d6282ca3e9a637702f1c2670995b07d326d3", checked := Try.checked }
namespace Rows
def none {H : Type} : Left H := { results := [], args := [] }

/-- 'copyholdlaw.CodeForms': WHATEVER THE INPUT: true; the input reads as it did. -/
def codeFormsSpec : ChangeSpec := { name := "codeForms", fn := fun _ => fun
  | [d1, d2, d3, d4, d5, d6, d7] => { results := [.lit (.bool true)], args := [d1, d2, d3, d4, d5, d6, d7] }
  | _ => none }
def codeFormsRow : OpenClaim := { program := "ytanlkfeogoganaa", sum := "08505386dd25859f9eca88cbaa09d6282ca3e9a637702f1c2670995b07d326d3", func := "copyhold/copyholdlaw.CodeForms", spec := "codeForms", unfollowed := true, recurses := true, loops := true, apart := false }
def CodeFormsSaid : Prop := codeFormsRow.holds Try.pinned (OpenSpec.ofChange codeFormsSpec)

/-- ITS FALSE NEIGHBOUR: 'it returns false'. Refute it at one input. -/
def codeFormsWrong : ChangeSpec := { name := "codeForms", fn := fun _ => fun
  | [d1, d2, d3, d4, d5, d6, d7] => { results := [.lit (.bool false)], args := [d1, d2, d3, d4, d5, d6, d7] }
  | _ => none }
def CodeFormsWrongFalsely : Prop := codeFormsRow.holds Try.pinned (OpenSpec.ofChange codeFormsWrong)

/-- 'copyholdlaw.CodeDoes': WHATEVER THE INPUT: true; the input reads as it did. -/
def codeDoesSpec : ChangeSpec := { name := "codeDoes", fn := fun _ => fun
  | [d1, d2] => { results := [.lit (.bool true)], args := [d1, d2] }
  | _ => none }
def codeDoesRow : OpenClaim := { program := "ytanlkfeogoganaa", sum := "08505386dd25859f9eca88cbaa09d6282ca3e9a637702f1c2670995b07d326d3", func := "copyhold/copyholdlaw.CodeDoes", spec := "codeDoes", unfollowed := true, recurses := true, loops := true, apart := false }
def CodeDoesSaid : Prop := codeDoesRow.holds Try.pinned (OpenSpec.ofChange codeDoesSpec)

/-- ITS FALSE NEIGHBOUR: 'it returns false'. Refute it at one input. -/
def codeDoesWrong : ChangeSpec := { name := "codeDoes", fn := fun _ => fun
  | [d1, d2] => { results := [.lit (.bool false)], args := [d1, d2] }
  | _ => none }
def CodeDoesWrongFalsely : Prop := codeDoesRow.holds Try.pinned (OpenSpec.ofChange codeDoesWrong)

/-- 'copyholdlaw.CodecBack': WHATEVER THE INPUT: true; the input reads as it did. -/
def codecBackSpec : ChangeSpec := { name := "codecBack", fn := fun _ => fun
  | [d1, d2] => { results := [.lit (.bool true)], args := [d1, d2] }
  | _ => none }
def codecBackRow : OpenClaim := { program := "ytanlkfeogoganaa", sum := "08505386dd25859f9eca88cbaa09d6282ca3e9a637702f1c2670995b07d326d3", func := "copyhold/copyholdlaw.CodecBack", spec := "codecBack", unfollowed := true, recurses := true, loops := true, apart := false }
def CodecBackSaid : Prop := codecBackRow.holds Try.pinned (OpenSpec.ofChange codecBackSpec)

/-- ITS FALSE NEIGHBOUR: 'it returns false'. Refute it at one input. -/
def codecBackWrong : ChangeSpec := { name := "codecBack", fn := fun _ => fun
  | [d1, d2] => { results := [.lit (.bool false)], args := [d1, d2] }
  | _ => none }
def CodecBackWrongFalsely : Prop := codecBackRow.holds Try.pinned (OpenSpec.ofChange codecBackWrong)

/-- 'copyholdlaw.CodecTorn': WHATEVER THE INPUT: true; the input reads as it did. -/
def codecTornSpec : ChangeSpec := { name := "codecTorn", fn := fun _ => fun
  | [d1, d2, d3] => { results := [.lit (.bool true)], args := [d1, d2, d3] }
  | _ => none }
def codecTornRow : OpenClaim := { program := "ytanlkfeogoganaa", sum := "08505386dd25859f9eca88cbaa09d6282ca3e9a637702f1c2670995b07d326d3", func := "copyhold/copyholdlaw.CodecTorn", spec := "codecTorn", unfollowed := true, recurses := true, loops := true, apart := false }
def CodecTornSaid : Prop := codecTornRow.holds Try.pinned (OpenSpec.ofChange codecTornSpec)

/-- ITS FALSE NEIGHBOUR: 'it returns false'. Refute it at one input. -/
def codecTornWrong : ChangeSpec := { name := "codecTorn", fn := fun _ => fun
  | [d1, d2, d3] => { results := [.lit (.bool false)], args := [d1, d2, d3] }
  | _ => none }
def CodecTornWrongFalsely : Prop := codecTornRow.holds Try.pinned (OpenSpec.ofChange codecTornWrong)

/-- 'copyholdlaw.JudgeHeld': WHATEVER THE INPUT: true; the input reads as it did. -/
def judgeHeldSpec : ChangeSpec := { name := "judgeHeld", fn := fun _ => fun
  | [d1, d2, d3, d4] => { results := [.lit (.bool true)], args := [d1, d2, d3, d4] }
  | _ => none }
def judgeHeldRow : OpenClaim := { program := "ytanlkfeogoganaa", sum := "08505386dd25859f9eca88cbaa09d6282ca3e9a637702f1c2670995b07d326d3", func := "copyhold/copyholdlaw.JudgeHeld", spec := "judgeHeld", unfollowed := true, recurses := true, loops := true, apart := false }
def JudgeHeldSaid : Prop := judgeHeldRow.holds Try.pinned (OpenSpec.ofChange judgeHeldSpec)

/-- ITS FALSE NEIGHBOUR: 'it returns false'. Refute it at one input. -/
def judgeHeldWrong : ChangeSpec := { name := "judgeHeld", fn := fun _ => fun
  | [d1, d2, d3, d4] => { results := [.lit (.bool false)], args := [d1, d2, d3, d4] }
  | _ => none }
def JudgeHeldWrongFalsely : Prop := judgeHeldRow.holds Try.pinned (OpenSpec.ofChange judgeHeldWrong)

/-- 'copyholdlaw.JudgeGrows': WHATEVER THE INPUT: true; the input reads as it did. -/
def judgeGrowsSpec : ChangeSpec := { name := "judgeGrows", fn := fun _ => fun
  | [d1, d2, d3, d4] => { results := [.lit (.bool true)], args := [d1, d2, d3, d4] }
  | _ => none }
def judgeGrowsRow : OpenClaim := { program := "ytanlkfeogoganaa", sum := "08505386dd25859f9eca88cbaa09d6282ca3e9a637702f1c2670995b07d326d3", func := "copyhold/copyholdlaw.JudgeGrows", spec := "judgeGrows", unfollowed := true, recurses := true, loops := true, apart := false }
def JudgeGrowsSaid : Prop := judgeGrowsRow.holds Try.pinned (OpenSpec.ofChange judgeGrowsSpec)

/-- ITS FALSE NEIGHBOUR: 'it returns false'. Refute it at one input. -/
def judgeGrowsWrong : ChangeSpec := { name := "judgeGrows", fn := fun _ => fun
  | [d1, d2, d3, d4] => { results := [.lit (.bool false)], args := [d1, d2, d3, d4] }
  | _ => none }
def JudgeGrowsWrongFalsely : Prop := judgeGrowsRow.holds Try.pinned (OpenSpec.ofChange judgeGrowsWrong)

/-- 'copyholdlaw.VerifyEach': WHATEVER THE INPUT: true; the input reads as it did. -/
def verifyEachSpec : ChangeSpec := { name := "verifyEach", fn := fun _ => fun
  | [d1, d2, d3] => { results := [.lit (.bool true)], args := [d1, d2, d3] }
  | _ => none }
def verifyEachRow : OpenClaim := { program := "ytanlkfeogoganaa", sum := "08505386dd25859f9eca88cbaa09d6282ca3e9a637702f1c2670995b07d326d3", func := "copyhold/copyholdlaw.VerifyEach", spec := "verifyEach", unfollowed := true, recurses := true, loops := true, apart := false }
def VerifyEachSaid : Prop := verifyEachRow.holds Try.pinned (OpenSpec.ofChange verifyEachSpec)

/-- ITS FALSE NEIGHBOUR: 'it returns false'. Refute it at one input. -/
def verifyEachWrong : ChangeSpec := { name := "verifyEach", fn := fun _ => fun
  | [d1, d2, d3] => { results := [.lit (.bool false)], args := [d1, d2, d3] }
  | _ => none }
def VerifyEachWrongFalsely : Prop := verifyEachRow.holds Try.pinned (OpenSpec.ofChange verifyEachWrong)

/- THE SECOND FORM. 'bulk': how many values and letters a reading holds, each counted each time it is reached (what is shared counts as often as it is met; a slice's spare places count too). A statement '..UptoSaid' is the law's where the arguments, and the package variables that the reading takes, are together of bulk at most 1048576: NARROWER than '..Said'. Prove '..Said' where nothing that the law and all that it calls make is longer than what came in: it says more and counts as full. Else prove '..UptoSaid'. A law counts once. -/
mutual
def uptoBulk {H : Type} : DataW H → Nat
  | .lit (.string bytes) => bytes.length + 1
  | .lit _ => 1
  | .nil => 1
  | .ptr d => uptoBulk d + 1
  | .slice elems spare => uptoBulkAll elems + uptoBulkAll spare + 1
  | .agg parts => uptoBulkAll parts + 1
  | .iface _ d => uptoBulk d + 1
  | .map entries => uptoBulkEntries entries + 1
  | .held _ => 1
def uptoBulkAll {H : Type} : List (DataW H) → Nat
  | [] => 0
  | d :: r => uptoBulk d + uptoBulkAll r
def uptoBulkEntries {H : Type} : List (Lit × DataW H) → Nat
  | [] => 0
  | x :: r => uptoBulkEntry x + uptoBulkEntries r
def uptoBulkEntry {H : Type} : Lit × DataW H → Nat
  | (.string bytes, d) => bytes.length + uptoBulk d + 1
  | (_, d) => uptoBulk d + 1
 end
def uptoSmall : (H : Type) → List (DataW H) → Bool := fun _ ds => decide (uptoBulkAll ds ≤ 1048576)
def OpenSpec.upto (s : _root_.Go.ChangeSpec) : _root_.Go.OpenSpec := { _root_.Go.OpenSpec.ofChange s with cond := some uptoSmall }

/-- 'copyholdlaw.CodeForms', WHERE WHAT IT READS IS OF BULK AT MOST 1048576: true; the input reads as it did. -/
def codeFormsUptoRow : OpenClaim := { program := "ytanlkfeogoganaa", sum := "08505386dd25859f9eca88cbaa09d6282ca3e9a637702f1c2670995b07d326d3", func := "copyhold/copyholdlaw.CodeForms", spec := "codeForms", unfollowed := true, recurses := true, loops := true, apart := false, narrowed := true }
def CodeFormsUptoSaid : Prop := codeFormsUptoRow.holds Try.pinned (OpenSpec.upto codeFormsSpec)

/-- 'copyholdlaw.CodeDoes', WHERE WHAT IT READS IS OF BULK AT MOST 1048576: true; the input reads as it did. -/
def codeDoesUptoRow : OpenClaim := { program := "ytanlkfeogoganaa", sum := "08505386dd25859f9eca88cbaa09d6282ca3e9a637702f1c2670995b07d326d3", func := "copyhold/copyholdlaw.CodeDoes", spec := "codeDoes", unfollowed := true, recurses := true, loops := true, apart := false, narrowed := true }
def CodeDoesUptoSaid : Prop := codeDoesUptoRow.holds Try.pinned (OpenSpec.upto codeDoesSpec)

/-- 'copyholdlaw.CodecBack', WHERE WHAT IT READS IS OF BULK AT MOST 1048576: true; the input reads as it did. -/
def codecBackUptoRow : OpenClaim := { program := "ytanlkfeogoganaa", sum := "08505386dd25859f9eca88cbaa09d6282ca3e9a637702f1c2670995b07d326d3", func := "copyhold/copyholdlaw.CodecBack", spec := "codecBack", unfollowed := true, recurses := true, loops := true, apart := false, narrowed := true }
def CodecBackUptoSaid : Prop := codecBackUptoRow.holds Try.pinned (OpenSpec.upto codecBackSpec)

/-- 'copyholdlaw.CodecTorn', WHERE WHAT IT READS IS OF BULK AT MOST 1048576: true; the input reads as it did. -/
def codecTornUptoRow : OpenClaim := { program := "ytanlkfeogoganaa", sum := "08505386dd25859f9eca88cbaa09d6282ca3e9a637702f1c2670995b07d326d3", func := "copyhold/copyholdlaw.CodecTorn", spec := "codecTorn", unfollowed := true, recurses := true, loops := true, apart := false, narrowed := true }
def CodecTornUptoSaid : Prop := codecTornUptoRow.holds Try.pinned (OpenSpec.upto codecTornSpec)

/-- 'copyholdlaw.JudgeHeld', WHERE WHAT IT READS IS OF BULK AT MOST 1048576: true; the input reads as it did. -/
def judgeHeldUptoRow : OpenClaim := { program := "ytanlkfeogoganaa", sum := "08505386dd25859f9eca88cbaa09d6282ca3e9a637702f1c2670995b07d326d3", func := "copyhold/copyholdlaw.JudgeHeld", spec := "judgeHeld", unfollowed := true, recurses := true, loops := true, apart := false, narrowed := true }
def JudgeHeldUptoSaid : Prop := judgeHeldUptoRow.holds Try.pinned (OpenSpec.upto judgeHeldSpec)

/-- 'copyholdlaw.JudgeGrows', WHERE WHAT IT READS IS OF BULK AT MOST 1048576: true; the input reads as it did. -/
def judgeGrowsUptoRow : OpenClaim := { program := "ytanlkfeogoganaa", sum := "08505386dd25859f9eca88cbaa09d6282ca3e9a637702f1c2670995b07d326d3", func := "copyhold/copyholdlaw.JudgeGrows", spec := "judgeGrows", unfollowed := true, recurses := true, loops := true, apart := false, narrowed := true }
def JudgeGrowsUptoSaid : Prop := judgeGrowsUptoRow.holds Try.pinned (OpenSpec.upto judgeGrowsSpec)

/-- 'copyholdlaw.VerifyEach', WHERE WHAT IT READS IS OF BULK AT MOST 1048576: true; the input reads as it did. -/
def verifyEachUptoRow : OpenClaim := { program := "ytanlkfeogoganaa", sum := "08505386dd25859f9eca88cbaa09d6282ca3e9a637702f1c2670995b07d326d3", func := "copyhold/copyholdlaw.VerifyEach", spec := "verifyEach", unfollowed := true, recurses := true, loops := true, apart := false, narrowed := true }
def VerifyEachUptoSaid : Prop := verifyEachUptoRow.holds Try.pinned (OpenSpec.upto verifyEachSpec)

end Rows
end Go.Proofs.Ytanlkfeogoganaa
