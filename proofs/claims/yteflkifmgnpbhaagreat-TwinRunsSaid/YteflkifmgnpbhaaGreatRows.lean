/-
  NARROWER THAN 'FOR EVERY INPUT', by the rows' own cells (each row's printed sentence says how): IdealSafe: loops · IdealRuns: loops · RawRuns: loops · RawAgain: loops · RawPages: loops · TrimMakes: loops · TrimRuns: loops · TwinSame: loops · TwinRuns: loops · TwinLeaves: loops.
  DERIVED. THE GIVEN ROWS OF THIS SEAT. 10 by the template 'for every input the law returns true; each argument reads behind the call as it read before'; 0 by the template 'total and deterministic' (their statements: YteflkifmgnpbhaaGreatTotals.lean).
  GIVEN WITH THE SEED: the statements are not yours to turn. If you find one false, say at which input.
  Laid BY PROGRAM, IN A SANDBOX (cutbox-rows.mjs): the forced cells as the released guide's own fill.sh prints them over the translation 48be3511d52243f7… (all of the seat's roots in one cut). By AI agents, Wed Nov 11 2026. No macro, syntax, notation, axiom, sorry.
-/
import Derived.Test.YteflkifmgnpbhaaGreatChecked
import GoSem.Claim
import GoSem.ClaimJoined
import GoSem.ClaimMapViews
import Derived.JoinedTies
import Derived.KernelRfl
namespace Go.Proofs.YteflkifmgnpbhaaGreat
/- THE CELL 'sum', in the pinned program and in every row, IS THE sha256 OF THE DUMP (.gsa) THAT YteflkifmgnpbhaaGreatProg.lean LOADS. Nothing in Lean hashes anything: it is a label: what it is worth is what the hold of that sum in a sandbox is worth. -/
noncomputable def Tryz.pinned : Pinned := { name := "yteflkifmgnpbhaagreat", sum := "48be3511d52243f799563eee571073e9ed630123f67e0400919c665b0ca6997c", checked := Tryz.checked }
namespace Rows
def none {H : Type} : Left H := { results := [], args := [] }

/-- 'copyholdlaw.IdealSafe': WHATEVER THE INPUT: true; the input reads as it did. -/
def idealSafeSpec : ChangeSpec := { name := "idealSafe", fn := fun _ => fun
  | [d1, d2, d3, d4] => { results := [.lit (.bool true)], args := [d1, d2, d3, d4] }
  | _ => none }
def idealSafeRow : OpenClaim := { program := "yteflkifmgnpbhaagreat", sum := "48be3511d52243f799563eee571073e9ed630123f67e0400919c665b0ca6997c", func := "copyhold/copyholdlaw.IdealSafe", spec := "idealSafe", unfollowed := true, recurses := true, loops := true, apart := false }
def IdealSafeSaid : Prop := idealSafeRow.holds Tryz.pinned (OpenSpec.ofChange idealSafeSpec)

/-- ITS FALSE NEIGHBOUR: 'it returns false'. Refute it at one input. -/
def idealSafeWrong : ChangeSpec := { name := "idealSafe", fn := fun _ => fun
  | [d1, d2, d3, d4] => { results := [.lit (.bool false)], args := [d1, d2, d3, d4] }
  | _ => none }
def IdealSafeWrongFalsely : Prop := idealSafeRow.holds Tryz.pinned (OpenSpec.ofChange idealSafeWrong)

/-- 'copyholdlaw.IdealRuns': WHATEVER THE INPUT: true; the input reads as it did. -/
def idealRunsSpec : ChangeSpec := { name := "idealRuns", fn := fun _ => fun
  | [d1, d2, d3, d4] => { results := [.lit (.bool true)], args := [d1, d2, d3, d4] }
  | _ => none }
def idealRunsRow : OpenClaim := { program := "yteflkifmgnpbhaagreat", sum := "48be3511d52243f799563eee571073e9ed630123f67e0400919c665b0ca6997c", func := "copyhold/copyholdlaw.IdealRuns", spec := "idealRuns", unfollowed := true, recurses := true, loops := true, apart := false }
def IdealRunsSaid : Prop := idealRunsRow.holds Tryz.pinned (OpenSpec.ofChange idealRunsSpec)

/-- ITS FALSE NEIGHBOUR: 'it returns false'. Refute it at one input. -/
def idealRunsWrong : ChangeSpec := { name := "idealRuns", fn := fun _ => fun
  | [d1, d2, d3, d4] => { results := [.lit (.bool false)], args := [d1, d2, d3, d4] }
  | _ => none }
def IdealRunsWrongFalsely : Prop := idealRunsRow.holds Tryz.pinned (OpenSpec.ofChange idealRunsWrong)

/-- 'copyholdlaw.RawRuns': WHATEVER THE INPUT: true; the input reads as it did. -/
def rawRunsSpec : ChangeSpec := { name := "rawRuns", fn := fun _ => fun
  | [d1, d2, d3, d4] => { results := [.lit (.bool true)], args := [d1, d2, d3, d4] }
  | _ => none }
def rawRunsRow : OpenClaim := { program := "yteflkifmgnpbhaagreat", sum := "48be3511d52243f799563eee571073e9ed630123f67e0400919c665b0ca6997c", func := "copyhold/copyholdlaw.RawRuns", spec := "rawRuns", unfollowed := true, recurses := true, loops := true, apart := false }
def RawRunsSaid : Prop := rawRunsRow.holds Tryz.pinned (OpenSpec.ofChange rawRunsSpec)

/-- ITS FALSE NEIGHBOUR: 'it returns false'. Refute it at one input. -/
def rawRunsWrong : ChangeSpec := { name := "rawRuns", fn := fun _ => fun
  | [d1, d2, d3, d4] => { results := [.lit (.bool false)], args := [d1, d2, d3, d4] }
  | _ => none }
def RawRunsWrongFalsely : Prop := rawRunsRow.holds Tryz.pinned (OpenSpec.ofChange rawRunsWrong)

/-- 'copyholdlaw.RawAgain': WHATEVER THE INPUT: true; the input reads as it did. -/
def rawAgainSpec : ChangeSpec := { name := "rawAgain", fn := fun _ => fun
  | [d1, d2, d3, d4, d5] => { results := [.lit (.bool true)], args := [d1, d2, d3, d4, d5] }
  | _ => none }
def rawAgainRow : OpenClaim := { program := "yteflkifmgnpbhaagreat", sum := "48be3511d52243f799563eee571073e9ed630123f67e0400919c665b0ca6997c", func := "copyhold/copyholdlaw.RawAgain", spec := "rawAgain", unfollowed := true, recurses := true, loops := true, apart := false }
def RawAgainSaid : Prop := rawAgainRow.holds Tryz.pinned (OpenSpec.ofChange rawAgainSpec)

/-- ITS FALSE NEIGHBOUR: 'it returns false'. Refute it at one input. -/
def rawAgainWrong : ChangeSpec := { name := "rawAgain", fn := fun _ => fun
  | [d1, d2, d3, d4, d5] => { results := [.lit (.bool false)], args := [d1, d2, d3, d4, d5] }
  | _ => none }
def RawAgainWrongFalsely : Prop := rawAgainRow.holds Tryz.pinned (OpenSpec.ofChange rawAgainWrong)

/-- 'copyholdlaw.RawPages': WHATEVER THE INPUT: true; the input reads as it did. -/
def rawPagesSpec : ChangeSpec := { name := "rawPages", fn := fun _ => fun
  | [d1, d2, d3, d4] => { results := [.lit (.bool true)], args := [d1, d2, d3, d4] }
  | _ => none }
def rawPagesRow : OpenClaim := { program := "yteflkifmgnpbhaagreat", sum := "48be3511d52243f799563eee571073e9ed630123f67e0400919c665b0ca6997c", func := "copyhold/copyholdlaw.RawPages", spec := "rawPages", unfollowed := true, recurses := true, loops := true, apart := false }
def RawPagesSaid : Prop := rawPagesRow.holds Tryz.pinned (OpenSpec.ofChange rawPagesSpec)

/-- ITS FALSE NEIGHBOUR: 'it returns false'. Refute it at one input. -/
def rawPagesWrong : ChangeSpec := { name := "rawPages", fn := fun _ => fun
  | [d1, d2, d3, d4] => { results := [.lit (.bool false)], args := [d1, d2, d3, d4] }
  | _ => none }
def RawPagesWrongFalsely : Prop := rawPagesRow.holds Tryz.pinned (OpenSpec.ofChange rawPagesWrong)

/-- 'copyholdlaw.TrimMakes': WHATEVER THE INPUT: true; the input reads as it did. -/
def trimMakesSpec : ChangeSpec := { name := "trimMakes", fn := fun _ => fun
  | [d] => { results := [.lit (.bool true)], args := [d] }
  | _ => none }
def trimMakesRow : OpenClaim := { program := "yteflkifmgnpbhaagreat", sum := "48be3511d52243f799563eee571073e9ed630123f67e0400919c665b0ca6997c", func := "copyhold/copyholdlaw.TrimMakes", spec := "trimMakes", unfollowed := true, recurses := true, loops := true, apart := false }
def TrimMakesSaid : Prop := trimMakesRow.holds Tryz.pinned (OpenSpec.ofChange trimMakesSpec)

/-- ITS FALSE NEIGHBOUR: 'it returns false'. Refute it at one input. -/
def trimMakesWrong : ChangeSpec := { name := "trimMakes", fn := fun _ => fun
  | [d] => { results := [.lit (.bool false)], args := [d] }
  | _ => none }
def TrimMakesWrongFalsely : Prop := trimMakesRow.holds Tryz.pinned (OpenSpec.ofChange trimMakesWrong)

/-- 'copyholdlaw.TrimRuns': WHATEVER THE INPUT: true; the input reads as it did. -/
def trimRunsSpec : ChangeSpec := { name := "trimRuns", fn := fun _ => fun
  | [d1, d2, d3, d4] => { results := [.lit (.bool true)], args := [d1, d2, d3, d4] }
  | _ => none }
def trimRunsRow : OpenClaim := { program := "yteflkifmgnpbhaagreat", sum := "48be3511d52243f799563eee571073e9ed630123f67e0400919c665b0ca6997c", func := "copyhold/copyholdlaw.TrimRuns", spec := "trimRuns", unfollowed := true, recurses := true, loops := true, apart := false }
def TrimRunsSaid : Prop := trimRunsRow.holds Tryz.pinned (OpenSpec.ofChange trimRunsSpec)

/-- ITS FALSE NEIGHBOUR: 'it returns false'. Refute it at one input. -/
def trimRunsWrong : ChangeSpec := { name := "trimRuns", fn := fun _ => fun
  | [d1, d2, d3, d4] => { results := [.lit (.bool false)], args := [d1, d2, d3, d4] }
  | _ => none }
def TrimRunsWrongFalsely : Prop := trimRunsRow.holds Tryz.pinned (OpenSpec.ofChange trimRunsWrong)

/-- 'copyholdlaw.TwinSame': WHATEVER THE INPUT: true; the input reads as it did. -/
def twinSameSpec : ChangeSpec := { name := "twinSame", fn := fun _ => fun
  | [d1, d2, d3, d4] => { results := [.lit (.bool true)], args := [d1, d2, d3, d4] }
  | _ => none }
def twinSameRow : OpenClaim := { program := "yteflkifmgnpbhaagreat", sum := "48be3511d52243f799563eee571073e9ed630123f67e0400919c665b0ca6997c", func := "copyhold/copyholdlaw.TwinSame", spec := "twinSame", unfollowed := true, recurses := true, loops := true, apart := false }
def TwinSameSaid : Prop := twinSameRow.holds Tryz.pinned (OpenSpec.ofChange twinSameSpec)

/-- ITS FALSE NEIGHBOUR: 'it returns false'. Refute it at one input. -/
def twinSameWrong : ChangeSpec := { name := "twinSame", fn := fun _ => fun
  | [d1, d2, d3, d4] => { results := [.lit (.bool false)], args := [d1, d2, d3, d4] }
  | _ => none }
def TwinSameWrongFalsely : Prop := twinSameRow.holds Tryz.pinned (OpenSpec.ofChange twinSameWrong)

/-- 'copyholdlaw.TwinRuns': WHATEVER THE INPUT: true; the input reads as it did. -/
def twinRunsSpec : ChangeSpec := { name := "twinRuns", fn := fun _ => fun
  | [d1, d2, d3, d4, d5] => { results := [.lit (.bool true)], args := [d1, d2, d3, d4, d5] }
  | _ => none }
def twinRunsRow : OpenClaim := { program := "yteflkifmgnpbhaagreat", sum := "48be3511d52243f799563eee571073e9ed630123f67e0400919c665b0ca6997c", func := "copyhold/copyholdlaw.TwinRuns", spec := "twinRuns", unfollowed := true, recurses := true, loops := true, apart := false }
def TwinRunsSaid : Prop := twinRunsRow.holds Tryz.pinned (OpenSpec.ofChange twinRunsSpec)

/-- ITS FALSE NEIGHBOUR: 'it returns false'. Refute it at one input. -/
def twinRunsWrong : ChangeSpec := { name := "twinRuns", fn := fun _ => fun
  | [d1, d2, d3, d4, d5] => { results := [.lit (.bool false)], args := [d1, d2, d3, d4, d5] }
  | _ => none }
def TwinRunsWrongFalsely : Prop := twinRunsRow.holds Tryz.pinned (OpenSpec.ofChange twinRunsWrong)

/-- 'copyholdlaw.TwinLeaves': WHATEVER THE INPUT: true; the input reads as it did. -/
def twinLeavesSpec : ChangeSpec := { name := "twinLeaves", fn := fun _ => fun
  | [d1, d2, d3, d4] => { results := [.lit (.bool true)], args := [d1, d2, d3, d4] }
  | _ => none }
def twinLeavesRow : OpenClaim := { program := "yteflkifmgnpbhaagreat", sum := "48be3511d52243f799563eee571073e9ed630123f67e0400919c665b0ca6997c", func := "copyhold/copyholdlaw.TwinLeaves", spec := "twinLeaves", unfollowed := true, recurses := true, loops := true, apart := false }
def TwinLeavesSaid : Prop := twinLeavesRow.holds Tryz.pinned (OpenSpec.ofChange twinLeavesSpec)

/-- ITS FALSE NEIGHBOUR: 'it returns false'. Refute it at one input. -/
def twinLeavesWrong : ChangeSpec := { name := "twinLeaves", fn := fun _ => fun
  | [d1, d2, d3, d4] => { results := [.lit (.bool false)], args := [d1, d2, d3, d4] }
  | _ => none }
def TwinLeavesWrongFalsely : Prop := twinLeavesRow.holds Tryz.pinned (OpenSpec.ofChange twinLeavesWrong)

/- THE SECOND FORM. 'bulk': how many values and letters a reading holds, each counted each time it is reached (what is shared counts as often as it is met; a slice's spare places count too). A statement '..UptoSaid' is the law's where the arguments, and the package variables that the reading takes, are together of bulk at most 1048576: NARROWER than '..Said'. Prove '..Said' where nothing that the law and all that it calls make is longer than what came in: it says more and counts as full. Else prove '..UptoSaid'. A law counts once. -/
mutual
def uptoBulk {H : Type} : DataW H → Nat
  | .lit (.string bytes) => bytes.length + 1
  | .lit _ => 1
  | .nil => 1
  | .ptr d => uptoBulk d + 1
  | .slice elems spare => uptoBulkAll elems + uptoBulkAll spare + 1
  | .agg parts => uptoBulkAll parts + 1
  | .iface _ d => uptoBulk d + 1
  | .map entries => uptoBulkEntries entries + 1
  | .held _ => 1
def uptoBulkAll {H : Type} : List (DataW H) → Nat
  | [] => 0
  | d :: r => uptoBulk d + uptoBulkAll r
def uptoBulkEntries {H : Type} : List (Lit × DataW H) → Nat
  | [] => 0
  | x :: r => uptoBulkEntry x + uptoBulkEntries r
def uptoBulkEntry {H : Type} : Lit × DataW H → Nat
  | (.string bytes, d) => bytes.length + uptoBulk d + 1
  | (_, d) => uptoBulk d + 1
 end
def uptoSmall : (H : Type) → List (DataW H) → Bool := fun _ ds => decide (uptoBulkAll ds ≤ 1048576)
def OpenSpec.upto (s : _root_.Go.ChangeSpec) : _root_.Go.OpenSpec := { _root_.Go.OpenSpec.ofChange s with cond := some uptoSmall }

/-- 'copyholdlaw.IdealSafe', WHERE WHAT IT READS IS OF BULK AT MOST 1048576: true; the input reads as it did. -/
def idealSafeUptoRow : OpenClaim := { program := "yteflkifmgnpbhaagreat", sum := "48be3511d52243f799563eee571073e9ed630123f67e0400919c665b0ca6997c", func := "copyhold/copyholdlaw.IdealSafe", spec := "idealSafe", unfollowed := true, recurses := true, loops := true, apart := false, narrowed := true }
def IdealSafeUptoSaid : Prop := idealSafeUptoRow.holds Tryz.pinned (OpenSpec.upto idealSafeSpec)

/-- 'copyholdlaw.IdealRuns', WHERE WHAT IT READS IS OF BULK AT MOST 1048576: true; the input reads as it did. -/
def idealRunsUptoRow : OpenClaim := { program := "yteflkifmgnpbhaagreat", sum := "48be3511d52243f799563eee571073e9ed630123f67e0400919c665b0ca6997c", func := "copyhold/copyholdlaw.IdealRuns", spec := "idealRuns", unfollowed := true, recurses := true, loops := true, apart := false, narrowed := true }
def IdealRunsUptoSaid : Prop := idealRunsUptoRow.holds Tryz.pinned (OpenSpec.upto idealRunsSpec)

/-- 'copyholdlaw.RawRuns', WHERE WHAT IT READS IS OF BULK AT MOST 1048576: true; the input reads as it did. -/
def rawRunsUptoRow : OpenClaim := { program := "yteflkifmgnpbhaagreat", sum := "48be3511d52243f799563eee571073e9ed630123f67e0400919c665b0ca6997c", func := "copyhold/copyholdlaw.RawRuns", spec := "rawRuns", unfollowed := true, recurses := true, loops := true, apart := false, narrowed := true }
def RawRunsUptoSaid : Prop := rawRunsUptoRow.holds Tryz.pinned (OpenSpec.upto rawRunsSpec)

/-- 'copyholdlaw.RawAgain', WHERE WHAT IT READS IS OF BULK AT MOST 1048576: true; the input reads as it did. -/
def rawAgainUptoRow : OpenClaim := { program := "yteflkifmgnpbhaagreat", sum := "48be3511d52243f799563eee571073e9ed630123f67e0400919c665b0ca6997c", func := "copyhold/copyholdlaw.RawAgain", spec := "rawAgain", unfollowed := true, recurses := true, loops := true, apart := false, narrowed := true }
def RawAgainUptoSaid : Prop := rawAgainUptoRow.holds Tryz.pinned (OpenSpec.upto rawAgainSpec)

/-- 'copyholdlaw.RawPages', WHERE WHAT IT READS IS OF BULK AT MOST 1048576: true; the input reads as it did. -/
def rawPagesUptoRow : OpenClaim := { program := "yteflkifmgnpbhaagreat", sum := "48be3511d52243f799563eee571073e9ed630123f67e0400919c665b0ca6997c", func := "copyhold/copyholdlaw.RawPages", spec := "rawPages", unfollowed := true, recurses := true, loops := true, apart := false, narrowed := true }
def RawPagesUptoSaid : Prop := rawPagesUptoRow.holds Tryz.pinned (OpenSpec.upto rawPagesSpec)

/-- 'copyholdlaw.TrimMakes', WHERE WHAT IT READS IS OF BULK AT MOST 1048576: true; the input reads as it did. -/
def trimMakesUptoRow : OpenClaim := { program := "yteflkifmgnpbhaagreat", sum := "48be3511d52243f799563eee571073e9ed630123f67e0400919c665b0ca6997c", func := "copyhold/copyholdlaw.TrimMakes", spec := "trimMakes", unfollowed := true, recurses := true, loops := true, apart := false, narrowed := true }
def TrimMakesUptoSaid : Prop := trimMakesUptoRow.holds Tryz.pinned (OpenSpec.upto trimMakesSpec)

/-- 'copyholdlaw.TrimRuns', WHERE WHAT IT READS IS OF BULK AT MOST 1048576: true; the input reads as it did. -/
def trimRunsUptoRow : OpenClaim := { program := "yteflkifmgnpbhaagreat", sum := "48be3511d52243f799563eee571073e9ed630123f67e0400919c665b0ca6997c", func := "copyhold/copyholdlaw.TrimRuns", spec := "trimRuns", unfollowed := true, recurses := true, loops := true, apart := false, narrowed := true }
def TrimRunsUptoSaid : Prop := trimRunsUptoRow.holds Tryz.pinned (OpenSpec.upto trimRunsSpec)

/-- 'copyholdlaw.TwinSame', WHERE WHAT IT READS IS OF BULK AT MOST 1048576: true; the input reads as it did. -/
def twinSameUptoRow : OpenClaim := { program := "yteflkifmgnpbhaagreat", sum := "48be3511d52243f799563eee571073e9ed630123f67e0400919c665b0ca6997c", func := "copyhold/copyholdlaw.TwinSame", spec := "twinSame", unfollowed := true, recurses := true, loops := true, apart := false, narrowed := true }
def TwinSameUptoSaid : Prop := twinSameUptoRow.holds Tryz.pinned (OpenSpec.upto twinSameSpec)

/-- 'copyholdlaw.TwinRuns', WHERE WHAT IT READS IS OF BULK AT MOST 1048576: true; the input reads as it did. -/
def twinRunsUptoRow : OpenClaim := { program := "yteflkifmgnpbhaagreat", sum := "48be3511d52243f799563eee571073e9ed630123f67e0400919c665b0ca6997c", func := "copyhold/copyholdlaw.TwinRuns", spec := "twinRuns", unfollowed := true, recurses := true, loops := true, apart := false, narrowed := true }
def TwinRunsUptoSaid : Prop := twinRunsUptoRow.holds Tryz.pinned (OpenSpec.upto twinRunsSpec)

/-- 'copyholdlaw.TwinLeaves', WHERE WHAT IT READS IS OF BULK AT MOST 1048576: true; the input reads as it did. -/
def twinLeavesUptoRow : OpenClaim := { program := "yteflkifmgnpbhaagreat", sum := "48be3511d52243f799563eee571073e9ed630123f67e0400919c665b0ca6997c", func := "copyhold/copyholdlaw.TwinLeaves", spec := "twinLeaves", unfollowed := true, recurses := true, loops := true, apart := false, narrowed := true }
def TwinLeavesUptoSaid : Prop := twinLeavesUptoRow.holds Tryz.pinned (OpenSpec.upto twinLeavesSpec)

end Rows
end Go.Proofs.YteflkifmgnpbhaaGreat
