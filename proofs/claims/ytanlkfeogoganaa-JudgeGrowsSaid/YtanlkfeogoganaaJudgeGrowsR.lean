/- The statement JudgeGrows: what came in. -/
import Derived.Test.YtanlkfeogoganaaCods
import Derived.Test.YtanlkfeogoganaaJudgeGrows
namespace Go.Proofs.Ytanlkfeogoganaa
open Go.Lir
theorem judgeGrows_rd {c : Array Value} {v : Value} {x : Module} {l : List Ins} {w : World} (f b : Int) (h1 : cMod.cod.rd w.heap c.toList x) (h2 : cInss.cod.rd w.heap [v] l) : Rets Try.prog Law_JudgeGrows [.agg c, .int .i64 f, .int .i64 b, v] w fun v w' => v = .bool true ∧ Fr NF w w' := by
  obtain ⟨v1, e1, h3⟩ := cInss.top h2
  obtain rfl : v = v1 := by cases e1; rfl
  exact (judgeGrows_c (cMod.top h1) h3 (St.top w)).mono fun _ _ ⟨h, h2⟩ => ⟨h, h2.fr⟩
end Go.Proofs.Ytanlkfeogoganaa
