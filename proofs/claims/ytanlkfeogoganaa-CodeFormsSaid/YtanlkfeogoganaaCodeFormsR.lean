/- The statement CodeForms: what came in. -/
import Derived.Test.YtanlkfeogoganaaCods
import Derived.Test.YtanlkfeogoganaaCodeForms
namespace Go.Proofs.Ytanlkfeogoganaa
open Go.Lir
theorem codeForms_rd {c d e f : Array Value} {x : Module} {y : Ins} {z : Fun} {u : Tail} {w : World} (h1 : cMod.cod.rd w.heap c.toList x) (h2 : cIns.cod.rd w.heap d.toList y) (h3 : cFunc.cod.rd w.heap e.toList z) (h4 : cEnd.cod.rd w.heap f.toList u) (a b i : Int) : Rets Try.prog Law_CodeForms [.agg c, .agg d, .agg e, .agg f, .int .i64 a, .int .i64 b, .int .i64 i] w fun v w' => v = .bool true ∧ Fr NF w w' :=
  (codeForms_c a b i (cMod.top h1) (cIns.top h2) (cFunc.top h3) (cEnd.top h4) (St.top w)).mono fun _ _ ⟨h, h2⟩ => ⟨h, h2.fr⟩
end Go.Proofs.Ytanlkfeogoganaa
