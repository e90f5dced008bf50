/- The statements CodeDoes: what came in. -/
import Derived.Test.YtanlkfeogoganaaCods
import Derived.Test.YtanlkfeogoganaaCodeDoes
namespace Go.Proofs.Ytanlkfeogoganaa
open Go.Lir
theorem codeDoes_rd {c d : Array Value} {x y : Module} {w : World} (h1 : cMod.cod.rd w.heap c.toList x) (h2 : cMod.cod.rd w.heap d.toList y) : Rets Try.prog Law_CodeDoes [.agg c, .agg d] w fun v w' => v = .bool true ∧ Fr NF w w' :=
  (codeDoes_c (cMod.top h1) (cMod.top h2) (St.top w)).mono fun v w' ⟨h, h2⟩ => ⟨h, h2.fr⟩
end Go.Proofs.Ytanlkfeogoganaa
