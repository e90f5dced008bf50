/- The statement TypesBack: what came in. -/
import Derived.Test.YtanlkfeogoganaaDoorTypesBack
namespace Go.Proofs.YtanlkfeogoganaaDoor
open Go.Lir
def kTyB : Cod Tryd.prog 24 Ty := Cod.tyInt (TL := 22) (t0 := 3) (t1 := 3) (by kernel_rfl) (by kernel_rfl) (by kernel_rfl) (by kernel_rfl) (by kernel_rfl) (by kernel_rfl) (by kernel_rfl) (by kernel_rfl)
theorem typesBack_rd {c : Array Value} {t : Ty} {w : World} (hT : PowT (Cx.top w)) (h1 : kTyB.rd w.heap c.toList t) (a b : Int) :
    Rets Tryd.prog Law_TypesBack [.agg c, .int .i64 a, .int .i64 b] w fun v w' => v = .bool true ∧ Fr NF w w' :=
  Rets.mono (typesBack_c (cx := Cx.top w) (cs := c.toList) a b h1.2 h1.1 hT (St.top w)) fun _ _ ⟨h, h2⟩ => ⟨h, h2.fr⟩
end Go.Proofs.YtanlkfeogoganaaDoor
