/- The statement TypesDoes: what came in. -/
import Derived.Test.YtanlkfeogoganaaDoorTypesDoes
namespace Go.Proofs.YtanlkfeogoganaaDoor
open Go.Lir
def kTyR : Cod Tryd.prog 24 Ty := Cod.tyInt (TL := 22) (t0 := 3) (t1 := 3) (by kernel_rfl) (by kernel_rfl) (by kernel_rfl) (by kernel_rfl) (by kernel_rfl) (by kernel_rfl) (by kernel_rfl) (by kernel_rfl)
def cInt : Cod.Of Tryd.prog 3 intR := Cod.Of.int (by kernel_rfl) (by kernel_rfl)
def cInts : Cod.Of Tryd.prog 25 intR.list := Cod.Of.list cInt (by kernel_rfl) (by kernel_rfl) (by kernel_rfl)
theorem typesDoes_rd {c d : Array Value} {t u : Ty} {v : Value} {to : List Int} {w : World} (hT : PowT (Cx.top w)) (h1 : kTyR.rd w.heap c.toList t) (h2 : kTyR.rd w.heap d.toList u) (regs : Int) (h3 : cInts.cod.rd w.heap [v] to) :
    Rets Tryd.prog Law_TypesDoes [.agg c, .agg d, .int .i64 regs, v] w fun v w' => v = .bool true ∧ Fr NF w w' := by
  obtain ⟨v', hv, hto⟩ := cInts.top h3
  cases hv
  exact Rets.mono (typesDoes_c (cx := Cx.top w) (cs := c.toList) (ds := d.toList) h1.2 h1.1 h2.1 hto hT (St.top w)) fun v w' ⟨h, h2⟩ => ⟨h, h2.fr⟩
end Go.Proofs.YtanlkfeogoganaaDoor
