/- The concrete run is evaluated to true (by the kernel); its two calls of desk.run are known. -/
import Derived.Test.YthdkbdnbflkagaaGreatDoorEnds2
namespace Go.Proofs.YthdkbdnbflkagaaGreatDoor
open Go.Lir
noncomputable section
def kns : FuncId → List V → AW → Option CR := memo [kn1, kn2]
theorem kns_ok : MOk kns := memo_ok fun k hk => by
  rcases List.mem_cons.1 hk with rfl | hk
  · exact kn1_ok
  · rcases List.mem_cons.1 hk with rfl | hk
    · exact kn2_ok
    · cases hk
def big : Bool := isT (callM kns 300 4 [] A0)
theorem big_ok : big = true := by kernel_rfl
theorem begun_c {w : World} : Rets Tryz.prog 4 [] w fun v w' => v = .bool true ∧ Fr NF w w' := true_of (callM_ok kns_ok 300) .nil big_ok
end
end Go.Proofs.YthdkbdnbflkagaaGreatDoor
