/- Lemmas of the proof, part 6: what the functions of the program do (contracts), and what follows. -/
import Derived.Test.YtjecflbbcnocdaaGreatDoorRows
import Derived.Test.YtjecflbbcnocdaaGreatDoorZ3
import Derived.ProofKit
import Derived.LaidMore
import Derived.OpenShut
import Derived.Stop.LaidErr
import Derived.Lib.LaidTab
import Derived.MakeChecks
namespace Go.Proofs.YtjecflbbcnocdaaGreatDoor
open Go.Lir
abbrev laid3 : List (String × DataW Unit) := [("math/bits.deBruijn32tab", Rows.laid_math_bits_deBruijn32tab), ("math/bits.deBruijn64tab", Rows.laid_math_bits_deBruijn64tab), ("internal/strconv.uint64pow10", Rows.laid_internal_strconv_uint64pow10), ("strconv.ErrRange", Rows.laid_strconv_ErrRange), ("strconv.ErrSyntax", Rows.laid_strconv_ErrSyntax)]
theorem door_met (os : Os) (args : Array Value) : laidMetH Tryz.prog laid3 ((World.doorLaid Tryz.prog 2000 os).forCall (fun _ _ => 0) ⟨#[], args, []⟩).memory :=
  laidMetH_of_parts3 (fuel := 8) (laidMet_of_run' 8 (by kernel_rfl) (by kernel_rfl)) (by kernel_rfl) (by kernel_rfl)
theorem pow_lit : (Rows.laid_internal_strconv_uint64pow10 : DataW Unit) = Lib.tabData .u64 Lib.pow10Tab := by kernel_rfl
theorem err_row (u : TypeId) (h : Tryz.prog.typeName? 3 u = some "*errors.errorString") : u = 204 :=
  typeName_ptr_named (nm := "errors.errorString") (by rw [show "*" ++ "errors.errorString" = "*errors.errorString" by decide]; kernel_rfl) (by kernel_rfl) (by decide) u (by rw [show "*" ++ "errors.errorString" = "*errors.errorString" by decide]; exact h)
theorem err_of {W : World} {n : String} {g : Nat} {text : List UInt8} {r : List (String × DataW Unit)} (hg : Tryz.prog.globalNamed n = some g) (ht : (Tryz.prog.globals[g]?).map (·.type) = some 109) (hlt : g < W.heap.size) (h : laidMet Tryz.prog ((n, .iface "*errors.errorString" (.ptr (.agg [.lit (.string text)]))) :: r) W) : ErrV (Cx.top W) g := by
  obtain ⟨a, s, hv, _⟩ := laid_sentinel h hg ht Tryz.underlying109 err_row Tryz.underlying204 Tryz.underlying206 rfl rfl Tryz.underlying9 (by kernel_rfl) (by kernel_rfl)
  refine ⟨hlt, fun w hw => ⟨.iface 204 (.pointer (some a)), ?_, .inr ⟨_, _, rfl⟩⟩⟩
  have hw2 : w.heap[g]? = W.heap[g]? := hw
  have h2 : w.var? Tryz.prog n = some #[.iface 204 (.pointer (some a))] := by
    unfold World.var? at hv ⊢
    rw [hg] at hv ⊢
    simp only [Option.bind_some] at hv ⊢
    rw [hw2]; exact hv
  exact World.var?_cell hg h2 0
theorem big_of {W : World} {n : String} {g : Nat} {x : DataW Unit} {r : List (String × DataW Unit)} (hg : Tryz.prog.globalNamed n = some g) (h : laidMet Tryz.prog ((n, x) :: r) W) : g < W.heap.size := by
  obtain ⟨ps, ⟨g0, t0, cs0, f0, p0, q0, hg0, ht0, hv0, hd0, _, e0⟩, _, hrows⟩ := h
  obtain rfl := Option.some.inj (hg.symm.trans hg0)
  rcases Nat.lt_or_ge g W.heap.size with h' | h'
  · exact h'
  · unfold World.var? at hv0
    rw [hg] at hv0
    simp only [Option.bind_some, Array.getElem?_eq_none h'] at hv0
    cases hv0
/-- What the numbers' texts need lies in what is only read. -/
theorem pow_of {W : World} (h : laidMetH Tryz.prog laid3 W) : NumK (Cx.top W) := by
  rw [MakeChecks.laidMetH_plain _ _ _ (by kernel_rfl)] at h
  have h2 := h.tail.tail
  have h3 := h2.tail
  rw [pow_lit] at h2
  exact ⟨TabK.top (Lib.tabIs_of_head (g := 0) (t := 193) (e := 177) (n := 20) (by kernel_rfl) (by kernel_rfl) (by kernel_rfl) (by kernel_rfl) (by kernel_rfl) (by kernel_rfl) h2), err_of (g := 2) (by kernel_rfl) (by kernel_rfl) (big_of (by kernel_rfl) h3.tail) h3.tail, err_of (g := 3) (by kernel_rfl) (by kernel_rfl) (big_of (by kernel_rfl) h3) h3⟩
end Go.Proofs.YtjecflbbcnocdaaGreatDoor
