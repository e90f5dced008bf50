/- What is known of the slices' elements, by the numbers of the types: printed by a program. -/
import Derived.Test.YtanlkfeogoganaaDoorProg
import Derived.Test.YtanlkfeogoganaaDoorLirMore
namespace Go.Proofs.YtanlkfeogoganaaDoor
open Go.Lir
set_option maxRecDepth 100000
theorem el_T22 : elInfo Tryd.prog 22 = some (24, 3, 40, [(.int .i64 0), (.int .i64 0), (.slice none 0 0)]) := by kernel_rfl
theorem u_T22 : ∃ e2, Tryd.prog.underlying 22 = some (.slice e2) := ⟨24, by kernel_rfl⟩
theorem el_T25 : elInfo Tryd.prog 25 = some (3, 1, 8, [(.int .i64 0)]) := by kernel_rfl
theorem el_T42 : elInfo Tryd.prog 42 = some (9, 1, 16, [(.string ⟨#[]⟩)]) := by kernel_rfl
theorem u_T42 : ∃ e2, Tryd.prog.underlying 42 = some (.slice e2) := ⟨9, by kernel_rfl⟩
end Go.Proofs.YtanlkfeogoganaaDoor
