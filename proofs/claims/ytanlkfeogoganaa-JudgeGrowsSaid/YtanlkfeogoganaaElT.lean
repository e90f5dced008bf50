/- What is known of the slices' elements, by the numbers of the types: printed by a program. -/
import Derived.Test.YtanlkfeogoganaaProg
import Derived.Test.YtanlkfeogoganaaLirMore
namespace Go.Proofs.Ytanlkfeogoganaa
open Go.Lir
set_option maxRecDepth 100000
theorem el_T22 : elInfo Try.prog 22 = some (31, 4, 80, [(.int .i64 0), (.slice none 0 0), (.slice none 0 0), (.slice none 0 0)]) := by kernel_rfl
theorem u_T22 : ∃ e2, Try.prog.underlying 22 = some (.slice e2) := ⟨31, by kernel_rfl⟩
theorem el_T25 : elInfo Try.prog 25 = some (3, 1, 8, [(.int .i64 0)]) := by kernel_rfl
theorem u_T25 : ∃ e2, Try.prog.underlying 25 = some (.slice e2) := ⟨3, by kernel_rfl⟩
theorem el_T28 : elInfo Try.prog 28 = some (65, 3, 40, [(.int .i64 0), (.int .i64 0), (.slice none 0 0)]) := by kernel_rfl
theorem u_T28 : ∃ e2, Try.prog.underlying 28 = some (.slice e2) := ⟨65, by kernel_rfl⟩
theorem el_T29 : elInfo Try.prog 29 = some (77, 12, 208, [(.int .i64 0), (.slice none 0 0), (.slice none 0 0), (.int .i64 0), (.int .i64 0), (.int .i64 0), (.slice none 0 0), (.slice none 0 0), (.int .i64 0), (.slice none 0 0), (.slice none 0 0), (.slice none 0 0)]) := by kernel_rfl
theorem u_T29 : ∃ e2, Try.prog.underlying 29 = some (.slice e2) := ⟨77, by kernel_rfl⟩
theorem el_T58 : elInfo Try.prog 58 = some (27, 8, 96, [(.int .i64 0), (.int .i64 0), (.int .i64 0), (.int .i64 0), (.int .i64 0), (.int .i64 0), (.slice none 0 0), (.slice none 0 0)]) := by kernel_rfl
theorem u_T58 : ∃ e2, Try.prog.underlying 58 = some (.slice e2) := ⟨27, by kernel_rfl⟩
theorem el_T127 : elInfo Try.prog 127 = some (4, 1, 1, [(.bool false)]) := by kernel_rfl
theorem u_T127 : ∃ e2, Try.prog.underlying 127 = some (.slice e2) := ⟨4, by kernel_rfl⟩
end Go.Proofs.Ytanlkfeogoganaa
