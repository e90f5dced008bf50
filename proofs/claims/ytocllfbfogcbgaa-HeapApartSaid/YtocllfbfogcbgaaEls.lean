/- The types of elements. -/
import Derived.Test.YtocllfbfogcbgaaProg
import Derived.Test.YtocllfbfogcbgaaLirMore
namespace Go.Proofs.Ytocllfbfogcbgaa
open Go.Lir
theorem el_int : elInfo Try.prog 32 = some (3, 1, 8, [.int .i64 0]) := by kernel_rfl
theorem el_bool : elInfo Try.prog 35 = some (4, 1, 1, [.bool false]) := by kernel_rfl
theorem el_long : elInfo Try.prog 55 = some (2, 1, 8, [.int .i64 0]) := by kernel_rfl
theorem u_ints : ∃ e2, Try.prog.underlying 32 = some (.slice e2) := ⟨3, by kernel_rfl⟩
theorem u_longs : ∃ e2, Try.prog.underlying 55 = some (.slice e2) := ⟨2, by kernel_rfl⟩
theorem u_bools : ∃ e2, Try.prog.underlying 35 = some (.slice e2) := ⟨4, by kernel_rfl⟩
end Go.Proofs.Ytocllfbfogcbgaa
