/- The functions, lowered: printed by a program off the translation. -/
import Derived.Test.YtocllfbfogcbgaaProg
import Derived.Test.YtocllfbfogcbgaaLirStep
namespace Go.Proofs.Ytocllfbfogcbgaa
open Go.Lir

/- 44 -/
def R_In_r0 : List GO := [
  ⟨none, .mov 4 (.const (.bool false))⟩]
def R_In_r1 : List GO := [
  ⟨none, .mov 5 (.const (.int .i64 0))⟩]
def R_In_r2 : List GO := [
  ⟨none, .mov 6 (.tmp 5)⟩,
  ⟨none, .mov 7 (.tmp 0)⟩,
  ⟨none, .len 8 (.tmp 7)⟩,
  ⟨none, .bin 9 .lss 3 (.tmp 6) (.tmp 8)⟩]
def R_In_r3 : List GO := [
  ⟨none, .mov 12 (.tmp 0)⟩,
  ⟨none, .mov 13 (.tmp 5)⟩,
  ⟨none, .idx 14 1 (.tmp 12) (.tmp 13)⟩,
  ⟨none, .load1 15 (.tmp 14)⟩,
  ⟨none, .mov 16 (.tmp 1)⟩,
  ⟨none, .bin 17 .eql 3 (.tmp 15) (.tmp 16)⟩]
def R_In_r4 : List GO := [
  ⟨none, .mov 4 (.const (.bool true))⟩]
def R_In_r5 : List GO := [
  ⟨none, .mov 10 (.tmp 5)⟩,
  ⟨none, .bin 11 .add 3 (.tmp 10) (.const (.int .i64 1))⟩,
  ⟨none, .mov 5 (.tmp 11)⟩]
def R_In_b2 : LC := (.seq (.seq (.ops R_In_r2) (.cond (.tmp 9) .skip (.exit 0))) (.seq (.block 1 (.seq (.ops R_In_r3) (.cond (.tmp 17) (.seq (.ops R_In_r4) .ret) .skip))) (.ops R_In_r5)))
def R_In_r6 : List GO := [
  ⟨none, .mov 4 (.const (.bool false))⟩]
def R_In_lc : LC := (.seq (.ops R_In_r0) (.seq (.seq (.ops R_In_r1) (.block 0 (.loop R_In_b2))) (.seq (.ops R_In_r6) .ret)))
@[reducible] def R_In : FuncId := 44
theorem R_In_low : lowF Try.prog Try.f44 = some R_In_lc := by kernel_rfl
theorem R_In_in {a0 a1 : Value} {w : World} {R : Ending → World → Prop} (h : R_In_lc.wp Try.prog (retQ Try.prog [.tmp 4] R) (argEnv [a0, a1]) w) : Calls Try.prog R_In ⟨[a0, a1]⟩ w R :=
  calls_of_low Try.func44 R_In_low (by kernel_rfl) (by kernel_rfl) h

end Go.Proofs.Ytocllfbfogcbgaa