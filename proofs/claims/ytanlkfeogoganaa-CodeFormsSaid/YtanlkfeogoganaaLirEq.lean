/- Structs of integers, the same or not. -/
import Derived.Test.YtanlkfeogoganaaLirSt
namespace Go.Lir
section
variable {P : Program} {l : List GO} {Q : QT} {ρ : Env} {w : World}
/-- A field that holds an integer. -/
def IntF (P : Program) (f : Field) (i : Nat) : Prop := f.name ≠ "_" ∧ (∃ k, P.underlying f.type = some (.int k)) ∧ f.offset = i ∧ scalarT P f.type = true
theorem run_equalIn_int (k : Nat) {T : TypeId} {q : IntKind} {a b : Int} {kk : IntKind} {w0 : World} (ht : P.underlying T = some (.int q)) : (Op.equalIn (k + 1) T (.int kk a) (.int kk b)).run P w0 = .ok (a == b) w0 := by
  simp only [Op.equalIn, Sem.run_bind, run_underlying' P T _ w0 ht, Result.andThen_ok]
  simp [Sem.run_pure]
def intFB (P : Program) (f : Field) (i : Nat) : Bool := f.name != "_" && (match P.underlying f.type with | some (.int _) => true | _ => false) && f.offset == i && scalarT P f.type
theorem intF_of {f : Field} {i : Nat} (h : intFB P f i = true) : IntF P f i := by
  unfold intFB at h
  simp only [Bool.and_eq_true, bne_iff_ne, ne_eq, beq_iff_eq] at h
  obtain ⟨⟨⟨h1, h2⟩, h3⟩, h4⟩ := h
  refine ⟨h1, ?_, h3, h4⟩
  split at h2
  · rename_i k hk; exact ⟨k, hk⟩
  · cases h2
end
end Go.Lir
