/- Structs of integers, the same or not. -/
import Derived.Test.YtocllfbfogcbgaaLirSt
namespace Go.Lir
section
variable {P : Program} {l : List GO} {Q : QT} {ρ : Env} {w : World}
/-- A field that holds an integer. -/
def IntF (P : Program) (f : Field) (i : Nat) : Prop := f.name ≠ "_" ∧ (∃ k, P.underlying f.type = some (.int k)) ∧ f.offset = i ∧ scalarT P f.type = true
theorem run_equalIn_int (k : Nat) {T : TypeId} {q : IntKind} {a b : Int} {kk : IntKind} {w0 : World} (ht : P.underlying T = some (.int q)) : (Op.equalIn (k + 1) T (.int kk a) (.int kk b)).run P w0 = .ok (a == b) w0 := by
  simp only [Op.equalIn, Sem.run_bind, run_underlying' P T _ w0 ht, Result.andThen_ok]
  simp [Sem.run_pure]
theorem run_eq4 (k : Nat) {T : TypeId} {f0 f1 f2 f3 : Field} {a0 a1 a2 a3 b0 b1 b2 b3 : Int} {w0 : World} (ht : P.underlying T = some (.struct #[f0, f1, f2, f3])) (hh : P.stoodInHeld T = false)
    (h0 : IntF P f0 0) (h1 : IntF P f1 1) (h2 : IntF P f2 2) (h3 : IntF P f3 3) :
    (Op.equalIn (k + 2) T (.agg ⟨[.int .i64 a0, .int .i64 a1, .int .i64 a2, .int .i64 a3]⟩) (.agg ⟨[.int .i64 b0, .int .i64 b1, .int .i64 b2, .int .i64 b3]⟩)).run P w0 = .ok (a0 == b0 && (a1 == b1 && (a2 == b2 && a3 == b3))) w0 := by
  obtain ⟨n0, ⟨q0, u0⟩, o0, s0⟩ := h0
  obtain ⟨n1, ⟨q1, u1⟩, o1, s1⟩ := h1
  obtain ⟨n2, ⟨q2, u2⟩, o2, s2⟩ := h2
  obtain ⟨n3, ⟨q3, u3⟩, o3, s3⟩ := h3
  have hp : ∀ (T : TypeId) (cs : Array Value) (off : Nat) (v : Value) (w : World), scalarT P T = true → cs[off]? = some v → (part T cs off).run P w = .ok v w := fun T cs off v w h hv => run_part P T cs off v w h hv
  unfold Op.equalIn
  simp only [Sem.run_bind, run_underlying' P T _ w0 ht, Result.andThen_ok]
  simp [hh, n0, n1, n2, n3, o0, o1, o2, o3, run_equalIn_int _ u0, run_equalIn_int _ u1, run_equalIn_int _ u2, run_equalIn_int _ u3, hp _ _ _ _ _ s0, hp _ _ _ _ _ s1, hp _ _ _ _ _ s2, hp _ _ _ _ _ s3]
  by_cases e0 : a0 = b0 <;> by_cases e1 : a1 = b1 <;> by_cases e2 : a2 = b2 <;> by_cases e3 : a3 = b3 <;> simp [e0, e1, e2, e3]
def Int4 (P : Program) (T : TypeId) : Prop := ∃ f0 f1 f2 f3 : Field, P.underlying T = some (.struct #[f0, f1, f2, f3]) ∧ P.stoodInHeld T = false ∧ P.eqGuardType P.depth T = false ∧ IntF P f0 0 ∧ IntF P f1 1 ∧ IntF P f2 2 ∧ IntF P f3 3
def intFB (P : Program) (f : Field) (i : Nat) : Bool := f.name != "_" && (match P.underlying f.type with | some (.int _) => true | _ => false) && f.offset == i && scalarT P f.type
theorem intF_of {f : Field} {i : Nat} (h : intFB P f i = true) : IntF P f i := by
  unfold intFB at h
  simp only [Bool.and_eq_true, bne_iff_ne, ne_eq, beq_iff_eq] at h
  obtain ⟨⟨⟨h1, h2⟩, h3⟩, h4⟩ := h
  refine ⟨h1, ?_, h3, h4⟩
  split at h2
  · rename_i k hk; exact ⟨k, hk⟩
  · cases h2
def int4B (P : Program) (T : TypeId) : Bool := match P.underlying T with
  | some (.struct fs) => match fs.toList with
    | [f0, f1, f2, f3] => !P.stoodInHeld T && !P.eqGuardType P.depth T && intFB P f0 0 && intFB P f1 1 && intFB P f2 2 && intFB P f3 3
    | _ => false
  | _ => false
theorem int4_of {T : TypeId} (h : int4B P T = true) : Int4 P T := by
  unfold int4B at h
  split at h
  · rename_i fs hu
    split at h
    · rename_i f0 f1 f2 f3 hf
      simp only [Bool.and_eq_true, Bool.not_eq_true'] at h
      obtain ⟨⟨⟨⟨⟨h1, h2⟩, h3⟩, h4⟩, h5⟩, h6⟩ := h
      have : fs = #[f0, f1, f2, f3] := by apply Array.ext'; exact hf
      subst this
      exact ⟨f0, f1, f2, f3, hu, h1, h2, intF_of h3, intF_of h4, intF_of h5, intF_of h6⟩
    · cases h
  · cases h
theorem s_eq4 {d : Nat} {T : TypeId} {x y : Operand} {a0 a1 a2 a3 b0 b1 b2 b3 : Int} (hT : Int4 P T) (hx : ρ.ev x = .agg ⟨[.int .i64 a0, .int .i64 a1, .int .i64 a2, .int .i64 a3]⟩) (hy : ρ.ev y = .agg ⟨[.int .i64 b0, .int .i64 b1, .int .i64 b2, .int .i64 b3]⟩)
    (h : opsWp P l Q (upd ρ d (.bool (a0 == b0 && (a1 == b1 && (a2 == b2 && a3 == b3))))) w) : opsWp P (⟨none, .bin d .eql T x y⟩ :: l) Q ρ w := by
  obtain ⟨f0, f1, f2, f3, ht, hh, hg, h0, h1, h2, h3⟩ := hT
  exact ⟨_, fun w0 => by rw [hx, hy]; simp only [Sem.run_bind, run_eqGuard_agg w0 .eql T x y _ _ hg, Result.andThen_ok, run_eql_struct, run_eq4 9998 ht hh h0 h1 h2 h3], h⟩
theorem s_ne4 {d : Nat} {T : TypeId} {x y : Operand} {a0 a1 a2 a3 b0 b1 b2 b3 : Int} (hT : Int4 P T) (hx : ρ.ev x = .agg ⟨[.int .i64 a0, .int .i64 a1, .int .i64 a2, .int .i64 a3]⟩) (hy : ρ.ev y = .agg ⟨[.int .i64 b0, .int .i64 b1, .int .i64 b2, .int .i64 b3]⟩)
    (h : opsWp P l Q (upd ρ d (.bool (!(a0 == b0 && (a1 == b1 && (a2 == b2 && a3 == b3)))))) w) : opsWp P (⟨none, .bin d .neq T x y⟩ :: l) Q ρ w := by
  obtain ⟨f0, f1, f2, f3, ht, hh, hg, h0, h1, h2, h3⟩ := hT
  exact ⟨_, fun w0 => by rw [hx, hy]; simp only [Sem.run_bind, run_eqGuard_agg w0 .neq T x y _ _ hg, Result.andThen_ok, run_neq_struct, run_eq4 9998 ht hh h0 h1 h2 h3], h⟩
theorem s_ne4_f {d : Nat} {T : TypeId} {x y : Operand} {a0 a1 a2 a3 : Int} (hT : Int4 P T) (hx : ρ.ev x = .agg ⟨[.int .i64 a0, .int .i64 a1, .int .i64 a2, .int .i64 a3]⟩) (hy : ρ.ev y = .agg ⟨[.int .i64 a0, .int .i64 a1, .int .i64 a2, .int .i64 a3]⟩)
    (h : opsWp P l Q (upd ρ d (.bool false)) w) : opsWp P (⟨none, .bin d .neq T x y⟩ :: l) Q ρ w := s_ne4 hT hx hy (by simp only [beq_self_eq_true, Bool.and_self, Bool.not_true]; exact h)
end
end Go.Lir
