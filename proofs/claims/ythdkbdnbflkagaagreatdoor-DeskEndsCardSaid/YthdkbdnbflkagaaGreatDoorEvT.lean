/- Evaluation: the table of the functions' code, each with what says that it is that. -/
import Derived.Test.YthdkbdnbflkagaaGreatDoorEvC
import Derived.Test.YthdkbdnbflkagaaGreatDoorLirGo
namespace Go.Lir
set_option linter.unusedVariables false
def FcOk (P : Program) (f : FuncId) : FC → Prop
  | .pl n rs c => ∃ fn, P.funcs[f]? = some fn ∧ lowF P fn = some c ∧ fn.results.toList = rs ∧ fn.ntmps = n
  | .df n rs c => ∃ fn, P.funcs[f]? = some fn ∧ lowFD P fn = some c ∧ fn.results.toList = rs ∧ fn.ntmps = n
structure Ent (P : Program) where
  f : Nat
  fc : FC
  ok : FcOk P f fc
noncomputable def fcP {P : Program} {f : FuncId} {fn : Func} (n : Nat) (rs : List ResultVar) {c : LC} (D : Tr) (hf : P.funcs[f]? = some fn) (e : lowQ D fn.body = c) (hl : lowF P fn = some c) (hr : fn.results.toList = rs) (hn : fn.ntmps = n) : Ent P := ⟨f, .pl n rs c, fn, hf, hl, hr, hn⟩
noncomputable def fcX {P : Program} {f : FuncId} {fn : Func} (n : Nat) (rs : List ResultVar) (c : LC) (hf : P.funcs[f]? = some fn) (hl : lowF P fn = some c) (hr : fn.results.toList = rs) (hn : fn.ntmps = n) : Ent P := ⟨f, .pl n rs c, fn, hf, hl, hr, hn⟩
noncomputable def fcD {P : Program} {f : FuncId} {fn : Func} (n : Nat) (rs : List ResultVar) {c : LD} (D : Tr) (hf : P.funcs[f]? = some fn) (e : lowQD D fn.body = c) (hl : lowFD P fn = some c) (hr : fn.results.toList = rs) (hn : fn.ntmps = n) : Ent P := ⟨f, .df n rs c, fn, hf, hl, hr, hn⟩
noncomputable def tbOf {P : Program} (t : Tr2 (Option (Ent P))) (f : FuncId) : Option FC := match t.get none f with
  | none => none
  | some e => match Nat.beq e.f f with
    | true => some e.fc
    | false => none
def TbOk (P : Program) (Tb : FuncId → Option FC) : Prop := ∀ f fc, Tb f = some fc → FcOk P f fc
theorem tb_ok {P : Program} (t : Tr2 (Option (Ent P))) : TbOk P (tbOf t) := by
  intro f fc h
  unfold tbOf at h
  split at h
  · cases h
  · rename_i e he
    split at h
    · rename_i hb
      cases h
      have := Nat.eq_of_beq_eq_true hb
      subst this
      exact e.ok
    · cases h
end Go.Lir
