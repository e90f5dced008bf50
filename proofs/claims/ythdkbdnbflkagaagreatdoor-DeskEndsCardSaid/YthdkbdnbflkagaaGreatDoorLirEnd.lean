/- Calls that may panic: steps by the number of arguments; what is panicked is handed on. -/
import Derived.Test.YthdkbdnbflkagaaGreatDoorLirPan
namespace Go.Lir
section
variable {P : Program} {l : List GO} {Q : QT} {ρ : Env} {w : World} {f : FuncId} {S T : Value → World → Prop}

theorem s_ends_0 {d : Nat}  (hc : Fins P f [] w S T) (hp : ∀ v w', T v w' → Q (.panic [{ v := v, recovered := false }]) ρ w') (h : ∀ v w', S v w' → opsWp P l Q (upd ρ d v) w') : opsWp P (⟨none, .call (some d) f []⟩ :: l) Q ρ w := by
  exact s_ends (by rfl) hc hp h
theorem s_ends0_0  (hc : Fins P f [] w S T) (hp : ∀ v w', T v w' → Q (.panic [{ v := v, recovered := false }]) ρ w') (h : ∀ v w', S v w' → opsWp P l Q ρ w') : opsWp P (⟨none, .call none f []⟩ :: l) Q ρ w := by
  exact s_ends0 (by rfl) hc hp h
theorem s_ends_1 {d : Nat} {u0 : Value} {x0 : Operand} (h0 : ρ.ev x0 = u0) (hc : Fins P f [u0] w S T) (hp : ∀ v w', T v w' → Q (.panic [{ v := v, recovered := false }]) ρ w') (h : ∀ v w', S v w' → opsWp P l Q (upd ρ d v) w') : opsWp P (⟨none, .call (some d) f [x0]⟩ :: l) Q ρ w := by
  subst h0; exact s_ends (by rfl) hc hp h
theorem s_ends0_1 {u0 : Value} {x0 : Operand} (h0 : ρ.ev x0 = u0) (hc : Fins P f [u0] w S T) (hp : ∀ v w', T v w' → Q (.panic [{ v := v, recovered := false }]) ρ w') (h : ∀ v w', S v w' → opsWp P l Q ρ w') : opsWp P (⟨none, .call none f [x0]⟩ :: l) Q ρ w := by
  subst h0; exact s_ends0 (by rfl) hc hp h
theorem s_ends_2 {d : Nat} {u0 u1 : Value} {x0 x1 : Operand} (h0 : ρ.ev x0 = u0) (h1 : ρ.ev x1 = u1) (hc : Fins P f [u0, u1] w S T) (hp : ∀ v w', T v w' → Q (.panic [{ v := v, recovered := false }]) ρ w') (h : ∀ v w', S v w' → opsWp P l Q (upd ρ d v) w') : opsWp P (⟨none, .call (some d) f [x0, x1]⟩ :: l) Q ρ w := by
  subst h0 h1; exact s_ends (by rfl) hc hp h
theorem s_ends0_2 {u0 u1 : Value} {x0 x1 : Operand} (h0 : ρ.ev x0 = u0) (h1 : ρ.ev x1 = u1) (hc : Fins P f [u0, u1] w S T) (hp : ∀ v w', T v w' → Q (.panic [{ v := v, recovered := false }]) ρ w') (h : ∀ v w', S v w' → opsWp P l Q ρ w') : opsWp P (⟨none, .call none f [x0, x1]⟩ :: l) Q ρ w := by
  subst h0 h1; exact s_ends0 (by rfl) hc hp h
theorem s_ends_3 {d : Nat} {u0 u1 u2 : Value} {x0 x1 x2 : Operand} (h0 : ρ.ev x0 = u0) (h1 : ρ.ev x1 = u1) (h2 : ρ.ev x2 = u2) (hc : Fins P f [u0, u1, u2] w S T) (hp : ∀ v w', T v w' → Q (.panic [{ v := v, recovered := false }]) ρ w') (h : ∀ v w', S v w' → opsWp P l Q (upd ρ d v) w') : opsWp P (⟨none, .call (some d) f [x0, x1, x2]⟩ :: l) Q ρ w := by
  subst h0 h1 h2; exact s_ends (by rfl) hc hp h
theorem s_ends0_3 {u0 u1 u2 : Value} {x0 x1 x2 : Operand} (h0 : ρ.ev x0 = u0) (h1 : ρ.ev x1 = u1) (h2 : ρ.ev x2 = u2) (hc : Fins P f [u0, u1, u2] w S T) (hp : ∀ v w', T v w' → Q (.panic [{ v := v, recovered := false }]) ρ w') (h : ∀ v w', S v w' → opsWp P l Q ρ w') : opsWp P (⟨none, .call none f [x0, x1, x2]⟩ :: l) Q ρ w := by
  subst h0 h1 h2; exact s_ends0 (by rfl) hc hp h
theorem s_ends_4 {d : Nat} {u0 u1 u2 u3 : Value} {x0 x1 x2 x3 : Operand} (h0 : ρ.ev x0 = u0) (h1 : ρ.ev x1 = u1) (h2 : ρ.ev x2 = u2) (h3 : ρ.ev x3 = u3) (hc : Fins P f [u0, u1, u2, u3] w S T) (hp : ∀ v w', T v w' → Q (.panic [{ v := v, recovered := false }]) ρ w') (h : ∀ v w', S v w' → opsWp P l Q (upd ρ d v) w') : opsWp P (⟨none, .call (some d) f [x0, x1, x2, x3]⟩ :: l) Q ρ w := by
  subst h0 h1 h2 h3; exact s_ends (by rfl) hc hp h
theorem s_ends0_4 {u0 u1 u2 u3 : Value} {x0 x1 x2 x3 : Operand} (h0 : ρ.ev x0 = u0) (h1 : ρ.ev x1 = u1) (h2 : ρ.ev x2 = u2) (h3 : ρ.ev x3 = u3) (hc : Fins P f [u0, u1, u2, u3] w S T) (hp : ∀ v w', T v w' → Q (.panic [{ v := v, recovered := false }]) ρ w') (h : ∀ v w', S v w' → opsWp P l Q ρ w') : opsWp P (⟨none, .call none f [x0, x1, x2, x3]⟩ :: l) Q ρ w := by
  subst h0 h1 h2 h3; exact s_ends0 (by rfl) hc hp h
theorem holds_cell {b o T : Nat} {T' : TypeId} {cs : List Value} {v : Value} (hs : scalarT P T = true) (hb : Blk w.heap b T' cs) (hv : cs[o]? = some v) : Holds P w ⟨b, o, none⟩ T v := .inl ⟨hs, hb.cell hv⟩
theorem run_equalIn_inil (k : Nat) {Ty : TypeId} {ms : Array (String × TypeId)} {w0 : World} (ht : P.underlying Ty = some (.interface ms)) : (Op.equalIn (k + 1) Ty .nilIface .nilIface).run P w0 = .ok true w0 := by
  simp only [Op.equalIn, Sem.run_bind, run_underlying' P Ty _ w0 ht, Result.andThen_ok]
  simp [Sem.run_pure]
theorem run_equal_inil {Ty : TypeId} {ms : Array (String × TypeId)} {w0 : World} (ht : P.underlying Ty = some (.interface ms)) : (Op.equal Ty .nilIface .nilIface).run P w0 = .ok true w0 := run_equalIn_inil 9999 ht
theorem run_equalIn_iface (k : Nat) {Ty U : TypeId} {v : Value} {ms : Array (String × TypeId)} {w0 : World} (ht : P.underlying Ty = some (.interface ms)) : (Op.equalIn (k + 1) Ty (.iface U v) .nilIface).run P w0 = .ok false w0 := by
  simp only [Op.equalIn, Sem.run_bind, run_underlying' P Ty _ w0 ht, Result.andThen_ok]
  simp [Sem.run_pure]
theorem run_equal_iface {Ty U : TypeId} {v : Value} {ms : Array (String × TypeId)} {w0 : World} (ht : P.underlying Ty = some (.interface ms)) : (Op.equal Ty (.iface U v) .nilIface).run P w0 = .ok false w0 := run_equalIn_iface 9999 ht
/-- e != nil -/
theorem s_inil_f {d : Nat} {Ty : TypeId} {x : Operand} {ms : Array (String × TypeId)} (ht : P.underlying Ty = some (.interface ms)) (hx : ρ.ev x = .nilIface) (h : opsWp P l Q (upd ρ d (.bool false)) w) : opsWp P (⟨none, .bin d .neq Ty x (.const .nilIface)⟩ :: l) Q ρ w :=
  ⟨_, fun w0 => by rw [hx]; simp [Env.ev, eqGuard, binOp, run_equal_inil ht], h⟩
theorem s_inil_t {d : Nat} {Ty U : TypeId} {v : Value} {x : Operand} {ms : Array (String × TypeId)} (ht : P.underlying Ty = some (.interface ms)) (hx : ρ.ev x = .iface U v) (h : opsWp P l Q (upd ρ d (.bool true)) w) : opsWp P (⟨none, .bin d .neq Ty x (.const .nilIface)⟩ :: l) Q ρ w :=
  ⟨_, fun w0 => by rw [hx]; simp [Env.ev, eqGuard, binOp, run_equal_iface ht], h⟩
/-- Three things to the front. -/
theorem St.pick3 {c : Cx} {L L1 L2 L3 : List Res} {r1 r2 r3 : Res} (h : St c w L) (p1 : Pick L r1 L1) (p2 : Pick L1 r2 L2) (p3 : Pick L2 r3 L3) : St c w (r1 :: r2 :: r3 :: L3) :=
  h.perm (p1.perm.trans (List.Perm.cons _ (p2.perm.trans (List.Perm.cons _ p3.perm))))
/-- What is told of an Fins: it ends so, in the form that a walk gives. -/
theorem ends_of {args : List Value} (h : Calls P f ⟨args⟩ w fun e w' => (∃ v, e = .returned v ∧ S v w') ∨ (∃ v, e = .panicked [{ v := v, recovered := false }] ∧ T v w')) : Fins P f args w S T := h
end
end Go.Lir
