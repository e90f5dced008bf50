/- Lemmas of the proof, part 2: what the functions of the program do (contracts), and what follows. -/
import Derived.Test.YtjecflbbcnocdaaDoorZ1
import Derived.Shelf.Small.Strs
import Derived.Shelf.LaysM
import Derived.Shelf.Strconv.Itoa3
import Derived.Shelf.Strconv.ParseIntEmpty
import Derived.Shelf.Strconv.Clone
import Derived.Shelf.Strconv.SyntaxError
import Derived.Shelf.LaysC
import Derived.Shelf.Strconv.ToError
import Derived.Shelf.Strconv.Lower
import Derived.Shelf.Strconv.ParseUint10
import Derived.Shelf.Strconv.ParseUint10Empty
import Derived.Shelf.Strconv.ParseUint10Any
import Derived.Shelf.Strconv.ParseInt10
import Derived.Shelf.Strconv.RangeError
import Derived.Shelf.Strconv.ToErrorRange
import Derived.Shelf.Strconv.ParseUintEmpty
import Derived.Shelf.Strconv.ParseUint10b64
import Derived.Shelf.Strconv.ParseUint10b32
import Derived.Shelf.Strconv.ParseUint10b16
import Derived.Shelf.Strconv.ParseUint10b8
import Derived.Shelf.Strconv.ParseUint10At
import Derived.Shelf.Strconv.ParseInt10At64
import Derived.Shelf.Strconv.ParseInt10At32
import Derived.Shelf.Strconv.ParseInt10At16
import Derived.Shelf.Strconv.ParseInt10At8
import Derived.Shelf.Strconv.ParseInt10All
import Derived.Shelf.Strconv.ParseIntPublic10
import Derived.Shelf.Strings.Search1
import Derived.Test.YtjecflbbcnocdaaDoorProg
import Derived.Lib.ParseIntB
import Derived.Lib.ItoaLen
import Derived.Lib.Strings
import Derived.Lib.LaidTab
import Derived.Laws.Concat
import Derived.Below
import Derived.Sort.Grow
import Derived.Deep.Draws
import Derived.Lib.ParseIntBTie
import Derived.Test.YtjecflbbcnocdaaDoorRows
import Derived.ProofKit
import Derived.LaidMore
import Derived.OpenShut
import Derived.Stop.LaidErr
import Derived.MakeChecks
namespace Go.Lir
set_option linter.unusedVariables false
/-- What is left to be shown, apart from what is known. -/
structure Bx (K : Prop) : Prop where
  o : K
section
variable {K G : Prop}
theorem zn (k : K) (h : Bx K → G := by
  intro K9
  refine s_nil ?_
  (repeat (first | refine Q7k ?_ | refine Q4I ?_))
  exact K9.o) : G := h ⟨k⟩
theorem zsk (k : K) (h : Bx K → G := by
  intro K9
  refine s_skip ?_
  (repeat (first | refine Q7k ?_ | refine Q4I ?_))
  exact K9.o) : G := h ⟨k⟩
theorem zex (k : K) (h : Bx K → G := by
  intro K9
  refine s_exit ?_
  (repeat (first | refine s_exitQ ?_ | refine s_exitT ?_ | refine s_exitB rfl ?_ | refine Q7k ?_ | refine Q4I ?_))
  exact K9.o) : G := h ⟨k⟩
theorem zr (k : K) (h : Bx K → G := by
  intro K9
  refine s_ret ?_
  (repeat (first | refine s_retT ?_ | refine s_retB ?_))
  exact K9.o) : G := h ⟨k⟩
end
section
variable {P : Program} {l : List GO} {Q : QT} {ρ : Env} {w : World} {c : Cx} {L : List Res} {i : Nat} {T es : Nat} {v : Value} {css : List (List Value)}
theorem St.ns {L' : List Res} (h : St c w L) (e : L = L' := by (conv => lhs; simp only [List.set_cons_zero, List.set_cons_succ]); first | done | exact rfl) : St c w L' := e ▸ h
theorem zm {d : Nat} {x : Operand} {v : Value} (h : Q0 P l Q (upd ρ d v) w) (hx : ρ.ev x = v := by (conv => lhs; whnf); first | done | exact rfl) : Q0 P (⟨none, .mov d x⟩ :: l) Q ρ w := s_mov hx h
theorem zpt {d : Nat} {c x y : Operand} {v : Value} (h : Q0 P l Q (upd ρ d v) w) (hc : ρ.ev c = .bool true := by exact rfl) (hx : ρ.ev x = v := by (conv => lhs; whnf); first | done | exact rfl) : Q0 P (⟨none, .pick d c x y⟩ :: l) Q ρ w := s_pick_t hc hx h
theorem zpf {d : Nat} {c x y : Operand} {v : Value} (h : Q0 P l Q (upd ρ d v) w) (hc : ρ.ev c = .bool false := by exact rfl) (hx : ρ.ev y = v := by (conv => lhs; whnf); first | done | exact rfl) : Q0 P (⟨none, .pick d c x y⟩ :: l) Q ρ w := s_pick_f hc hx h
theorem zl {d : Nat} {x : Operand} {b o : Nat} {cs : List Value} {u : Value} (hS : St c w L) (h : Q0 P l Q (upd ρ d u) w) (hx : ρ.ev x = .pointer (some ⟨b, o, none⟩) := by exact rfl) (hi : nth L i = some (blk b T cs) := by exact NthP.nth (by repeat constructor)) (hu : cs[o]? = some u := by exact rfl) : Q0 P (⟨none, .load1 d x⟩ :: l) Q ρ w := s_loadB hS hx hi hu h
theorem zlk {d : Nat} {x : Operand} {b o : Nat} {cs : List Value} {u : Value} (hS : St c w L) (h : Q0 P l Q (upd ρ d u) w) (ha : AtK c b o cs := by assumption) (hx : ρ.ev x = .pointer (some ⟨b, o, none⟩) := by exact rfl) (hu : cs[0]? = some u := by exact rfl) : Q0 P (⟨none, .load1 d x⟩ :: l) Q ρ w := s_loadK hS ha hx hu h
theorem zlj {d : Nat} {x : Operand} {b o j : Nat} {cs : List Value} {u : Value} (hS : St c w L) (h : Q0 P l Q (upd ρ d u) w) (ha : AtK c b o cs := by assumption) (hx : ρ.ev x = .pointer (some ⟨b, o + j, none⟩) := by exact rfl) (hu : cs[j]? = some u := by exact rfl) : Q0 P (⟨none, .load1 d x⟩ :: l) Q ρ w := s_loadKj hS ha hx hu h
theorem zv {d n : Nat} {x : Operand} {b o : Nat} {cs us : List Value} (hS : St c w L) (h : Q0 P l Q (upd ρ d (.agg ⟨us⟩)) w) (hx : ρ.ev x = .pointer (some ⟨b, o, none⟩) := by exact rfl) (hi : nth L i = some (blk b T cs) := by exact NthP.nth (by repeat constructor)) (hu : (cs.drop o).take n = us := by exact rfl) (hl : us.length = n := by exact rfl) : Q0 P (⟨none, .loadn d n x⟩ :: l) Q ρ w := s_loadnB hS hx hi hu hl h
theorem zad {d : Nat} {T : TypeId} {x y : Operand} {a b : Int} (h : Q0 P l Q (upd ρ d (.int .i64 (a + b))) w) (hx : ρ.ev x = .int .i64 a := by exact rfl) (hy : ρ.ev y = .int .i64 b := by exact rfl) (h1 : -9223372036854775808 ≤ a + b := by omega) (h2 : a + b ≤ 9223372036854775807 := by omega) : Q0 P (⟨none, .bin d .add T x y⟩ :: l) Q ρ w := s_add hx hy h1 h2 h
theorem Q4V {d : Nat} {T : TypeId} {x y : Operand} {k : IntKind} {a b : Int} (h : Q0 P l Q (upd ρ d (.bool true)) w) (hx : ρ.ev x = .int k a := by exact rfl) (hy : ρ.ev y = .int k b := by exact rfl) (hp : a < b := by omega) : Q0 P (⟨none, .bin d .lss T x y⟩ :: l) Q ρ w := s_lss_t hx hy hp h
theorem Q4W {d : Nat} {T : TypeId} {x y : Operand} {k : IntKind} {a b : Int} (h : Q0 P l Q (upd ρ d (.bool false)) w) (hx : ρ.ev x = .int k a := by exact rfl) (hy : ρ.ev y = .int k b := by exact rfl) (hp : ¬ (a < b) := by omega) : Q0 P (⟨none, .bin d .lss T x y⟩ :: l) Q ρ w := s_lss_f hx hy hp h
theorem Q2w {d : Nat} {T : TypeId} {x y : Operand} {k : IntKind} {a b : Int} (h : Q0 P l Q (upd ρ d (.bool true)) w) (hx : ρ.ev x = .int k a := by exact rfl) (hy : ρ.ev y = .int k b := by exact rfl) (hp : a = b := by omega) : Q0 P (⟨none, .bin d .eql T x y⟩ :: l) Q ρ w := Q3P hx hy hp h
theorem Q2x {d : Nat} {T : TypeId} {x y : Operand} {k : IntKind} {a b : Int} (h : Q0 P l Q (upd ρ d (.bool false)) w) (hx : ρ.ev x = .int k a := by exact rfl) (hy : ρ.ev y = .int k b := by exact rfl) (hp : ¬ (a = b) := by omega) : Q0 P (⟨none, .bin d .eql T x y⟩ :: l) Q ρ w := s_eql_f hx hy hp h
theorem Q6w {d : Nat} {T : TypeId} {x y : Operand} {k : IntKind} {a b : Int} (h : Q0 P l Q (upd ρ d (.bool true)) w) (hx : ρ.ev x = .int k a := by exact rfl) (hy : ρ.ev y = .int k b := by exact rfl) (hp : a ≠ b := by omega) : Q0 P (⟨none, .bin d .neq T x y⟩ :: l) Q ρ w := s_neq_t hx hy hp h
theorem Q6x {d : Nat} {T : TypeId} {x y : Operand} {k : IntKind} {a b : Int} (h : Q0 P l Q (upd ρ d (.bool false)) w) (hx : ρ.ev x = .int k a := by exact rfl) (hy : ρ.ev y = .int k b := by exact rfl) (hp : ¬ (a ≠ b) := by omega) : Q0 P (⟨none, .bin d .neq T x y⟩ :: l) Q ρ w := s_neq_f hx hy hp h
theorem zgtrt {d : Nat} {T : TypeId} {x y : Operand} {k : IntKind} {a b : Int} (h : Q0 P l Q (upd ρ d (.bool true)) w) (hx : ρ.ev x = .int k a := by exact rfl) (hy : ρ.ev y = .int k b := by exact rfl) (hp : b < a := by omega) : Q0 P (⟨none, .bin d .gtr T x y⟩ :: l) Q ρ w := s_gtr_t hx hy hp h
theorem zgtrf {d : Nat} {T : TypeId} {x y : Operand} {k : IntKind} {a b : Int} (h : Q0 P l Q (upd ρ d (.bool false)) w) (hx : ρ.ev x = .int k a := by exact rfl) (hy : ρ.ev y = .int k b := by exact rfl) (hp : ¬ (b < a) := by omega) : Q0 P (⟨none, .bin d .gtr T x y⟩ :: l) Q ρ w := s_gtr_f hx hy hp h
theorem Q6y {d : Nat} {T : TypeId} {x y : Operand} {k : IntKind} {a b : Int} (h : Q0 P l Q (upd ρ d (.bool true)) w) (hx : ρ.ev x = .int k a := by exact rfl) (hy : ρ.ev y = .int k b := by exact rfl) (hp : b ≤ a := by omega) : Q0 P (⟨none, .bin d .geq T x y⟩ :: l) Q ρ w := s_geq_t hx hy hp h
theorem Q6z {d : Nat} {T : TypeId} {x y : Operand} {k : IntKind} {a b : Int} (h : Q0 P l Q (upd ρ d (.bool false)) w) (hx : ρ.ev x = .int k a := by exact rfl) (hy : ρ.ev y = .int k b := by exact rfl) (hp : ¬ (b ≤ a) := by omega) : Q0 P (⟨none, .bin d .geq T x y⟩ :: l) Q ρ w := s_geq_f hx hy hp h
theorem zleqt {d : Nat} {T : TypeId} {x y : Operand} {k : IntKind} {a b : Int} (h : Q0 P l Q (upd ρ d (.bool true)) w) (hx : ρ.ev x = .int k a := by exact rfl) (hy : ρ.ev y = .int k b := by exact rfl) (hp : a ≤ b := by omega) : Q0 P (⟨none, .bin d .leq T x y⟩ :: l) Q ρ w := s_leq_t hx hy hp h
theorem zleqf {d : Nat} {T : TypeId} {x y : Operand} {k : IntKind} {a b : Int} (h : Q0 P l Q (upd ρ d (.bool false)) w) (hx : ρ.ev x = .int k a := by exact rfl) (hy : ρ.ev y = .int k b := by exact rfl) (hp : ¬ (a ≤ b) := by omega) : Q0 P (⟨none, .bin d .leq T x y⟩ :: l) Q ρ w := s_leq_f hx hy hp h
theorem zst {x y : Operand} {b o : Nat} {cs : List Value} {u : Value} (hS : St c w L) (h : ∀ w', St c w' (L.set i (blk b T (cs.set o u))) → Q0 P l Q ρ w') (hx : ρ.ev x = .pointer (some ⟨b, o, none⟩) := by exact rfl) (hy : ρ.ev y = u := by (conv => lhs; whnf); first | done | exact rfl) (hi : nth L i = some (blk b T cs) := by exact NthP.nth (by repeat constructor)) (ho : o < cs.length := by simp) (h1 : oneC u = true := by first | rfl | assumption | exact hS.oneC (NthP.nth (by repeat constructor)) | exact SlR.oneC (by assumption)) : Q0 P (⟨none, .store1 x y⟩ :: l) Q ρ w := s_storeB hS hx hy hi ho h1 h
theorem zb {d : Nat} {x : Operand} {cs : List Value} (hS : St c w L) (h : ∀ b w', St c w' (blk b T cs :: L) → Q0 P l Q (upd ρ d (.pointer (some ⟨b, 0, none⟩))) w') (hx : ρ.ev x = v := by (conv => lhs; whnf); first | done | exact rfl) (hc : v.cells = ⟨cs⟩ := by rfl) : Q0 P (⟨none, .box d T x⟩ :: l) Q ρ w := s_boxB hS hx hc h
theorem zsn {n i b T : Nat} {x y : Operand} {cs us : List Value} (hS : St c w L) (h : ∀ w', St c w' (L.set i (blk b T us)) → Q0 P l Q ρ w') (hx : ρ.ev x = .pointer (some ⟨b, 0, none⟩) := by exact rfl) (hy : ρ.ev y = .agg ⟨us⟩ := by exact rfl) (hn : us.length = n := by rfl) (hi : nth L i = some (blk b T cs) := by exact NthP.nth (by repeat constructor)) (hc : cs.length = n := by rfl) (h1 : ∀ u ∈ us, oneC u = true := by first | (simp [oneC]; done) | assumption | exact Rep.one _ (by assumption) | (simp only [List.take_succ_cons, List.take_zero, List.drop_zero, List.mem_cons, List.not_mem_nil, or_false, forall_eq_or_imp, forall_eq]; ((try refine And.intro ?_ ?_) <;> try refine And.intro ?_ ?_) <;> first | rfl | assumption)) : Q0 P (⟨none, .storen n x y⟩ :: l) Q ρ w := Q7l hS hx hy hn hi hc h1 h
theorem zf {t : Nat} {R : Ending → World → Prop} {v : Value} (h : R (.returned v) w) (hv : ρ t = v := by (conv => lhs; whnf); first | done | exact rfl) : retQ P [.tmp t] R .ret ρ w := q_ret1 hv h
theorem zf2 {t u : Nat} {R : Ending → World → Prop} {v v' : Value} (h : R (.returned (.tuple #[v, v'])) w) (hv : ρ t = v := by (conv => lhs; whnf); first | done | exact rfl) (hv' : ρ u = v' := by (conv => lhs; whnf); first | done | exact rfl) : retQ P [.tmp t, .tmp u] R .ret ρ w := q_ret2 hv hv' h
theorem zb0 {d : Nat} {z : List Value} (cs : List Value) (h : Q0 P l Q (upd ρ d (.agg ⟨cs⟩)) w) (hf : Q1j z [] = some cs := by rfl) : Q0 P (⟨none, .build d z []⟩ :: l) Q ρ w := s_build0  hf h
theorem zb1 {d : Nat} {z : List Value} {o0 n0 : Nat} {x0 : Operand} {v0 : Value} (cs : List Value) (h : Q0 P l Q (upd ρ d (.agg ⟨cs⟩)) w) (h0 : ρ.ev x0 = v0 := by (conv => lhs; whnf); first | done | exact rfl) (hf : Q1j z [(o0, n0, v0)] = some cs := by rfl) : Q0 P (⟨none, .build d z [(o0, n0, x0)]⟩ :: l) Q ρ w := s_build1 h0 hf h
theorem zB1 {d : Nat} {T : TypeId} {n : Nat} {z : List Value} {o0 n0 : Nat} {x0 : Operand} {v0 : Value} (hS : St c w L) (cs : List Value) (h : ∀ b w', St c w' (blk b T cs :: L) → Q0 P l Q (upd ρ d (.slice (some ⟨b, 0, none⟩) n n)) w') (h0 : ρ.ev x0 = v0 := by (conv => lhs; whnf); first | done | exact rfl) (hf : Q1j z [(o0, n0, v0)] = some cs := by rfl) : Q0 P (⟨none, .buildS d T n z [(o0, n0, x0)]⟩ :: l) Q ρ w := Q7n h0 hf fun b w' hb hf1 _ hk => h b w' (hS.laid hb hf1 hk)
theorem zb2 {d : Nat} {z : List Value} {o0 n0 : Nat} {x0 : Operand} {v0 : Value} {o1 n1 : Nat} {x1 : Operand} {v1 : Value} (cs : List Value) (h : Q0 P l Q (upd ρ d (.agg ⟨cs⟩)) w) (h0 : ρ.ev x0 = v0 := by (conv => lhs; whnf); first | done | exact rfl) (h1 : ρ.ev x1 = v1 := by (conv => lhs; whnf); first | done | exact rfl) (hf : Q1j z [(o0, n0, v0), (o1, n1, v1)] = some cs := by rfl) : Q0 P (⟨none, .build d z [(o0, n0, x0), (o1, n1, x1)]⟩ :: l) Q ρ w := s_build2 h0 h1 hf h
theorem zb4 {d : Nat} {z : List Value} {o0 n0 : Nat} {x0 : Operand} {v0 : Value} {o1 n1 : Nat} {x1 : Operand} {v1 : Value} {o2 n2 : Nat} {x2 : Operand} {v2 : Value} {o3 n3 : Nat} {x3 : Operand} {v3 : Value} (cs : List Value) (h : Q0 P l Q (upd ρ d (.agg ⟨cs⟩)) w) (h0 : ρ.ev x0 = v0 := by (conv => lhs; whnf); first | done | exact rfl) (h1 : ρ.ev x1 = v1 := by (conv => lhs; whnf); first | done | exact rfl) (h2 : ρ.ev x2 = v2 := by (conv => lhs; whnf); first | done | exact rfl) (h3 : ρ.ev x3 = v3 := by (conv => lhs; whnf); first | done | exact rfl) (hf : Q1j z [(o0, n0, v0), (o1, n1, v1), (o2, n2, v2), (o3, n3, v3)] = some cs := by rfl) : Q0 P (⟨none, .build d z [(o0, n0, x0), (o1, n1, x1), (o2, n2, x2), (o3, n3, x3)]⟩ :: l) Q ρ w := s_build4 h0 h1 h2 h3 hf h
theorem zD {gs : List GO} {es : List (List Nat)} (C : List CI) (h : Q0 P (C.map fun c => gat gs c.1) Q ρ w.drew) (hok : Q5e gs es C = true := by kernel_rfl) (hpl : (C.all fun c => match c.2 with | some (some _) => false | _ => true) = true := by kernel_rfl) : (LC.draw gs es).wp P Q ρ w := s_draw C hok hpl h
theorem zR0 {d : Nat} {f : FuncId} {S : Value → World → Prop} (c : Rets P f [] w S) (h : ∀ v w', S v w' → Q0 P l Q (upd ρ d v) w') : Q0 P (⟨none, .call (some d) f []⟩ :: l) Q ρ w := s_rets_0  c h
theorem zR1 {d : Nat} {f : FuncId} {x0 : Operand} {u0 : Value} {S : Value → World → Prop} (h0 : ρ.ev x0 = u0 := by (conv => lhs; whnf); first | done | exact rfl) (c : Rets P f [u0] w S) (h : ∀ v w', S v w' → Q0 P l Q (upd ρ d v) w') : Q0 P (⟨none, .call (some d) f [x0]⟩ :: l) Q ρ w := s_rets_1 h0 c h
theorem zR2 {d : Nat} {f : FuncId} {x0 x1 : Operand} {u0 u1 : Value} {S : Value → World → Prop} (h0 : ρ.ev x0 = u0 := by (conv => lhs; whnf); first | done | exact rfl) (h1 : ρ.ev x1 = u1 := by (conv => lhs; whnf); first | done | exact rfl) (c : Rets P f [u0, u1] w S) (h : ∀ v w', S v w' → Q0 P l Q (upd ρ d v) w') : Q0 P (⟨none, .call (some d) f [x0, x1]⟩ :: l) Q ρ w := s_rets_2 h0 h1 c h
theorem zR3 {d : Nat} {f : FuncId} {x0 x1 x2 : Operand} {u0 u1 u2 : Value} {S : Value → World → Prop} (h0 : ρ.ev x0 = u0 := by (conv => lhs; whnf); first | done | exact rfl) (h1 : ρ.ev x1 = u1 := by (conv => lhs; whnf); first | done | exact rfl) (h2 : ρ.ev x2 = u2 := by (conv => lhs; whnf); first | done | exact rfl) (c : Rets P f [u0, u1, u2] w S) (h : ∀ v w', S v w' → Q0 P l Q (upd ρ d v) w') : Q0 P (⟨none, .call (some d) f [x0, x1, x2]⟩ :: l) Q ρ w := s_rets_3 h0 h1 h2 c h
variable {α : Type} {r : Rep α} {xs : List α}
theorem zL {d : Nat} {x : Operand} (h : Q0 P l Q (upd ρ d (.int .i64 xs.length)) w) (hx : ρ.ev x = v := by (conv => lhs; whnf); first | done | exact rfl) (hK : r.sl c v xs := by assumption) : Q0 P (⟨none, .len d x⟩ :: l) Q ρ w := s_lenL hx hK h
theorem zi {d m : Nat} {x y : Operand} {k : IntKind} (h : ∀ b o cs a, AtK c b o cs → xs[m]? = some a → r.at c cs a → Q0 P l Q (upd ρ d (.pointer (some ⟨b, o, none⟩))) w) (hx : ρ.ev x = v := by (conv => lhs; whnf); first | done | exact rfl) (hy : ρ.ev y = .int k (m : Int) := by exact rfl) (hK : r.sl c v xs := by assumption) (hes : r.es = es := by exact rfl) (hn : m < xs.length := by first | omega | (simp; omega)) : Q0 P (⟨none, .idx d es x y⟩ :: l) Q ρ w := QU hx hy hK hes hn h
theorem za {T T' d Ts Ts2 Ty nb i k b : Nat} {z : List Value} {x y : Operand} {ds : List Value} {css : List (List Value)} {a : α} (hel : Q2T P Ts = some (T, es, nb, z)) (hts : ∃ e2, P.underlying Ts2 = some (.slice e2)) (hS : St c w L) (h : ∀ v' w' css', r.ls c css' (xs ++ [a]) → oneC v' = true → St c w' (L.set i (Go.Lir.sl T es v' css')) → Q0 P l Q (upd ρ d v') w') (hx : ρ.ev x = v := by (conv => lhs; whnf); first | done | exact rfl) (hy : ρ.ev y = .slice (some ⟨b, 0, none⟩) 1 1 := by (conv => lhs; whnf); first | done | exact rfl) (hi : nth L i = some (Go.Lir.sl T es v css) := by exact NthP.nth (by repeat constructor)) (hk : nth L k = some (blk b T' ds) := by exact NthP.nth (by repeat constructor)) (hls : r.ls c css xs := by assumption) (ha : r.at c ds a := by first | assumption | exact rfl) (hes : r.es = es := by exact rfl) (hb : (xs.length + 1) * nb ≤ 140737488355328 := by first | omega | (simp only [List.length_take]; omega) | (simp; omega)) : Q0 P (⟨none, .raw ⟨some d, .call ⟨.builtin .append, #[x, y], #[Ts, Ts2]⟩, Ty, "", #[], none⟩⟩ :: l) Q ρ w := s_appR1 hel hts hS hx hy hi hk hls ha hes hb h
def evs (ρ : Env) (ts : List Nat) : List (Nat × Value) := ts.map fun t => (t, ρ t)
theorem evs_n (ρ : Env) : evs ρ [] = [] := rfl
theorem evs_c {t : Nat} {ts : List Nat} {u : Value} {A : List (Nat × Value)} (h : ρ t = u) (h2 : evs ρ ts = A) : evs ρ (t :: ts) = (t, u) :: A := by subst h h2; rfl
theorem zh {A : List (Nat × Value)} (h : Has ρ A := by repeat' (first | exact trivial | refine And.intro rfl ?_)) : Has ρ A := h
theorem env2 {A B : List (Nat × Value)} (h : Has ρ A) (h2 : Has ρ B) : ∃ ρ', ρ = updl (updl ρ' B) A := ⟨ρ, by rw [Q4Z h2, Q4Z h]⟩
theorem zo {a : LC} (ts : List Nat) {A : List (Nat × Value)} (I : List (Nat × Value) → Env → World → Prop) (μ : Env → World → Nat) (h0 : I A ρ w) (h : ∀ ρ w, I A ρ w → a.wp P (Qv (fun ρ' w' => I A ρ' w' ∧ μ ρ' w' < μ ρ w) Q) ρ w) (hA : evs ρ ts = A := by (repeat (apply evs_c; · ((conv => lhs; whnf); first | done | exact rfl))); exact evs_n _) : (LC.loop a).wp P Q ρ w := s_loop (I A) μ h0 h
theorem zM {a b : LC} (ts : List Nat) {A : List (Nat × Value)} (I : List (Nat × Value) → Env → World → Prop) (ha : a.wp P (Qv (I A) Q) ρ w) (hb : ∀ ρ w, I A ρ w → b.wp P Q ρ w) (hA : evs ρ ts = A := by (repeat (apply evs_c; · ((conv => lhs; whnf); first | done | exact rfl))); exact evs_n _) : (LC.seq a b).wp P Q ρ w := s_mid (I A) ha hb
theorem zoL {a : LC} (hS : St c w L) (ts : List Nat) {A : List (Nat × Value)} (I : List (Nat × Value) → List Res → Env → World → Prop) (μ : Env → World → Nat) (h0 : I A L ρ w) (h : ∀ ρ w, I A L ρ w → a.wp P (Qv (fun ρ' w' => I A L ρ' w' ∧ μ ρ' w' < μ ρ w) Q) ρ w) (hA : evs ρ ts = A := by (repeat (apply evs_c; · ((conv => lhs; whnf); first | done | exact rfl))); exact evs_n _) : (LC.loop a).wp P Q ρ w := s_loop (I A L) μ h0 h
theorem zML {a b : LC} (hS : St c w L) (ts : List Nat) {A : List (Nat × Value)} (I : List (Nat × Value) → List Res → Env → World → Prop) (ha : a.wp P (Qv (I A L) Q) ρ w) (hb : ∀ ρ w, I A L ρ w → b.wp P Q ρ w) (hA : evs ρ ts = A := by (repeat (apply evs_c; · ((conv => lhs; whnf); first | done | exact rfl))); exact evs_n _) : (LC.seq a b).wp P Q ρ w := s_mid (I A L) ha hb
theorem St.sp {L' : List Res} (h : St c w L) (e : SubP L' L := by (repeat constructor); first | done | fail) : St c w L' := h.subP e
theorem fd {r' : Res} (h : NthP L i r' := by repeat constructor) : nth L i = some r' := h.nth
theorem vw {a b : Value} (h : a = b := by (conv => lhs; whnf); first | done | exact rfl) : a = b := h
theorem St.p3 {L1 L2 L3 : List Res} {r1 r2 r3 : Res} (h : St c w L) (p1 : Pick L r1 L1 := by repeat constructor) (p2 : Pick L1 r2 L2 := by repeat constructor) (p3 : Pick L2 r3 L3 := by repeat constructor) : St c w (r1 :: r2 :: r3 :: L3) := h.pick3 p1 p2 p3
end
end Go.Lir
namespace Go.Proofs
open Go.Shelf
def Tryd.lays137_ren : Go.Shelf.Ren := ⟨fun | 137 => 33 | 217 => 55 | 266 => 77 | n => n, fun | 9 => 9 | 5 => 5 | 3 => 3 | n => n, fun | n => n⟩
theorem Tryd.lays137 : Go.Proofs.Lays.n137 Tryd.prog Tryd.lays137_ren := {
  mixed := by kernel_rfl
  f137 := Tryd.func33.trans (congrArg some (by kernel_rfl))
  f217 := Tryd.func55.trans (congrArg some (by kernel_rfl))
  f266 := Tryd.func77.trans (congrArg some (by kernel_rfl))
  t3 := Tryd.underlying3
  a3 := Tryd.isAgg3
  z3 := Tryd.sizeOf3
  v3 := Tryd.zeroValue3
  t5 := Tryd.underlying5
  a5 := Tryd.isAgg5
  z5 := Tryd.sizeOf5
  v5 := Tryd.zeroValue5
  t9 := Tryd.underlying9
  a9 := Tryd.isAgg9
  z9 := Tryd.sizeOf9
  v9 := Tryd.zeroValue9 }
open Go.RowKit in
/-- strings.IndexByte: "IndexByte returns the index of the first instance of c in s, or -1 if c is not present in s.": IT RETURNS 'Lib.indexByte s c'; the world is as it was. (LAID: no walk: one application.) -/
theorem Tryd.strings_IndexByte (s : ByteArray) (c : Int) (w : World) :
    Calls Tryd.prog 33 #[.string s, .int .u8 c] w fun e w' => e = .returned (.int .i64 (Lib.indexByte s.data.toList c.toNat.toUInt8)) ∧ w' = w := Any.strings_IndexByte Tryd.lays137 s c w
def Tryd.laysM246_ren : Go.Shelf.Ren := ⟨fun | 246 => 58 | 283 => 83 | 284 => 84 | 285 => 85 | 286 => 86 | 129 => 100 | 317 => 99 | 318 => 101 | 319 => 102 | 320 => 103 | 337 => 106 | 338 => 107 | n => n, fun | 2 => 2 | 3 => 3 | 9 => 9 | 4 => 4 | 171 => 131 | 0 => 0 | 53 => 124 | 37 => 95 | 5 => 5 | 173 => 134 | 212 => 150 | 51 => 151 | 20 => 20 | 213 => 152 | 46 => 127 | 232 => 162 | 233 => 163 | n => n, fun | 17 => 3 | 18 => 4 | 19 => 5 | n => n⟩
theorem Tryd.laysM246 : Go.Proofs.LaysM.n246 Tryd.prog Tryd.laysM246_ren := {
  mixed := by kernel_rfl
  f129 := Tryd.func100.trans (congrArg some (by kernel_rfl))
  f246 := Tryd.func58.trans (congrArg some (by kernel_rfl))
  f283 := Tryd.func83.trans (congrArg some (by kernel_rfl))
  f284 := Tryd.func84.trans (congrArg some (by kernel_rfl))
  f285 := Tryd.func85.trans (congrArg some (by kernel_rfl))
  f286 := Tryd.func86.trans (congrArg some (by kernel_rfl))
  f317 := Tryd.func99.trans (congrArg some (by kernel_rfl))
  f318 := Tryd.func101.trans (congrArg some (by kernel_rfl))
  f319 := Tryd.func102.trans (congrArg some (by kernel_rfl))
  f320 := Tryd.func103.trans (congrArg some (by kernel_rfl))
  f337 := Tryd.func106.trans (congrArg some (by kernel_rfl))
  f338 := Tryd.func107.trans (congrArg some (by kernel_rfl))
  t0 := Tryd.underlying0
  a0 := Tryd.isAgg0
  z0 := Tryd.sizeOf0
  v0 := Tryd.zeroValue0
  t2 := Tryd.underlying2
  a2 := Tryd.isAgg2
  z2 := Tryd.sizeOf2
  v2 := Tryd.zeroValue2
  t3 := Tryd.underlying3
  a3 := Tryd.isAgg3
  z3 := Tryd.sizeOf3
  v3 := Tryd.zeroValue3
  t4 := Tryd.underlying4
  a4 := Tryd.isAgg4
  z4 := Tryd.sizeOf4
  v4 := Tryd.zeroValue4
  t5 := Tryd.underlying5
  a5 := Tryd.isAgg5
  z5 := Tryd.sizeOf5
  v5 := Tryd.zeroValue5
  t9 := Tryd.underlying9
  a9 := Tryd.isAgg9
  z9 := Tryd.sizeOf9
  v9 := Tryd.zeroValue9
  t20 := Tryd.underlying20
  a20 := Tryd.isAgg20
  z20 := Tryd.sizeOf20
  v20 := Tryd.zeroValue20
  t37 := Tryd.underlying95
  a37 := Tryd.isAgg95
  z37 := Tryd.sizeOf95
  v37 := Tryd.zeroValue95
  t46 := Tryd.underlying127
  a46 := Tryd.isAgg127
  z46 := Tryd.sizeOf127
  v46 := Tryd.zeroValue127
  t51 := Tryd.underlying151
  a51 := Tryd.isAgg151
  z51 := Tryd.sizeOf151
  v51 := Tryd.zeroValue151
  t53 := Tryd.underlying124
  a53 := Tryd.isAgg124
  z53 := Tryd.sizeOf124
  v53 := Tryd.zeroValue124
  t171 := Tryd.underlying131
  a171 := Tryd.isAgg131
  z171 := Tryd.sizeOf131
  v171 := Tryd.zeroValue131
  t173 := Tryd.underlying134
  a173 := Tryd.isAgg134
  z173 := Tryd.sizeOf134
  v173 := Tryd.zeroValue134
  t212 := Tryd.underlying150
  a212 := Tryd.isAgg150
  z212 := Tryd.sizeOf150
  v212 := Tryd.zeroValue150
  t213 := Tryd.underlying152
  a213 := Tryd.isAgg152
  z213 := Tryd.sizeOf152
  t232 := Tryd.underlying162
  a232 := Tryd.isAgg162
  z232 := Tryd.sizeOf162
  v232 := Tryd.zeroValue162
  t233 := Tryd.underlying163
  a233 := Tryd.isAgg163
  z233 := Tryd.sizeOf163
  v233 := Tryd.zeroValue163
  g17 := by kernel_rfl
  g18 := by kernel_rfl
  g19 := by kernel_rfl
  i0 := by kernel_rfl
  i2 := by kernel_rfl
  i3 := by kernel_rfl
  i4 := by kernel_rfl
  i5 := by kernel_rfl
  i9 := by kernel_rfl
  i20 := by kernel_rfl
  i37 := by kernel_rfl
  i46 := by kernel_rfl
  i51 := by kernel_rfl
  i53 := by kernel_rfl
  i171 := by kernel_rfl
  i173 := by kernel_rfl
  i212 := by kernel_rfl
  i232 := by kernel_rfl
  i233 := by kernel_rfl
  m17 := by kernel_rfl
  m18 := by kernel_rfl
  m19 := by kernel_rfl }
open Go.RowKit Go.Sort Go.Lib in
/-- internal/strconv.FormatInt: "FormatInt returns the string representation of i in the given base": AT BASE 10: i's decimal numeral, for every int64. The world behind the call: the world before it, new blocks behind the heap, draws. (LAID: no walk: one application.) -/
theorem Tryd.internal_strconv_FormatInt_10 (n : Int) (h0 : -9223372036854775808 ≤ n) (h1 : n ≤ 9223372036854775807) (w : World) (htab : Lib.TabIs Tryd.prog w "internal/strconv.uint64pow10" .u64 Lib.pow10Tab) :
    Calls Tryd.prog 58 #[.int .i64 n, .int .i64 10] w fun e w' => e = .returned (.string ⟨(Lib.itoa n).toArray⟩) ∧ ∃ k os, w' = grow (w.drewN k) os := Any.internal_strconv_FormatInt_10 Tryd.laysM246 n h0 h1 w htab
def Tryd.laysC174_ren : Go.Shelf.Ren := ⟨fun | 174 => 34 | 247 => 56 | 245 => 57 | 287 => 78 | 279 => 79 | 280 => 80 | 281 => 81 | 282 => 82 | 321 => 95 | 322 => 96 | 316 => 97 | 171 => 70 | 205 => 98 | 243 => 93 | 246 => 58 | 283 => 83 | 284 => 84 | 285 => 85 | 286 => 86 | 129 => 100 | 317 => 99 | 318 => 101 | 319 => 102 | 320 => 103 | 337 => 106 | 338 => 107 | n => n, fun | 9 => 9 | 3 => 3 | 2 => 2 | 75 => 77 | 85 => 78 | 4 => 4 | 167 => 123 | 5 => 5 | 53 => 124 | 175 => 125 | 46 => 127 | 168 => 128 | 37 => 95 | 0 => 0 | 210 => 147 | 21 => 21 | 127 => 122 | 145 => 158 | 143 => 156 | 171 => 131 | 173 => 134 | 212 => 150 | 51 => 151 | 20 => 20 | 213 => 152 | 232 => 162 | 233 => 163 | 80 => 104 | n => n, fun | 15 => 1 | 16 => 2 | 17 => 3 | 18 => 4 | 19 => 5 | n => n⟩
theorem Tryd.laysC174 : Go.Proofs.LaysC.n174 Tryd.prog Tryd.laysC174_ren := {
  mixed := by kernel_rfl
  f129 := Tryd.func100.trans (congrArg some (by kernel_rfl))
  f171 := Tryd.func70.trans (congrArg some (by kernel_rfl))
  f174 := Tryd.func34.trans (congrArg some (by kernel_rfl))
  f205 := Tryd.func98.trans (congrArg some (by kernel_rfl))
  f243 := Tryd.func93.trans (congrArg some (by kernel_rfl))
  f245 := Tryd.func57.trans (congrArg some (by kernel_rfl))
  f246 := Tryd.func58.trans (congrArg some (by kernel_rfl))
  f247 := Tryd.func56.trans (congrArg some (by kernel_rfl))
  f279 := Tryd.func79.trans (congrArg some (by kernel_rfl))
  f280 := Tryd.func80.trans (congrArg some (by kernel_rfl))
  f281 := Tryd.func81.trans (congrArg some (by kernel_rfl))
  f282 := Tryd.func82.trans (congrArg some (by kernel_rfl))
  f283 := Tryd.func83.trans (congrArg some (by kernel_rfl))
  f284 := Tryd.func84.trans (congrArg some (by kernel_rfl))
  f285 := Tryd.func85.trans (congrArg some (by kernel_rfl))
  f286 := Tryd.func86.trans (congrArg some (by kernel_rfl))
  f287 := Tryd.func78.trans (congrArg some (by kernel_rfl))
  f316 := Tryd.func97.trans (congrArg some (by kernel_rfl))
  f317 := Tryd.func99.trans (congrArg some (by kernel_rfl))
  f318 := Tryd.func101.trans (congrArg some (by kernel_rfl))
  f319 := Tryd.func102.trans (congrArg some (by kernel_rfl))
  f320 := Tryd.func103.trans (congrArg some (by kernel_rfl))
  f321 := Tryd.func95.trans (congrArg some (by kernel_rfl))
  f322 := Tryd.func96.trans (congrArg some (by kernel_rfl))
  f337 := Tryd.func106.trans (congrArg some (by kernel_rfl))
  f338 := Tryd.func107.trans (congrArg some (by kernel_rfl))
  t0 := Tryd.underlying0
  a0 := Tryd.isAgg0
  z0 := Tryd.sizeOf0
  v0 := Tryd.zeroValue0
  t2 := Tryd.underlying2
  a2 := Tryd.isAgg2
  z2 := Tryd.sizeOf2
  v2 := Tryd.zeroValue2
  t3 := Tryd.underlying3
  a3 := Tryd.isAgg3
  z3 := Tryd.sizeOf3
  v3 := Tryd.zeroValue3
  t4 := Tryd.underlying4
  a4 := Tryd.isAgg4
  z4 := Tryd.sizeOf4
  v4 := Tryd.zeroValue4
  t5 := Tryd.underlying5
  a5 := Tryd.isAgg5
  z5 := Tryd.sizeOf5
  v5 := Tryd.zeroValue5
  t9 := Tryd.underlying9
  a9 := Tryd.isAgg9
  z9 := Tryd.sizeOf9
  v9 := Tryd.zeroValue9
  t20 := Tryd.underlying20
  a20 := Tryd.isAgg20
  z20 := Tryd.sizeOf20
  v20 := Tryd.zeroValue20
  t21 := Tryd.underlying21
  a21 := Tryd.isAgg21
  z21 := Tryd.sizeOf21
  v21 := Tryd.zeroValue21
  t37 := Tryd.underlying95
  a37 := Tryd.isAgg95
  z37 := Tryd.sizeOf95
  v37 := Tryd.zeroValue95
  t46 := Tryd.underlying127
  a46 := Tryd.isAgg127
  z46 := Tryd.sizeOf127
  v46 := Tryd.zeroValue127
  t51 := Tryd.underlying151
  a51 := Tryd.isAgg151
  z51 := Tryd.sizeOf151
  v51 := Tryd.zeroValue151
  t53 := Tryd.underlying124
  a53 := Tryd.isAgg124
  z53 := Tryd.sizeOf124
  v53 := Tryd.zeroValue124
  t75 := Tryd.underlying77
  a75 := Tryd.isAgg77
  z75 := Tryd.sizeOf77
  v75 := Tryd.zeroValue77
  t85 := Tryd.underlying78
  a85 := Tryd.isAgg78
  z85 := Tryd.sizeOf78
  v85 := Tryd.zeroValue78
  t127 := Tryd.underlying122
  a127 := Tryd.isAgg122
  z127 := Tryd.sizeOf122
  v127 := Tryd.zeroValue122
  t143 := Tryd.underlying156
  a143 := Tryd.isAgg156
  z143 := Tryd.sizeOf156
  v143 := Tryd.zeroValue156
  t145 := Tryd.underlying158
  a145 := Tryd.isAgg158
  z145 := Tryd.sizeOf158
  v145 := Tryd.zeroValue158
  t167 := Tryd.underlying123
  a167 := Tryd.isAgg123
  z167 := Tryd.sizeOf123
  v167 := Tryd.zeroValue123
  t168 := Tryd.underlying128
  a168 := Tryd.isAgg128
  z168 := Tryd.sizeOf128
  v168 := Tryd.zeroValue128
  t171 := Tryd.underlying131
  a171 := Tryd.isAgg131
  z171 := Tryd.sizeOf131
  v171 := Tryd.zeroValue131
  t173 := Tryd.underlying134
  a173 := Tryd.isAgg134
  z173 := Tryd.sizeOf134
  v173 := Tryd.zeroValue134
  t175 := Tryd.underlying125
  a175 := Tryd.isAgg125
  z175 := Tryd.sizeOf125
  v175 := Tryd.zeroValue125
  t210 := Tryd.underlying147
  a210 := Tryd.isAgg147
  z210 := Tryd.sizeOf147
  v210 := Tryd.zeroValue147
  t212 := Tryd.underlying150
  a212 := Tryd.isAgg150
  z212 := Tryd.sizeOf150
  v212 := Tryd.zeroValue150
  t213 := Tryd.underlying152
  a213 := Tryd.isAgg152
  z213 := Tryd.sizeOf152
  t232 := Tryd.underlying162
  a232 := Tryd.isAgg162
  z232 := Tryd.sizeOf162
  v232 := Tryd.zeroValue162
  t233 := Tryd.underlying163
  a233 := Tryd.isAgg163
  z233 := Tryd.sizeOf163
  v233 := Tryd.zeroValue163
  g15 := by kernel_rfl
  g16 := by kernel_rfl
  g17 := by kernel_rfl
  g18 := by kernel_rfl
  g19 := by kernel_rfl
  t80 := Tryd.underlying104
  a80 := Tryd.isAgg104
  z80 := Tryd.sizeOf104
  v80 := Tryd.zeroValue104
  i0 := by kernel_rfl
  i2 := by kernel_rfl
  i3 := by kernel_rfl
  i4 := by kernel_rfl
  i5 := by kernel_rfl
  i9 := by kernel_rfl
  i20 := by kernel_rfl
  i21 := by kernel_rfl
  i37 := by kernel_rfl
  i46 := by kernel_rfl
  i51 := by kernel_rfl
  i53 := by kernel_rfl
  i75 := by kernel_rfl
  i80 := by kernel_rfl
  i85 := by kernel_rfl
  i127 := by kernel_rfl
  i143 := by kernel_rfl
  i145 := by kernel_rfl
  i167 := by kernel_rfl
  i168 := by kernel_rfl
  i171 := by kernel_rfl
  i173 := by kernel_rfl
  i175 := by kernel_rfl
  i210 := by kernel_rfl
  i212 := by kernel_rfl
  i232 := by kernel_rfl
  i233 := by kernel_rfl
  m15 := by kernel_rfl
  m16 := by kernel_rfl
  m17 := by kernel_rfl
  m18 := by kernel_rfl
  m19 := by kernel_rfl
  c0 := by kernel_rfl
  c2 := by kernel_rfl
  c3 := by kernel_rfl
  c4 := by kernel_rfl
  c5 := by kernel_rfl
  c9 := by kernel_rfl
  c20 := by kernel_rfl
  c21 := by kernel_rfl
  c37 := by kernel_rfl
  c46 := by kernel_rfl
  c51 := by kernel_rfl
  c53 := by kernel_rfl
  c75 := by kernel_rfl
  c80 := by kernel_rfl
  c85 := by kernel_rfl
  c127 := by kernel_rfl
  c143 := by kernel_rfl
  c145 := by kernel_rfl
  c167 := by kernel_rfl
  c168 := by kernel_rfl
  c171 := by kernel_rfl
  c173 := by kernel_rfl
  c175 := by kernel_rfl
  c210 := by kernel_rfl
  c212 := by kernel_rfl
  c213 := by kernel_rfl
  c232 := by kernel_rfl
  c233 := by kernel_rfl }
open Go.RowKit in
/-- strconv.ParseInt(s, 10, 64), AT EVERY STRING THAT SPELLS AN int64 ('Lib.parseIntB 64 s.data.toList = .ok v'): v, AND NO ERROR. (LAID: no walk: one application.) -/
theorem Tryd.strconv_ParseInt_10_at64_ok (s : ByteArray) (hmax : s.size ≤ 9223372036854775806) (v : Int) (h : Lib.parseIntB 64 s.data.toList = .ok v) (w : World) :
    Calls Tryd.prog 34 #[.string s, .int .i64 10, .int .i64 64] w fun e w' => e = .returned (.tuple #[.int .i64 v, .nilIface]) ∧ (w' = w ∨ ∃ t, w' = Lib.bytesWorld w 5 t) := Any.strconv_ParseInt_10_at64_ok Tryd.laysC174 s hmax v h w
open Go.RowKit in
/-- strconv.ParseInt(s, 10, 64), AT EVERY STRING THAT IS NO DECIMAL NUMERAL: 0, AND AN ERROR THAT IS NOT nil: a *NumError in a new block N: {Func: "ParseInt", Num: s's bytes, Err: what the variable ErrSyntax holds}. Of what was there nothing has turned. (LAID: no walk: one application.) -/
theorem Tryd.strconv_ParseInt_10_at64_syntax (s : ByteArray) (hlim : s.size ≤ 281474976710656) (h : Lib.parseIntB 64 s.data.toList = Lib.parseIntB 64 []) (ev : Value) (w : World) (hv : w.cell? ⟨1, 0, none⟩ = some ev) (hev : ev = .nilIface ∨ ∃ te pe, ev = .iface te pe) :
    Calls Tryd.prog 34 #[.string s, .int .i64 10, .int .i64 64] w fun e w' => ∃ N, e = .returned (.tuple #[.int .i64 (0), .iface 128 (.pointer (some ⟨N, 0, none⟩))]) ∧ w.heap.size ≤ N ∧ w'.heap[N]? = some (.cells #[.string ⟨#[80, 97, 114, 115, 101, 73, 110, 116]⟩, .string s, ev] 147 (0, 0)) ∧ Below w.heap.size w w' := Any.strconv_ParseInt_10_at64_syntax Tryd.laysC174 s hlim h ev w hv hev
open Go.RowKit in
/-- strconv.ParseInt(s, 10, 64), AT EVERY NUMERAL THAT NO int64 HOLDS: THE GREATEST OR THE LEAST int64, BY THE SIGN ('Lib.intSat 64'), AND AN ERROR THAT IS NOT nil: a *NumError in a new block N: {Func: "ParseInt", Num: s's bytes, Err: what the variable ErrRange holds}. Of what was there nothing has turned. (LAID: no walk: one application.) -/
theorem Tryd.strconv_ParseInt_10_at64_range (s : ByteArray) (hlim : s.size ≤ 281474976710656) (h : Lib.parseIntB 64 s.data.toList = .range) (ev : Value) (w : World) (hv : w.cell? ⟨2, 0, none⟩ = some ev) (hev : ev = .nilIface ∨ ∃ te pe, ev = .iface te pe) :
    Calls Tryd.prog 34 #[.string s, .int .i64 10, .int .i64 64] w fun e w' => ∃ N, e = .returned (.tuple #[.int .i64 (Lib.intSat 64 s.data.toList), .iface 128 (.pointer (some ⟨N, 0, none⟩))]) ∧ w.heap.size ≤ N ∧ w'.heap[N]? = some (.cells #[.string ⟨#[80, 97, 114, 115, 101, 73, 110, 116]⟩, .string s, ev] 147 (0, 0)) ∧ Below w.heap.size w w' := Any.strconv_ParseInt_10_at64_range Tryd.laysC174 s hlim h ev w hv hev
end Go.Proofs
namespace Go.Lir
@[reducible] def qm (d x : Nat) : GO := ⟨none, .mov d (.tmp x)⟩
@[reducible] def qk (d : Nat) (v : Value) : GO := ⟨none, .mov d (.const v)⟩
@[reducible] def qf (d x k : Nat) : GO := ⟨none, .fld d (.tmp x) k⟩
@[reducible] def ql (d x : Nat) : GO := ⟨none, .load1 d (.tmp x)⟩
@[reducible] def qV (d n x : Nat) : GO := ⟨none, .loadn d n (.tmp x)⟩
@[reducible] def qn (d x : Nat) : GO := ⟨none, .nilc d (.tmp x)⟩
@[reducible] def qL (d x : Nat) : GO := ⟨none, .len d (.tmp x)⟩
@[reducible] def qs (x y : Nat) : GO := ⟨none, .store1 (.tmp x) (.tmp y)⟩
@[reducible] def qw (n x y : Nat) : GO := ⟨none, .storen n (.tmp x) (.tmp y)⟩
@[reducible] def qi (d es x y : Nat) : GO := ⟨none, .idx d es (.tmp x) (.tmp y)⟩
@[reducible] def qx (d x k : Nat) : GO := ⟨none, .ext d (.tmp x) k⟩
@[reducible] def qb (d T x : Nat) : GO := ⟨none, .box d T (.tmp x)⟩
@[reducible] def qt (d : Nat) (o : BinOp) (T x y : Nat) : GO := ⟨none, .bin d o T (.tmp x) (.tmp y)⟩
@[reducible] def qj (d : Nat) (o : BinOp) (T x : Nat) (n : Int) : GO := ⟨none, .bin d o T (.tmp x) (.const (.int .i64 n))⟩
@[reducible] def qg (s : Nat) (b : Bool) (o : GO) : GO := ⟨some (s, b), o.2⟩
@[reducible] def vi (n : Int) : Value := .int .i64 n
@[reducible] def vn : Value := .slice none 0 0
end Go.Lir
namespace Go.Proofs.YtjecflbbcnocdaaDoor
open Go.Lir
set_option maxRecDepth 100000

/- 3 -/
def Q3r : List GO := [qk 2 (.bool false)]
def Q3q : List GO := [⟨none, .call (some 8) 6 []⟩, ⟨none, .un 9 .not (.tmp 8)⟩]
def Q3p : List GO := [qk 2 (.bool false)]
def Q3o : List GO := [qm 10 0, ⟨none, .slen 11 (.tmp 10)⟩, qj 12 .gtr 3 11 60000]
def Q3n : List GO := [qk 2 (.bool true)]
def Q3m : List GO := [qm 14 0, ⟨none, .call (some 15) 7 [(.tmp 14)]⟩, qm 13 15, qx 16 13 0, qx 17 13 1, ⟨none, .alloc 4 25 [(vi 0), (vi 0)]⟩, qm 3 16, qw 2 4 17]
def Q3l : List GO := [qm 19 0, ⟨none, .call (some 20) 8 [(.tmp 19)]⟩, qm 18 20, qx 21 18 0, qx 22 18 1, ⟨none, .alloc 6 25 [(vi 0), (vi 0)]⟩, qm 5 21, qw 2 6 22]
def Q3k : List GO := [qV 23 2 4, qV 24 2 6, qt 25 .neq 25 23 24, qm 26 25, qg 26 false (qm 27 3), qg 26 false (qL 28 27), qg 26 false (qm 29 5), qg 26 false (qL 30 29), qg 26 false (qt 31 .neq 3 28 30), ⟨none, .pick 32 (.tmp 26) (.const (.bool true)) (.tmp 31)⟩]
def Q3j : List GO := [qk 2 (.bool false)]
def Q3i : List GO := [qk 7 (vi 0)]
def Q31 : List GO := [qm 33 7, qm 34 3, qL 35 34, qt 36 .lss 3 33 35]
def Q30 : List GO := [qm 39 3, qm 40 7, qi 41 4 39 40, qf 42 41 0, ql 43 42, qm 44 5, qm 45 7, qi 46 4 44 45, qf 47 46 0, ql 48 47, qt 49 .neq 3 43 48, qm 50 49, qg 50 false (qm 51 3), qg 50 false (qm 52 7), qg 50 false (qi 53 4 51 52), qg 50 false (qf 54 53 1), qg 50 false (ql 55 54), qg 50 false (qm 56 5), qg 50 false (qm 57 7), qg 50 false (qi 58 4 56 57), qg 50 false (qf 59 58 1), qg 50 false (ql 60 59), qg 50 false (qt 61 .neq 9 55 60), ⟨none, .pick 62 (.tmp 50) (.const (.bool true)) (.tmp 61)⟩, qm 63 62, qg 63 false (qm 64 3), qg 63 false (qm 65 7), qg 63 false (qi 66 4 64 65), qg 63 false (qf 67 66 2), qg 63 false (ql 68 67), qg 63 false (qm 69 5), qg 63 false (qm 70 7), qg 63 false (qi 71 4 69 70), qg 63 false (qf 72 71 2), qg 63 false (ql 73 72), qg 63 false (qt 74 .neq 4 68 73), ⟨none, .pick 75 (.tmp 63) (.const (.bool true)) (.tmp 74)⟩, qm 76 75, qg 76 false (qm 77 3), qg 76 false (qm 78 7), qg 76 false (qi 79 4 77 78), qg 76 false (qf 80 79 3), qg 76 false (ql 81 80), qg 76 false (qm 82 5), qg 76 false (qm 83 7), qg 76 false (qi 84 4 82 83), qg 76 false (qf 85 84 3), qg 76 false (ql 86 85), qg 76 false (qt 87 .neq 2 81 86), ⟨none, .pick 88 (.tmp 76) (.const (.bool true)) (.tmp 87)⟩]
def Q33 : List (List Nat) := [[],[],[0,1],[2],[3],[],[],[5,6],[7],[8],[4,9],[10],[11],[11],[12,13,11],[14,11],[15,11],[11],[11],[17,18,11],[19,11],[20,11],[16,21,11],[11,22],[23,11],[24],[24],[25,26,24],[27,24],[28,24],[24],[24],[30,31,24],[32,24],[33,24],[29,34,24],[24,35],[36,24],[37],[37],[38,39,37],[40,37],[41,37],[37],[37],[43,44,37],[45,37],[46,37],[42,47,37],[37,48]]
def Q2Z : List GO := [qk 2 (.bool false)]
def Q2Y : List GO := [qm 37 7, qj 38 .add 3 37 1, qm 7 38]
def QZ : LC := (.seq (.seq (.ops Q31) (.cond (.tmp 36) .skip (.exit 0))) (.seq (.block 1 (.seq (.draw Q30 Q33) (.cond (.tmp 88) (.seq (.ops Q2Z) .ret) .skip))) (.ops Q2Y)))
def Q2X : List GO := [qk 2 (.bool true)]
def Law_TokenScans_lc : LC := (.seq (.ops Q3r) (.seq (.seq (.ops Q3q) (.cond (.tmp 9) (.seq (.ops Q3p) .ret) .skip)) (.seq (.seq (.ops Q3o) (.cond (.tmp 12) (.seq (.ops Q3n) .ret) .skip)) (.seq (.ops Q3m) (.seq (.ops Q3l) (.seq (.seq (.ops Q3k) (.cond (.tmp 32) (.seq (.ops Q3j) .ret) .skip)) (.seq (.seq (.ops Q3i) (.block 0 (.loop QZ))) (.seq (.ops Q2X) .ret))))))))
@[reducible] def Qc : FuncId := 3
theorem Q32 : lowF Tryd.prog Tryd.f3 = some Law_TokenScans_lc := by kernel_rfl
theorem Q3s {a0 : Value} {w : World} {R : Ending → World → Prop} (h : Law_TokenScans_lc.wp Tryd.prog (retQ Tryd.prog [.tmp 2] R) (Qr [a0]) w) : Calls Tryd.prog Qc ⟨[a0]⟩ w R :=
  Q8 Tryd.func3 Q32 (by kernel_rfl) (by kernel_rfl) h

/- 4 -/
/- 6 -/
def Q3g : List GO := [qk 0 (.bool false)]
def Q3f : List GO := [⟨none, .call (some 4) 7 [(.const (.string ⟨#[106, 117, 109, 112, 32, 45, 49, 32, 60, 62, 59, 35, 32, 120]⟩))]⟩, qm 3 4, qx 5 3 0, qx 6 3 1, ⟨none, .alloc 2 25 [(vi 0), (vi 0)]⟩, qm 1 5, qw 2 2 6]
def Q3e : List GO := [qf 7 2 0, ql 8 7, qj 9 .eql 3 8 0, qm 10 9, qg 10 true (qm 11 1), qg 10 true (qL 12 11), qg 10 true (qj 13 .eql 3 12 5), ⟨none, .pick 14 (.tmp 10) (.tmp 13) (.const (.bool false))⟩, qm 15 14, qg 15 true (qm 16 1), ⟨some (15, true), .idx 17 4 (.tmp 16) (.const (vi 1))⟩, qg 15 true (qf 18 17 2), qg 15 true (ql 19 18), ⟨none, .pick 20 (.tmp 15) (.tmp 19) (.const (.bool false))⟩, qm 21 20, qg 21 true (qm 22 1), ⟨some (21, true), .idx 23 4 (.tmp 22) (.const (vi 1))⟩, qg 21 true (qf 24 23 3), qg 21 true (ql 25 24), qg 21 true (qj 26 .eql 2 25 (-1)), ⟨none, .pick 27 (.tmp 21) (.tmp 26) (.const (.bool false))⟩, qm 28 27, qg 28 true (qm 29 1), ⟨some (28, true), .idx 30 4 (.tmp 29) (.const (vi 4))⟩, qg 28 true (qf 31 30 0), qg 28 true (ql 32 31), qg 28 true (qj 33 .eql 3 32 10), ⟨none, .pick 34 (.tmp 28) (.tmp 33) (.const (.bool false))⟩, qm 0 34]
def Law_tokenBegun_lc : LC := (.seq (.ops Q3g) (.seq (.ops Q3f) (.seq (.ops Q3e) .ret)))
@[reducible] def Q2v : FuncId := 6
theorem Q2W : lowF Tryd.prog Tryd.f6 = some Law_tokenBegun_lc := by kernel_rfl
theorem Q3h {w : World} {R : Ending → World → Prop} (h : Law_tokenBegun_lc.wp Tryd.prog (retQ Tryd.prog [.tmp 0] R) (Qr []) w) : Calls Tryd.prog Q2v ⟨[]⟩ w R :=
  Q8 Tryd.func6 Q2W (by kernel_rfl) (by kernel_rfl) h

/- 7 -/
def Q4D : List GO := [qk 2 vn, ⟨none, .alloc 3 25 [(vi 0), (vi 0)]⟩]
def Q4C : List GO := [qm 9 0, ⟨none, .slen 10 (.tmp 9)⟩, qj 11 .gtr 3 10 40000]
def Q4B : List GO := [⟨none, .build 12 [(vi 0), (vi 0)] [(0, (1, (.const (vi 2)))), (1, (1, (.const (vi 40000))))]⟩, qk 2 vn, qw 2 3 12]
def Q4A : List GO := [qm 13 0, ⟨none, .build 14 [(.string ⟨#[]⟩), (vi 0)] [(0, (1, (.tmp 13)))]⟩, qb 15 44 14, qm 4 15]
def Q4z : List GO := [qk 5 vn]
def Q4y : List GO := [qm 16 4, ⟨none, .call (some 17) 13 [(.tmp 16)]⟩]
def Q4x : List GO := [qm 18 4, qn 19 18, qf 20 19 1, ql 21 20, qm 22 0, ⟨none, .slen 23 (.tmp 22)⟩, qt 24 .lss 3 21 23]
def Q4w : List GO := [qm 27 4, qn 28 27, qf 29 28 1, ql 30 29, qm 6 30]
def Q4v : List GO := [qm 32 4, ⟨none, .call (some 33) 14 [(.tmp 32)]⟩, qm 31 33, qx 34 31 0, qx 35 31 1, ⟨none, .alloc 7 32 [(vi 0), (.string ⟨#[]⟩), (.bool false), (vi 0)]⟩, qw 4 7 34, qm 8 35]
def Q4u : List GO := [qm 36 8, qj 37 .neq 3 36 0]
def Q4c : List GO := [qm 38 8, qm 39 6, ⟨none, .build 40 [(vi 0), (vi 0)] [(0, (1, (.tmp 38))), (1, (1, (.tmp 39)))]⟩, qk 2 vn, qw 2 3 40]
def Q4b : List GO := [qm 41 5, qV 42 4 7, ⟨none, .buildS 43 32 1 [(vi 0), (.string ⟨#[]⟩), (.bool false), (vi 0)] [(0, (4, (.tmp 42)))]⟩, ⟨none, .raw ⟨(some 44), (.call ⟨(.builtin .append), #[(.tmp 41), (.tmp 43)], #[23, 23]⟩), 23, "", #[], none⟩⟩, qm 5 44]
def Q4a : List GO := [qm 25 4, ⟨none, .call (some 26) 13 [(.tmp 25)]⟩]
def Q2H : LC := (.seq (.seq (.ops Q4x) (.cond (.tmp 24) .skip (.exit 0))) (.seq (.block 1 (.seq (.ops Q4w) (.seq (.ops Q4v) (.seq (.seq (.ops Q4u) (.cond (.tmp 37) (.seq (.ops Q4c) .ret) .skip)) (.ops Q4b))))) (.ops Q4a)))
def Q49 : List GO := [qm 45 5, ⟨none, .build 46 [(vi 0), (vi 0)] []⟩, qm 2 45, qw 2 3 46]
def token_Scan_lc : LC := (.seq (.ops Q4D) (.seq (.seq (.ops Q4C) (.cond (.tmp 11) (.seq (.ops Q4B) .ret) .skip)) (.seq (.ops Q4A) (.seq (.ops Q4z) (.seq (.seq (.ops Q4y) (.block 0 (.loop Q2H))) (.seq (.ops Q49) .ret))))))
@[reducible] def Qx : FuncId := 7
theorem Q4d : lowF Tryd.prog Tryd.f7 = some token_Scan_lc := by kernel_rfl
theorem Q4E {a0 : Value} {w : World} {R : Ending → World → Prop} (h : token_Scan_lc.wp Tryd.prog (retQ Tryd.prog [.tmp 2, .cell 3 25] R) (Qr [a0]) w) : Calls Tryd.prog Qx ⟨[a0]⟩ w R :=
  Q8 Tryd.func7 Q4d (by kernel_rfl) (by kernel_rfl) h

/- 8 -/
def Q7W : List GO := [qk 2 vn, ⟨none, .alloc 3 25 [(vi 0), (vi 0)]⟩]
def Q7V : List GO := [qm 9 0, ⟨none, .slen 10 (.tmp 9)⟩, qj 11 .gtr 3 10 40000]
def Q7U : List GO := [⟨none, .call (some 12) 15 [(.const (vi 2)), (.const (vi 40000))]⟩, qk 2 vn, qw 2 3 12]
def Q7T : List GO := [qk 4 vn]
def Q7S : List GO := [qm 13 0, ⟨none, .call (some 14) 16 [(.tmp 13), (.const (vi 0))]⟩, qm 5 14]
def Q7R : List GO := [qm 15 5, qm 16 0, ⟨none, .slen 17 (.tmp 16)⟩, qt 18 .lss 3 15 17]
def Q7Q : List GO := [qm 19 5, qm 6 19]
def Q7P : List GO := [qm 20 0, qm 21 5, ⟨none, .sidx 22 (.tmp 20) (.tmp 21)⟩, ⟨none, .call (some 23) 17 [(.tmp 22)]⟩]
def Q7O : List GO := [qm 24 5, qm 25 0, ⟨none, .slen 26 (.tmp 25)⟩, qt 27 .lss 3 24 26, qm 28 27, qg 28 true (qm 29 0), qg 28 true (qm 30 5), ⟨some (28, true), .sidx 31 (.tmp 29) (.tmp 30)⟩, ⟨some (28, true), .call (some 32) 17 [(.tmp 31)]⟩, ⟨none, .pick 33 (.tmp 28) (.tmp 32) (.const (.bool false))⟩]
def Q7N : List GO := [qm 34 5, qj 35 .add 3 34 1, qm 5 35]
def Q5o : LC := (.seq (.seq (.ops Q7O) (.cond (.tmp 33) .skip (.exit 2))) (.block 3 (.ops Q7N)))
def Q7a : List GO := [qm 36 4, qm 37 6, qm 38 0, qm 39 6, qm 40 5, ⟨none, .ssub 41 (.tmp 38) (some (.tmp 39)) (some (.tmp 40))⟩, ⟨none, .build 42 [(vi 0), (.string ⟨#[]⟩), (.bool false), (vi 0)] [(0, (1, (.tmp 37))), (1, (1, (.tmp 41)))]⟩, ⟨none, .buildS 43 33 1 [(vi 0), (.string ⟨#[]⟩), (.bool false), (vi 0)] [(0, (4, (.tmp 42)))]⟩, ⟨none, .raw ⟨(some 44), (.call ⟨(.builtin .append), #[(.tmp 36), (.tmp 43)], #[28, 28]⟩), 28, "", #[], none⟩⟩, qm 4 44]
def Q79 : List GO := [qm 45 0, qm 46 5, ⟨none, .sidx 47 (.tmp 45) (.tmp 46)⟩, ⟨none, .call (some 48) 18 [(.tmp 47)]⟩]
def Q78 : List GO := [qm 49 5, qj 50 .add 3 49 1, qm 5 50]
def Q77 : List GO := [qm 51 4, qm 52 6, qm 53 0, qm 54 6, qm 55 5, ⟨none, .ssub 56 (.tmp 53) (some (.tmp 54)) (some (.tmp 55))⟩, ⟨none, .build 57 [(vi 0), (.string ⟨#[]⟩), (.bool false), (vi 0)] [(0, (1, (.tmp 52))), (1, (1, (.tmp 56)))]⟩, ⟨none, .buildS 58 33 1 [(vi 0), (.string ⟨#[]⟩), (.bool false), (vi 0)] [(0, (4, (.tmp 57)))]⟩, ⟨none, .raw ⟨(some 59), (.call ⟨(.builtin .append), #[(.tmp 51), (.tmp 58)], #[28, 28]⟩), 28, "", #[], none⟩⟩, qm 4 59]
def Q76 : List GO := [qm 60 0, qm 61 5, ⟨none, .sidx 62 (.tmp 60) (.tmp 61)⟩, ⟨none, .bin 63 .eql 5 (.tmp 62) (.const (.int .u8 45))⟩, qm 64 63, qg 64 true (qm 65 5), qg 64 true (qj 66 .add 3 65 1), qg 64 true (qm 67 0), ⟨some (64, true), .slen 68 (.tmp 67)⟩, qg 64 true (qt 69 .lss 3 66 68), ⟨none, .pick 70 (.tmp 64) (.tmp 69) (.const (.bool false))⟩, qm 71 70, qg 71 true (qm 72 0), qg 71 true (qm 73 5), qg 71 true (qj 74 .add 3 73 1), ⟨some (71, true), .sidx 75 (.tmp 72) (.tmp 74)⟩, ⟨some (71, true), .bin 76 .eql 5 (.tmp 75) (.const (.int .u8 62))⟩, ⟨none, .pick 77 (.tmp 71) (.tmp 76) (.const (.bool false))⟩]
def Q75 : List GO := [qm 78 5, qj 79 .add 3 78 2, qm 5 79]
def Q74 : List GO := [qm 80 4, qm 81 6, qm 82 0, qm 83 6, qm 84 5, ⟨none, .ssub 85 (.tmp 82) (some (.tmp 83)) (some (.tmp 84))⟩, ⟨none, .build 86 [(vi 0), (.string ⟨#[]⟩), (.bool false), (vi 0)] [(0, (1, (.tmp 81))), (1, (1, (.tmp 85)))]⟩, ⟨none, .buildS 87 33 1 [(vi 0), (.string ⟨#[]⟩), (.bool false), (vi 0)] [(0, (4, (.tmp 86)))]⟩, ⟨none, .raw ⟨(some 88), (.call ⟨(.builtin .append), #[(.tmp 80), (.tmp 87)], #[28, 28]⟩), 28, "", #[], none⟩⟩, qm 4 88]
def Q73 : List GO := [qm 89 0, qm 90 5, ⟨none, .sidx 91 (.tmp 89) (.tmp 90)⟩, ⟨none, .call (some 92) 19 [(.tmp 91)]⟩, qm 93 92, qg 93 false (qm 94 0), qg 93 false (qm 95 5), ⟨some (93, false), .sidx 96 (.tmp 94) (.tmp 95)⟩, ⟨some (93, false), .bin 97 .eql 5 (.tmp 96) (.const (.int .u8 45))⟩, qg 93 false (qm 98 97), qg 98 true (qm 99 5), qg 98 true (qj 100 .add 3 99 1), qg 98 true (qm 101 0), ⟨some (98, true), .slen 102 (.tmp 101)⟩, qg 98 true (qt 103 .lss 3 100 102), ⟨some (93, false), .pick 104 (.tmp 98) (.tmp 103) (.const (.bool false))⟩, qg 93 false (qm 105 104), qg 105 true (qm 106 0), qg 105 true (qm 107 5), qg 105 true (qj 108 .add 3 107 1), ⟨some (105, true), .sidx 109 (.tmp 106) (.tmp 108)⟩, ⟨some (105, true), .call (some 110) 19 [(.tmp 109)]⟩, ⟨some (93, false), .pick 111 (.tmp 105) (.tmp 110) (.const (.bool false))⟩, ⟨none, .pick 112 (.tmp 93) (.const (.bool true)) (.tmp 111)⟩]
def Q72 : List GO := [qm 113 5, qj 114 .add 3 113 1, qm 5 114]
def Q71 : List GO := [qm 115 5, qm 116 0, ⟨none, .slen 117 (.tmp 116)⟩, qt 118 .lss 3 115 117, qm 119 118, qg 119 true (qm 120 0), qg 119 true (qm 121 5), ⟨some (119, true), .sidx 122 (.tmp 120) (.tmp 121)⟩, ⟨some (119, true), .call (some 123) 19 [(.tmp 122)]⟩, ⟨none, .pick 124 (.tmp 119) (.tmp 123) (.const (.bool false))⟩]
def Q70 : List GO := [qm 125 5, qj 126 .add 3 125 1, qm 5 126]
def Q4r : LC := (.seq (.seq (.ops Q71) (.cond (.tmp 124) .skip (.exit 4))) (.block 5 (.ops Q70)))
def Q6Z : List GO := [qm 128 0, qm 129 6, qm 130 5, ⟨none, .ssub 131 (.tmp 128) (some (.tmp 129)) (some (.tmp 130))⟩, ⟨none, .call (some 132) 20 [(.tmp 131)]⟩, qm 127 132, qx 133 127 0, qx 134 127 1, qm 7 133, qm 8 134]
def Q6Y : List GO := [qm 135 8, ⟨none, .un 136 .not (.tmp 135)⟩]
def Q6X : List GO := [qm 137 6, ⟨none, .call (some 138) 15 [(.const (vi 8)), (.tmp 137)]⟩, qk 2 vn, qw 2 3 138]
def Q6W : List GO := [qm 139 4, qm 140 6, qm 141 0, qm 142 6, qm 143 5, ⟨none, .ssub 144 (.tmp 141) (some (.tmp 142)) (some (.tmp 143))⟩, qm 145 7, ⟨none, .build 146 [(vi 0), (.string ⟨#[]⟩), (.bool false), (vi 0)] [(0, (1, (.tmp 140))), (1, (1, (.tmp 144))), (2, (1, (.const (.bool true)))), (3, (1, (.tmp 145)))]⟩, ⟨none, .buildS 147 33 1 [(vi 0), (.string ⟨#[]⟩), (.bool false), (vi 0)] [(0, (4, (.tmp 146)))]⟩, ⟨none, .raw ⟨(some 148), (.call ⟨(.builtin .append), #[(.tmp 139), (.tmp 147)], #[28, 28]⟩), 28, "", #[], none⟩⟩, qm 4 148]
def Q6V : List GO := [qm 149 6, ⟨none, .call (some 150) 15 [(.const (vi 6)), (.tmp 149)]⟩, qk 2 vn, qw 2 3 150]
def Q6U : List GO := [qm 151 0, qm 152 5, ⟨none, .call (some 153) 16 [(.tmp 151), (.tmp 152)]⟩, qm 5 153]
def Q5p : LC := (.seq (.seq (.ops Q7R) (.cond (.tmp 18) .skip (.exit 0))) (.block 1 (.seq (.ops Q7Q) (.seq (.seq (.ops Q7P) (.cond (.tmp 23) (.seq (.block 2 (.loop Q5o)) (.ops Q7a)) (.seq (.ops Q79) (.cond (.tmp 48) (.seq (.ops Q78) (.ops Q77)) (.seq (.ops Q76) (.cond (.tmp 77) (.seq (.ops Q75) (.ops Q74)) (.seq (.ops Q73) (.cond (.tmp 112) (.seq (.ops Q72) (.seq (.block 4 (.loop Q4r)) (.seq (.ops Q6Z) (.seq (.seq (.ops Q6Y) (.cond (.tmp 136) (.seq (.ops Q6X) .ret) .skip)) (.ops Q6W))))) (.seq (.ops Q6V) .ret))))))))) (.ops Q6U)))))
def Q6T : List GO := [qm 154 4, ⟨none, .build 155 [(vi 0), (vi 0)] []⟩, qm 2 154, qw 2 3 155]
def R_Scan_lc : LC := (.seq (.ops Q7W) (.seq (.seq (.ops Q7V) (.cond (.tmp 11) (.seq (.ops Q7U) .ret) .skip)) (.seq (.ops Q7T) (.seq (.ops Q7S) (.seq (.block 0 (.loop Q5p)) (.seq (.ops Q6T) .ret))))))
@[reducible] def QG : FuncId := 8
theorem Q7b : lowF Tryd.prog Tryd.f8 = some R_Scan_lc := by kernel_rfl
theorem Q7X {a0 : Value} {w : World} {R : Ending → World → Prop} (h : R_Scan_lc.wp Tryd.prog (retQ Tryd.prog [.tmp 2, .cell 3 25] R) (Qr [a0]) w) : Calls Tryd.prog QG ⟨[a0]⟩ w R :=
  Q8 Tryd.func8 Q7b (by kernel_rfl) (by kernel_rfl) h

/- 13 -/
def Q1I : List GO := [qk 2 (.bool false)]
def Q1H : List GO := [qm 4 0, qn 5 4, qf 6 5 1, ql 7 6, qm 8 0, qn 9 8, qf 10 9 0, ql 11 10, ⟨none, .slen 12 (.tmp 11)⟩, qt 13 .lss 3 7 12]
def Q1L : List (List Nat) := [[],[0],[1],[2],[],[4],[5],[6],[7],[3,8]]
def Q1G : List GO := [qm 21 0, qn 22 21, qf 23 22 0, ql 24 23, qm 25 0, qn 26 25, qf 27 26 1, ql 28 27, ⟨none, .sidx 29 (.tmp 24) (.tmp 28)⟩, qm 3 29]
def Q1K : List (List Nat) := [[],[0],[1],[2],[],[4],[5],[6],[3,7],[8,0,1,2,3,4,5,6,7,8]]
def Q1F : List GO := [qm 31 3, ⟨none, .bin 32 .eql 5 (.tmp 31) (.const (.int .u8 10))⟩, qm 30 32]
def Q1E : List GO := [qk 2 (.bool false)]
def Q1D : List GO := [qm 34 2, qm 35 34, qg 35 false (qm 36 3), ⟨some (35, false), .bin 37 .eql 5 (.tmp 36) (.const (.int .u8 32))⟩, ⟨none, .pick 38 (.tmp 35) (.const (.bool true)) (.tmp 37)⟩, qm 39 38, qg 39 false (qm 40 3), ⟨some (39, false), .bin 41 .eql 5 (.tmp 40) (.const (.int .u8 9))⟩, ⟨none, .pick 42 (.tmp 39) (.const (.bool true)) (.tmp 41)⟩, qm 43 42, qg 43 false (qm 44 3), ⟨some (43, false), .bin 45 .eql 5 (.tmp 44) (.const (.int .u8 13))⟩, ⟨none, .pick 46 (.tmp 43) (.const (.bool true)) (.tmp 45)⟩, qm 33 46]
def Q1C : List GO := [qm 48 3, ⟨none, .bin 49 .eql 5 (.tmp 48) (.const (.int .u8 35))⟩, qm 47 49]
def Q1B : List GO := [qk 2 (.bool true)]
def Q1A : List GO := [qm 14 0, qn 15 14, qf 16 15 1, ql 17 16, qj 18 .add 3 17 1, qn 19 14, qf 20 19 1, qs 20 18]
def QI : LC := (.seq (.seq (.draw Q1H Q1L) (.cond (.tmp 13) .skip (.exit 0))) (.seq (.block 1 (.seq (.draw Q1G Q1K) (.block 2 (.seq (.ops Q1F) (.cond (.tmp 30) (.ops Q1E) (.seq (.ops Q1D) (.cond (.tmp 33) .skip (.seq (.ops Q1C) (.cond (.tmp 47) (.ops Q1B) .ret))))))))) (.ops Q1A)))
def token_scanner_blank_lc : LC := (.seq (.ops Q1I) (.block 0 (.loop QI)))
@[reducible] def Q9 : FuncId := 13
theorem Q1d : lowF Tryd.prog Tryd.f13 = some token_scanner_blank_lc := by kernel_rfl
theorem Q1J {a0 : Value} {w : World} {R : Ending → World → Prop} (h : token_scanner_blank_lc.wp Tryd.prog (retQ Tryd.prog [] R) (Qr [a0]) w) : Calls Tryd.prog Q9 ⟨[a0]⟩ w R :=
  Q8 Tryd.func13 Q1d (by kernel_rfl) (by kernel_rfl) h

/- 14 -/
def Q1W : List GO := [⟨none, .alloc 2 32 [(vi 0), (.string ⟨#[]⟩), (.bool false), (vi 0)]⟩, qk 3 (vi 0)]
def Q1V : List GO := [qm 6 0, qn 7 6, qf 8 7 1, ql 9 8, qm 4 9]
def Q1U : List GO := [qm 10 0, qn 11 10, qf 12 11 0, ql 13 12, qm 14 4, ⟨none, .sidx 15 (.tmp 13) (.tmp 14)⟩, qm 5 15]
def Q1T : List GO := [qm 17 5, ⟨none, .call (some 18) 28 [(.tmp 17)]⟩, qm 16 18]
def Q1S : List GO := [qm 19 4, qm 20 0, ⟨none, .call (some 21) 29 [(.tmp 20), (.func 28)]⟩, ⟨none, .build 22 [(vi 0), (.string ⟨#[]⟩), (.bool false), (vi 0)] [(0, (1, (.tmp 19))), (1, (1, (.tmp 21)))]⟩, qw 4 2 22, qk 3 (vi 0)]
def Q1R : List GO := [qm 24 5, ⟨none, .call (some 25) 30 [(.tmp 24)]⟩, qm 23 25]
def Q1Q : List GO := [qm 26 0, qm 27 4, ⟨none, .call (some 28) 31 [(.tmp 26), (.tmp 27), (.const (.string ⟨#[]⟩))]⟩, qx 29 28 0, qx 30 28 1, qw 4 2 29, qm 3 30]
def Q1P : List GO := [qm 32 0, qn 33 32, qf 34 33 0, ql 35 34, qm 36 4, ⟨none, .ssub 37 (.tmp 35) (some (.tmp 36)) none⟩, ⟨none, .call (some 38) 32 [(.tmp 37), (.const (.string ⟨#[45, 62]⟩))]⟩, qm 31 38]
def Q1O : List GO := [qm 39 0, qn 40 39, qf 41 40 1, ql 42 41, qj 43 .add 3 42 2, qn 44 39, qf 45 44 1, qs 45 43]
def Q1N : List GO := [qm 46 4, ⟨none, .build 47 [(vi 0), (.string ⟨#[]⟩), (.bool false), (vi 0)] [(0, (1, (.tmp 46))), (1, (1, (.const (.string ⟨#[45, 62]⟩))))]⟩, qw 4 2 47, qk 3 (vi 0)]
def Q1y : List GO := [qm 49 5, ⟨none, .bin 50 .eql 5 (.tmp 49) (.const (.int .u8 45))⟩, qm 51 50, qg 51 true (qm 52 4), qg 51 true (qj 53 .add 3 52 1), qg 51 true (qm 54 0), qg 51 true (qn 55 54), qg 51 true (qf 56 55 0), qg 51 true (ql 57 56), ⟨some (51, true), .slen 58 (.tmp 57)⟩, qg 51 true (qt 59 .lss 3 53 58), ⟨none, .pick 60 (.tmp 51) (.tmp 59) (.const (.bool false))⟩, qm 61 60, qg 61 true (qm 62 0), qg 61 true (qn 63 62), qg 61 true (qf 64 63 0), qg 61 true (ql 65 64), qg 61 true (qm 66 4), qg 61 true (qj 67 .add 3 66 1), ⟨some (61, true), .sidx 68 (.tmp 65) (.tmp 67)⟩, ⟨some (61, true), .call (some 69) 30 [(.tmp 68)]⟩, ⟨none, .pick 70 (.tmp 61) (.tmp 69) (.const (.bool false))⟩, qm 48 70]
def Q1x : List GO := [qm 71 0, qn 72 71, qf 73 72 1, ql 74 73, qj 75 .add 3 74 1, qn 76 71, qf 77 76 1, qs 77 75]
def Q1w : List GO := [qm 78 0, qm 79 4, ⟨none, .call (some 80) 31 [(.tmp 78), (.tmp 79), (.const (.string ⟨#[45]⟩))]⟩, qx 81 80 0, qx 82 80 1, qw 4 2 81, qm 3 82]
def Q1v : List GO := [qm 84 5, ⟨none, .bin 85 .neq 5 (.tmp 84) (.const (.int .u8 45))⟩, qm 86 85, qg 86 true (qm 87 5), ⟨some (86, true), .call (some 88) 33 [(.const (.string ⟨#[40, 41, 123, 125, 60, 62, 44, 59, 45]⟩)), (.tmp 87)]⟩, qg 86 true (qj 89 .geq 3 88 0), ⟨none, .pick 90 (.tmp 86) (.tmp 89) (.const (.bool false))⟩, qm 83 90]
def Q1u : List GO := [qm 91 0, qn 92 91, qf 93 92 1, ql 94 93, qj 95 .add 3 94 1, qn 96 91, qf 97 96 1, qs 97 95]
def Q1t : List GO := [qm 98 4, qm 99 0, qn 100 99, qf 101 100 0, ql 102 101, qm 103 4, qm 104 4, qj 105 .add 3 104 1, ⟨none, .ssub 106 (.tmp 102) (some (.tmp 103)) (some (.tmp 105))⟩, ⟨none, .build 107 [(vi 0), (.string ⟨#[]⟩), (.bool false), (vi 0)] [(0, (1, (.tmp 98))), (1, (1, (.tmp 106)))]⟩, qw 4 2 107, qk 3 (vi 0)]
def Q1s : List GO := [⟨none, .build 108 [(vi 0), (.string ⟨#[]⟩), (.bool false), (vi 0)] []⟩, qw 4 2 108, qk 3 (vi 6)]
def token_scanner_next_lc : LC := (.seq (.ops Q1W) (.seq (.ops Q1V) (.seq (.seq (.ops Q1U) (.block 0 (.seq (.ops Q1T) (.cond (.tmp 16) (.seq (.ops Q1S) .ret) (.seq (.ops Q1R) (.cond (.tmp 23) (.seq (.ops Q1Q) .ret) (.seq (.ops Q1P) (.cond (.tmp 31) (.seq (.ops Q1O) (.seq (.ops Q1N) .ret)) (.seq (.ops Q1y) (.cond (.tmp 48) (.seq (.ops Q1x) (.seq (.ops Q1w) .ret)) (.seq (.ops Q1v) (.cond (.tmp 83) (.seq (.ops Q1u) (.seq (.ops Q1t) .ret)) .skip)))))))))))) (.seq (.ops Q1s) .ret))))
@[reducible] def Q5 : FuncId := 14
theorem Q1z : lowF Tryd.prog Tryd.f14 = some token_scanner_next_lc := by kernel_rfl
theorem Q1X {a0 : Value} {w : World} {R : Ending → World → Prop} (h : token_scanner_next_lc.wp Tryd.prog (retQ Tryd.prog [.cell 2 32, .tmp 3] R) (Qr [a0]) w) : Calls Tryd.prog Q5 ⟨[a0]⟩ w R :=
  Q8 Tryd.func14 Q1z (by kernel_rfl) (by kernel_rfl) h

/- 15 -/
def R_F_r0 : List GO := [⟨none, .alloc 4 25 [(vi 0), (vi 0)]⟩]
def R_F_r1 : List GO := [qm 5 0, qm 6 1, ⟨none, .build 7 [(vi 0), (vi 0)] [(0, (1, (.tmp 5))), (1, (1, (.tmp 6)))]⟩, qw 2 4 7]
def R_F_lc : LC := (.seq (.ops R_F_r0) (.seq (.ops R_F_r1) .ret))
@[reducible] def R_F : FuncId := 15
theorem R_F_low : lowF Tryd.prog Tryd.f15 = some R_F_lc := by kernel_rfl
theorem R_F_in {a0 a1 : Value} {w : World} {R : Ending → World → Prop} (h : R_F_lc.wp Tryd.prog (retQ Tryd.prog [.cell 4 25] R) (Qr [a0, a1]) w) : Calls Tryd.prog R_F ⟨[a0, a1]⟩ w R :=
  Q8 Tryd.func15 R_F_low (by kernel_rfl) (by kernel_rfl) h

/- 16 -/
def Q62 : List GO := [qk 4 (vi 0)]
def Q61 : List GO := [qm 5 1, qm 6 0, ⟨none, .slen 7 (.tmp 6)⟩, qt 8 .lss 3 5 7]
def Q60 : List GO := [qm 9 0, qm 10 1, ⟨none, .sidx 11 (.tmp 9) (.tmp 10)⟩, ⟨none, .bin 12 .eql 5 (.tmp 11) (.const (.int .u8 32))⟩, qm 13 12, qg 13 false (qm 14 0), qg 13 false (qm 15 1), ⟨some (13, false), .sidx 16 (.tmp 14) (.tmp 15)⟩, ⟨some (13, false), .bin 17 .eql 5 (.tmp 16) (.const (.int .u8 9))⟩, ⟨none, .pick 18 (.tmp 13) (.const (.bool true)) (.tmp 17)⟩, qm 19 18, qg 19 false (qm 20 0), qg 19 false (qm 21 1), ⟨some (19, false), .sidx 22 (.tmp 20) (.tmp 21)⟩, ⟨some (19, false), .bin 23 .eql 5 (.tmp 22) (.const (.int .u8 13))⟩, ⟨none, .pick 24 (.tmp 19) (.const (.bool true)) (.tmp 23)⟩, qm 25 24, qg 25 false (qm 26 0), qg 25 false (qm 27 1), ⟨some (25, false), .sidx 28 (.tmp 26) (.tmp 27)⟩, ⟨some (25, false), .bin 29 .eql 5 (.tmp 28) (.const (.int .u8 10))⟩, ⟨none, .pick 30 (.tmp 25) (.const (.bool true)) (.tmp 29)⟩]
def Q5Z : List GO := [qm 31 1, qj 32 .add 3 31 1, qm 1 32]
def Q5Y : List GO := [qm 33 0, qm 34 1, ⟨none, .sidx 35 (.tmp 33) (.tmp 34)⟩, ⟨none, .bin 36 .eql 5 (.tmp 35) (.const (.int .u8 35))⟩]
def Q5X : List GO := [qm 37 1, qm 38 0, ⟨none, .slen 39 (.tmp 38)⟩, qt 40 .lss 3 37 39, qm 41 40, qg 41 true (qm 42 0), qg 41 true (qm 43 1), ⟨some (41, true), .sidx 44 (.tmp 42) (.tmp 43)⟩, ⟨some (41, true), .bin 45 .neq 5 (.tmp 44) (.const (.int .u8 10))⟩, ⟨none, .pick 46 (.tmp 41) (.tmp 45) (.const (.bool false))⟩]
def Q5W : List GO := [qm 47 1, qj 48 .add 3 47 1, qm 1 48]
def Q43 : LC := (.seq (.seq (.ops Q5X) (.cond (.tmp 46) .skip (.exit 2))) (.block 3 (.ops Q5W)))
def Q44 : LC := (.seq (.seq (.ops Q61) (.cond (.tmp 8) .skip (.exit 0))) (.block 1 (.seq (.ops Q60) (.cond (.tmp 30) (.ops Q5Z) (.seq (.ops Q5Y) (.cond (.tmp 36) (.block 2 (.loop Q43)) (.exit 0)))))))
def Q5V : List GO := [qm 49 1, qm 4 49]
def R_begins_lc : LC := (.seq (.ops Q62) (.seq (.block 0 (.loop Q44)) (.seq (.ops Q5V) .ret)))
@[reducible] def QY : FuncId := 16
theorem Q5n : lowF Tryd.prog Tryd.f16 = some R_begins_lc := by kernel_rfl
theorem Q63 {a0 a1 : Value} {w : World} {R : Ending → World → Prop} (h : R_begins_lc.wp Tryd.prog (retQ Tryd.prog [.tmp 4] R) (Qr [a0, a1]) w) : Calls Tryd.prog QY ⟨[a0, a1]⟩ w R :=
  Q8 Tryd.func16 Q5n (by kernel_rfl) (by kernel_rfl) h

/- 17 -/
def Q4S : List GO := [qk 2 (.bool false)]
def Q4R : List GO := [qm 3 0, ⟨none, .bin 4 .geq 5 (.tmp 3) (.const (.int .u8 97))⟩, qm 5 4, qg 5 true (qm 6 0), ⟨some (5, true), .bin 7 .leq 5 (.tmp 6) (.const (.int .u8 122))⟩, ⟨none, .pick 8 (.tmp 5) (.tmp 7) (.const (.bool false))⟩, qm 2 8]
def R_isLetter_lc : LC := (.seq (.ops Q4S) (.seq (.ops Q4R) .ret))
@[reducible] def Q4q : FuncId := 17
theorem Q4h : lowF Tryd.prog Tryd.f17 = some R_isLetter_lc := by kernel_rfl
theorem Q4T {a0 : Value} {w : World} {R : Ending → World → Prop} (h : R_isLetter_lc.wp Tryd.prog (retQ Tryd.prog [.tmp 2] R) (Qr [a0]) w) : Calls Tryd.prog Q4q ⟨[a0]⟩ w R :=
  Q8 Tryd.func17 Q4h (by kernel_rfl) (by kernel_rfl) h

/- 18 -/
def Q5T : List GO := [qk 2 (.bool false)]
def Q5S : List GO := [qk 3 (.string ⟨#[40, 41, 123, 125, 60, 62, 44, 59]⟩)]
def Q5R : List GO := [qk 4 (vi 0)]
def Q5Q : List GO := [qm 5 4, qm 6 3, ⟨none, .slen 7 (.tmp 6)⟩, qt 8 .lss 3 5 7]
def Q5P : List GO := [qm 11 3, qm 12 4, ⟨none, .sidx 13 (.tmp 11) (.tmp 12)⟩, qm 14 0, qt 15 .eql 5 13 14]
def Q5O : List GO := [qk 2 (.bool true)]
def Q5N : List GO := [qm 9 4, qj 10 .add 3 9 1, qm 4 10]
def Q42 : LC := (.seq (.seq (.ops Q5Q) (.cond (.tmp 8) .skip (.exit 0))) (.seq (.block 1 (.seq (.ops Q5P) (.cond (.tmp 15) (.seq (.ops Q5O) .ret) .skip))) (.ops Q5N)))
def Q5M : List GO := [qk 2 (.bool false)]
def R_isSign_lc : LC := (.seq (.ops Q5T) (.seq (.ops Q5S) (.seq (.seq (.ops Q5R) (.block 0 (.loop Q42))) (.seq (.ops Q5M) .ret))))
@[reducible] def Q3E : FuncId := 18
theorem Q5i : lowF Tryd.prog Tryd.f18 = some R_isSign_lc := by kernel_rfl
theorem Q5U {a0 : Value} {w : World} {R : Ending → World → Prop} (h : R_isSign_lc.wp Tryd.prog (retQ Tryd.prog [.tmp 2] R) (Qr [a0]) w) : Calls Tryd.prog Q3E ⟨[a0]⟩ w R :=
  Q8 Tryd.func18 Q5i (by kernel_rfl) (by kernel_rfl) h

/- 19 -/
def Q5k : List GO := [qk 2 (.bool false)]
def Q5j : List GO := [qm 3 0, ⟨none, .bin 4 .geq 5 (.tmp 3) (.const (.int .u8 48))⟩, qm 5 4, qg 5 true (qm 6 0), ⟨some (5, true), .bin 7 .leq 5 (.tmp 6) (.const (.int .u8 57))⟩, ⟨none, .pick 8 (.tmp 5) (.tmp 7) (.const (.bool false))⟩, qm 2 8]
def R_isDigit_lc : LC := (.seq (.ops Q5k) (.seq (.ops Q5j) .ret))
@[reducible] def Q5m : FuncId := 19
theorem Q4U : lowF Tryd.prog Tryd.f19 = some R_isDigit_lc := by kernel_rfl
theorem Q5l {a0 : Value} {w : World} {R : Ending → World → Prop} (h : R_isDigit_lc.wp Tryd.prog (retQ Tryd.prog [.tmp 2] R) (Qr [a0]) w) : Calls Tryd.prog Q5m ⟨[a0]⟩ w R :=
  Q8 Tryd.func19 Q4U (by kernel_rfl) (by kernel_rfl) h

/- 20 -/
def Q68 : List GO := [qk 2 (vi 0), qk 3 (.bool false)]
def Q67 : List GO := [qm 7 0, ⟨none, .call (some 8) 34 [(.tmp 7), (.const (vi 10)), (.const (vi 64))]⟩, qm 6 8, qx 9 6 0, qx 10 6 1, qm 4 9, qm 5 10]
def Q66 : List GO := [qm 11 5, ⟨none, .bin 12 .neq 77 (.tmp 11) (.const .nilIface)⟩, qm 13 12, qg 13 false (qm 14 4), ⟨some (13, false), .call (some 15) 35 [(.tmp 14), (.const (vi 10))]⟩, qg 13 false (qm 16 0), qg 13 false (qt 17 .neq 9 15 16), ⟨none, .pick 18 (.tmp 13) (.const (.bool true)) (.tmp 17)⟩]
def Q65 : List GO := [qk 2 (vi 0), qk 3 (.bool false)]
def Q64 : List GO := [qm 19 4, qm 2 19, qk 3 (.bool true)]
def R_LongOf_lc : LC := (.seq (.ops Q68) (.seq (.ops Q67) (.seq (.seq (.ops Q66) (.cond (.tmp 18) (.seq (.ops Q65) .ret) .skip)) (.seq (.ops Q64) .ret))))
@[reducible] def Q3F : FuncId := 20
theorem Q5q : lowF Tryd.prog Tryd.f20 = some R_LongOf_lc := by kernel_rfl
theorem Q69 {a0 : Value} {w : World} {R : Ending → World → Prop} (h : R_LongOf_lc.wp Tryd.prog (retQ Tryd.prog [.tmp 2, .tmp 3] R) (Qr [a0]) w) : Calls Tryd.prog Q3F ⟨[a0]⟩ w R :=
  Q8 Tryd.func20 Q5q (by kernel_rfl) (by kernel_rfl) h

/- 28 -/
def Q3I : List GO := [qk 2 (.bool false)]
def Q3H : List GO := [qm 3 0, ⟨none, .bin 4 .geq 5 (.tmp 3) (.const (.int .u8 97))⟩, qm 5 4, qg 5 true (qm 6 0), ⟨some (5, true), .bin 7 .leq 5 (.tmp 6) (.const (.int .u8 122))⟩, ⟨none, .pick 8 (.tmp 5) (.tmp 7) (.const (.bool false))⟩, qm 2 8]
def token_letter_lc : LC := (.seq (.ops Q3I) (.seq (.ops Q3H) .ret))
@[reducible] def Q3t : FuncId := 28
theorem Q3v : lowF Tryd.prog Tryd.f28 = some token_letter_lc := by kernel_rfl
theorem Q3J {a0 : Value} {w : World} {R : Ending → World → Prop} (h : token_letter_lc.wp Tryd.prog (retQ Tryd.prog [.tmp 2] R) (Qr [a0]) w) : Calls Tryd.prog Q3t ⟨[a0]⟩ w R :=
  Q8 Tryd.func28 Q3v (by kernel_rfl) (by kernel_rfl) h

/- 29 -/
def Q1o : List GO := [qk 4 (.string ⟨#[]⟩)]
def Q1n : List GO := [qm 6 0, qn 7 6, qf 8 7 1, ql 9 8, qm 5 9]
def Q1m : List GO := [qm 10 0, qn 11 10, qf 12 11 1, ql 13 12, qm 14 0, qn 15 14, qf 16 15 0, ql 17 16, ⟨none, .slen 18 (.tmp 17)⟩, qt 19 .lss 3 13 18, qm 20 19, qg 20 true (qm 21 1), qg 20 true (qm 22 0), qg 20 true (qn 23 22), qg 20 true (qf 24 23 0), qg 20 true (ql 25 24), qg 20 true (qm 26 0), qg 20 true (qn 27 26), qg 20 true (qf 28 27 1), qg 20 true (ql 29 28), ⟨some (20, true), .sidx 30 (.tmp 25) (.tmp 29)⟩, ⟨some (20, true), .callv (some 31) (.tmp 21) [(.tmp 30)]⟩, ⟨none, .pick 32 (.tmp 20) (.tmp 31) (.const (.bool false))⟩]
def Q1r : List (List Nat) := [[],[0],[1],[2],[],[4],[5],[6],[7],[3,8],[9],[10],[10],[12,10],[13,10],[14,10],[10],[16,10],[17,10],[18,10],[15,19,10],[11,20,10,10],[10,21]]
def Q1l : List GO := [qm 33 0, qn 34 33, qf 35 34 1, ql 36 35, qj 37 .add 3 36 1, qn 38 33, qf 39 38 1, qs 39 37]
def QH : LC := (.seq (.seq (.draw Q1m Q1r) (.cond (.tmp 32) .skip (.exit 0))) (.block 1 (.ops Q1l)))
def Q1k : List GO := [qm 40 0, qn 41 40, qf 42 41 0, ql 43 42, qm 44 5, qm 45 0, qn 46 45, qf 47 46 1, ql 48 47, ⟨none, .ssub 49 (.tmp 43) (some (.tmp 44)) (some (.tmp 48))⟩, qm 4 49]
def Q1q : List (List Nat) := [[],[0],[1],[2],[],[],[5],[6],[7],[3,4,8],[9,0,1,2,3,4,5,6,7,8,9]]
def token_scanner_while_lc : LC := (.seq (.ops Q1o) (.seq (.ops Q1n) (.seq (.block 0 (.loop QH)) (.seq (.draw Q1k Q1q) .ret))))
@[reducible] def Qp : FuncId := 29
theorem Q15 : lowF Tryd.prog Tryd.f29 = some token_scanner_while_lc := by kernel_rfl
theorem Q1p {a0 a1 : Value} {w : World} {R : Ending → World → Prop} (h : token_scanner_while_lc.wp Tryd.prog (retQ Tryd.prog [.tmp 4] R) (Qr [a0, a1]) w) : Calls Tryd.prog Qp ⟨[a0, a1]⟩ w R :=
  Q8 Tryd.func29 Q15 (by kernel_rfl) (by kernel_rfl) h

/- 30 -/
def Q47 : List GO := [qk 2 (.bool false)]
def Q46 : List GO := [qm 3 0, ⟨none, .bin 4 .geq 5 (.tmp 3) (.const (.int .u8 48))⟩, qm 5 4, qg 5 true (qm 6 0), ⟨some (5, true), .bin 7 .leq 5 (.tmp 6) (.const (.int .u8 57))⟩, ⟨none, .pick 8 (.tmp 5) (.tmp 7) (.const (.bool false))⟩, qm 2 8]
def token_digit_lc : LC := (.seq (.ops Q47) (.seq (.ops Q46) .ret))
@[reducible] def Q3L : FuncId := 30
theorem Q3K : lowF Tryd.prog Tryd.f30 = some token_digit_lc := by kernel_rfl
theorem Q48 {a0 : Value} {w : World} {R : Ending → World → Prop} (h : token_digit_lc.wp Tryd.prog (retQ Tryd.prog [.tmp 2] R) (Qr [a0]) w) : Calls Tryd.prog Q3L ⟨[a0]⟩ w R :=
  Q8 Tryd.func30 Q3K (by kernel_rfl) (by kernel_rfl) h

/- 31 -/
def Q1b : List GO := [⟨none, .alloc 6 32 [(vi 0), (.string ⟨#[]⟩), (.bool false), (vi 0)]⟩, qk 7 (vi 0)]
def Q1a : List GO := [qm 11 2, qm 12 0, ⟨none, .call (some 13) 29 [(.tmp 12), (.func 30)]⟩, qt 14 .add 9 11 13, qm 8 14]
def Q19 : List GO := [qm 16 8, ⟨none, .call (some 17) 34 [(.tmp 16), (.const (vi 10)), (.const (vi 64))]⟩, qm 15 17, qx 18 15 0, qx 19 15 1, qm 9 18, qm 10 19]
def Q18 : List GO := [qm 20 10, ⟨none, .bin 21 .neq 77 (.tmp 20) (.const .nilIface)⟩, qm 22 21, qg 22 false (qm 23 9), ⟨some (22, false), .call (some 24) 35 [(.tmp 23), (.const (vi 10))]⟩, qg 22 false (qm 25 8), qg 22 false (qt 26 .neq 9 24 25), ⟨none, .pick 27 (.tmp 22) (.const (.bool true)) (.tmp 26)⟩]
def Q17 : List GO := [⟨none, .build 28 [(vi 0), (.string ⟨#[]⟩), (.bool false), (vi 0)] []⟩, qw 4 6 28, qk 7 (vi 8)]
def Q16 : List GO := [qm 29 1, qm 30 8, qm 31 9, ⟨none, .build 32 [(vi 0), (.string ⟨#[]⟩), (.bool false), (vi 0)] [(0, (1, (.tmp 29))), (1, (1, (.tmp 30))), (2, (1, (.const (.bool true)))), (3, (1, (.tmp 31)))]⟩, qw 4 6 32, qk 7 (vi 0)]
def token_scanner_number_lc : LC := (.seq (.ops Q1b) (.seq (.ops Q1a) (.seq (.ops Q19) (.seq (.seq (.ops Q18) (.cond (.tmp 27) (.seq (.ops Q17) .ret) .skip)) (.seq (.ops Q16) .ret)))))
@[reducible] def Qo : FuncId := 31
theorem Q13 : lowF Tryd.prog Tryd.f31 = some token_scanner_number_lc := by kernel_rfl
theorem Q1c {a0 a1 a2 : Value} {w : World} {R : Ending → World → Prop} (h : token_scanner_number_lc.wp Tryd.prog (retQ Tryd.prog [.cell 6 32, .tmp 7] R) (Qr [a0, a1, a2]) w) : Calls Tryd.prog Qo ⟨[a0, a1, a2]⟩ w R :=
  Q8 Tryd.func31 Q13 (by kernel_rfl) (by kernel_rfl) h

/- 32 -/
def Q2l : List GO := [qk 4 (.bool false)]
def Q2k : List GO := [qm 5 0, qm 6 1, ⟨none, .call (some 7) 54 [(.tmp 5), (.tmp 6)]⟩, qm 4 7]
def strings_HasPrefix_lc : LC := (.seq (.ops Q2l) (.seq (.ops Q2k) .ret))
@[reducible] def Q36 : FuncId := 32
theorem Q1Z : lowF Tryd.prog Tryd.f32 = some strings_HasPrefix_lc := by kernel_rfl
theorem Q2m {a0 a1 : Value} {w : World} {R : Ending → World → Prop} (h : strings_HasPrefix_lc.wp Tryd.prog (retQ Tryd.prog [.tmp 4] R) (Qr [a0, a1]) w) : Calls Tryd.prog Q36 ⟨[a0, a1]⟩ w R :=
  Q8 Tryd.func32 Q1Z (by kernel_rfl) (by kernel_rfl) h

/- 33 -/
@[reducible] def strings_IndexByte : FuncId := 33
/- 35 -/
def Q2o : List GO := [qk 4 (.string ⟨#[]⟩)]
def Q2n : List GO := [qm 5 0, qm 6 1, ⟨none, .call (some 7) 58 [(.tmp 5), (.tmp 6)]⟩, qm 4 7]
def strconv_FormatInt_lc : LC := (.seq (.ops Q2o) (.seq (.ops Q2n) .ret))
@[reducible] def Q37 : FuncId := 35
theorem Q20 : lowF Tryd.prog Tryd.f35 = some strconv_FormatInt_lc := by kernel_rfl
theorem Q2p {a0 a1 : Value} {w : World} {R : Ending → World → Prop} (h : strconv_FormatInt_lc.wp Tryd.prog (retQ Tryd.prog [.tmp 4] R) (Qr [a0, a1]) w) : Calls Tryd.prog Q37 ⟨[a0, a1]⟩ w R :=
  Q8 Tryd.func35 Q20 (by kernel_rfl) (by kernel_rfl) h

/- 54 -/
def QE : List GO := [qk 4 (.bool false)]
def QD : List GO := [qm 5 0, ⟨none, .slen 6 (.tmp 5)⟩, qm 7 1, ⟨none, .slen 8 (.tmp 7)⟩, qt 9 .geq 3 6 8, qm 10 9, qg 10 true (qm 11 0), qg 10 true (qm 12 1), ⟨some (10, true), .slen 13 (.tmp 12)⟩, ⟨some (10, true), .ssub 14 (.tmp 11) none (some (.tmp 13))⟩, qg 10 true (qm 15 1), qg 10 true (qt 16 .eql 9 14 15), ⟨none, .pick 17 (.tmp 10) (.tmp 16) (.const (.bool false))⟩, qm 4 17]
def internal_stringslite_HasPrefix_lc : LC := (.seq (.ops QE) (.seq (.ops QD) .ret))
@[reducible] def QM : FuncId := 54
theorem Qy : lowF Tryd.prog Tryd.f54 = some internal_stringslite_HasPrefix_lc := by kernel_rfl
theorem QF {a0 a1 : Value} {w : World} {R : Ending → World → Prop} (h : internal_stringslite_HasPrefix_lc.wp Tryd.prog (retQ Tryd.prog [.tmp 4] R) (Qr [a0, a1]) w) : Calls Tryd.prog QM ⟨[a0, a1]⟩ w R :=
  Q8 Tryd.func54 Qy (by kernel_rfl) (by kernel_rfl) h

/- 55 -/
end Go.Proofs.YtjecflbbcnocdaaDoor
namespace Go.Proofs.YtjecflbbcnocdaaDoor
open Go.Lir
set_option maxRecDepth 100000
theorem el_T23 : Q2T Tryd.prog 23 = some (32, 4, 40, [(.int .i64 0), (.string ⟨#[]⟩), (.bool false), (.int .i64 0)]) := by kernel_rfl
theorem u_T23 : ∃ e2, Tryd.prog.underlying 23 = some (.slice e2) := ⟨32, by kernel_rfl⟩
theorem Q6r : Q2T Tryd.prog 28 = some (33, 4, 40, [(.int .i64 0), (.string ⟨#[]⟩), (.bool false), (.int .i64 0)]) := by kernel_rfl
theorem u_T28 : ∃ e2, Tryd.prog.underlying 28 = some (.slice e2) := ⟨33, by kernel_rfl⟩
end Go.Proofs.YtjecflbbcnocdaaDoor
namespace Go.Lir
set_option linter.unusedVariables false
mutual
/-- typeSize -/
def Ty.size : Ty → Int → Int
  | .mk _ _ l, left => Tys.size l (left - 1)
def Tys.size : List Ty → Int → Int
  | [], left => left
  | x :: l, left => if 0 ≤ left then Tys.size l (x.size left) else left
end
theorem Tys.size_neg : ∀ (l : List Ty) {left : Int}, left < 0 → Tys.size l left = left
  | [], _, _ => by simp [Tys.size]
  | x :: l, left, h => by rw [Tys.size, if_neg (by omega)]
mutual
/-- deep -/
def Ty.deepB : Ty → Int → Bool
  | .mk _ _ l, left => if left < 0 then false else Tys.deepB l (left - 1)
def Tys.deepB : List Ty → Int → Bool
  | [], _ => true
  | x :: l, left => x.deepB left && Tys.deepB l left
end
mutual
/-- DeepOf -/
def Ty.depth : Ty → Int → Int
  | .mk _ _ l, most => Tys.depth l most 0
def Tys.depth : List Ty → Int → Int → Int
  | [], _, n => n
  | x :: l, most, n => if n ≤ most then (if most = 0 then 1 else Tys.depth l most (if n < 1 + x.depth (most - 1) then 1 + x.depth (most - 1) else n)) else n
end
mutual
theorem Ty.depth_iff : ∀ (t : Ty) {most : Int}, 0 ≤ most → (t.depth most ≤ most ↔ t.deepB most = true)
  | .mk _ _ l, most, h => by
    rw [Ty.depth, Ty.deepB, if_neg (by omega), Tys.depth_iff l h]
    exact ⟨fun h => h.2, fun h2 => ⟨h, h2⟩⟩
theorem Tys.depth_iff : ∀ (l : List Ty) {most n : Int}, 0 ≤ most → (Tys.depth l most n ≤ most ↔ n ≤ most ∧ Tys.deepB l (most - 1) = true)
  | [], most, n, h => by rw [Tys.depth, Tys.deepB]; simp
  | x :: l, most, n, h => by
    rw [Tys.depth, Tys.deepB]
    by_cases hn : n ≤ most
    · rw [if_pos hn]
      by_cases h0 : most = 0
      · rw [if_pos h0]
        have : x.deepB (most - 1) = false := by obtain ⟨k, r, l2⟩ := x; rw [Ty.deepB, if_pos (by omega)]
        rw [this]; simp; omega
      · rw [if_neg h0, Tys.depth_iff l h]
        have := Ty.depth_iff x (most := most - 1) (by omega)
        rw [Bool.and_eq_true, ← this]
        constructor
        · rintro ⟨h1, h2⟩; split at h1 <;> exact ⟨by omega, by omega, h2⟩
        · rintro ⟨h1, h2, h3⟩; refine ⟨?_, h3⟩; split <;> omega
    · rw [if_neg hn]
      exact ⟨fun h => absurd h hn, fun h => h.1⟩
end
mutual
/-- Same -/
def Ty.same : Ty → Ty → Bool
  | .mk k r l, .mk k2 r2 l2 => decide (k = k2) && decide (r = r2) && Tys.same l l2
def Tys.same : List Ty → List Ty → Bool
  | [], [] => true
  | x :: l, y :: m => x.same y && Tys.same l m
  | [], _ :: _ => false
  | _ :: _, [] => false
end
mutual
theorem Ty.same_iff : ∀ (t u : Ty), t.same u = true ↔ t = u
  | .mk k r l, .mk k2 r2 l2 => by
    rw [Ty.same, Bool.and_eq_true, Bool.and_eq_true, Tys.same_iff l l2]
    simp only [decide_eq_true_eq, Ty.mk.injEq, and_assoc]
theorem Tys.same_iff : ∀ (l m : List Ty), Tys.same l m = true ↔ l = m
  | [], [] => by simp [Tys.same]
  | x :: l, y :: m => by rw [Tys.same, Bool.and_eq_true, Ty.same_iff x y, Tys.same_iff l m]; simp
  | [], _ :: _ => by simp [Tys.same]
  | _ :: _, [] => by simp [Tys.same]
end
instance : DecidableEq Ty := fun t u => decidable_of_iff _ (Ty.same_iff t u)
mutual
/-- wrong, typeFault -/
def Ty.wrong (fields : Nat) : Ty → Int → Int
  | .mk k r l, regs =>
    if k < 1 ∨ 4 < k then 3 else if k = 1 ∧ r ≠ 0 ∨ k ≠ 3 ∧ 0 < l.length then 4 else if fields < l.length then 2 else if k ≠ 1 ∧ (r < 0 ∨ regs ≤ r) then 1 else Tys.wrong fields l regs
def Tys.wrong (fields : Nat) : List Ty → Int → Int
  | [], _ => 0
  | x :: l, regs => if x.wrong fields regs ≠ 0 then x.wrong fields regs else Tys.wrong fields l regs
end
mutual
/-- Rename -/
def Ty.ren : Ty → List Int → Option Ty
  | .mk k r l, to => if k ≠ 1 ∧ (r < 0 ∨ (to.length : Int) ≤ r ∨ to.getD r.toNat 0 < 0) then none else
    match Tys.ren l to with
    | none => none
    | some m => some (.mk k (if k ≠ 1 then to.getD r.toNat 0 else r) m)
def Tys.ren : List Ty → List Int → Option (List Ty)
  | [], _ => some []
  | x :: l, to => match x.ren to with
    | none => none
    | some y => match Tys.ren l to with
      | none => none
      | some m => some (y :: m)
end
mutual
/-- Two renamings one behind the other are one. -/
theorem Ty.ren_ren {f g h : List Int} (hfg : ∀ i : Nat, i < f.length → 0 ≤ f.getD i 0 ∧ f.getD i 0 < g.length ∧ 0 ≤ g.getD (f.getD i 0).toNat 0 ∧ i < h.length ∧ h.getD i 0 = g.getD (f.getD i 0).toNat 0) :
    ∀ (t u : Ty), t.ren f = some u → ∃ v, u.ren g = some v ∧ t.ren h = some v
  | .mk k r l, u, ht => by
    rw [Ty.ren] at ht
    split at ht
    · cases ht
    · rename_i hc
      cases hl : Tys.ren l f with
      | none => rw [hl] at ht; cases ht
      | some m =>
        rw [hl] at ht
        simp only [Option.some.injEq] at ht
        obtain ⟨m2, h1, h2⟩ := Tys.ren_ren hfg l m hl
        subst ht
        by_cases hk : k = 1
        · refine ⟨.mk k r m2, ?_, ?_⟩
          · rw [Ty.ren, if_neg (by omega), h1]; simp [hk]
          · rw [Ty.ren, if_neg (by omega), h2]; simp [hk]
        · have := hfg r.toNat (by omega)
          refine ⟨.mk k (g.getD (f.getD r.toNat 0).toNat 0) m2, ?_, ?_⟩
          · rw [Ty.ren, if_pos hk, if_neg (by omega), h1]; simp [hk]
          · rw [Ty.ren, if_neg (by omega), h2]; simp only [if_pos hk, this.2.2.2.2]
theorem Tys.ren_ren {f g h : List Int} (hfg : ∀ i : Nat, i < f.length → 0 ≤ f.getD i 0 ∧ f.getD i 0 < g.length ∧ 0 ≤ g.getD (f.getD i 0).toNat 0 ∧ i < h.length ∧ h.getD i 0 = g.getD (f.getD i 0).toNat 0) :
    ∀ (t u : List Ty), Tys.ren t f = some u → ∃ v, Tys.ren u g = some v ∧ Tys.ren t h = some v
  | [], u, ht => by rw [Tys.ren] at ht; cases ht; exact ⟨[], by rw [Tys.ren], by rw [Tys.ren]⟩
  | x :: l, u, ht => by
    rw [Tys.ren] at ht
    cases hx : x.ren f with
    | none => rw [hx] at ht; cases ht
    | some y =>
      rw [hx] at ht
      cases hl : Tys.ren l f with
      | none => rw [hl] at ht; cases ht
      | some m =>
        rw [hl] at ht
        simp only [Option.some.injEq] at ht
        subst ht
        obtain ⟨y2, a1, a2⟩ := Ty.ren_ren hfg x y hx
        obtain ⟨m2, b1, b2⟩ := Tys.ren_ren hfg l m hl
        exact ⟨y2 :: m2, by rw [Tys.ren, a1, b1], by rw [Tys.ren, a2, b2]⟩
end
mutual
/-- What is renamed is as right as it was, if the renaming stays below the number of regions. -/
theorem Ty.ren_wrong {fields : Nat} {f : List Int} (hf : ∀ i : Nat, i < f.length → 0 ≤ f.getD i 0 ∧ f.getD i 0 < f.length) : ∀ (t u : Ty), t.ren f = some u → u.wrong fields f.length = t.wrong fields f.length
  | .mk k r l, u, ht => by
    rw [Ty.ren] at ht
    split at ht
    · cases ht
    · rename_i hc
      cases hl : Tys.ren l f with
      | none => rw [hl] at ht; cases ht
      | some m =>
        rw [hl] at ht
        simp only [Option.some.injEq] at ht
        subst ht
        obtain ⟨h1, h2⟩ := Tys.ren_wrong (fields := fields) hf l m hl
        by_cases hk : k = 1
        · rw [Ty.wrong, Ty.wrong, h1, h2]; simp [hk]
        · have := hf r.toNat (by omega)
          rw [Ty.wrong, Ty.wrong, h1, h2]
          simp only [if_pos hk]
          rw [if_neg (show ¬ (k ≠ 1 ∧ (f.getD r.toNat 0 < 0 ∨ (f.length : Int) ≤ f.getD r.toNat 0)) by omega), if_neg (show ¬ (k ≠ 1 ∧ (r < 0 ∨ (f.length : Int) ≤ r)) by omega)]
          simp [hk]
theorem Tys.ren_wrong {fields : Nat} {f : List Int} (hf : ∀ i : Nat, i < f.length → 0 ≤ f.getD i 0 ∧ f.getD i 0 < f.length) : ∀ (t u : List Ty), Tys.ren t f = some u → u.length = t.length ∧ Tys.wrong fields u f.length = Tys.wrong fields t f.length
  | [], u, ht => by rw [Tys.ren] at ht; cases ht; exact ⟨rfl, rfl⟩
  | x :: l, u, ht => by
    rw [Tys.ren] at ht
    cases hx : x.ren f with
    | none => rw [hx] at ht; cases ht
    | some y =>
      rw [hx] at ht
      cases hl : Tys.ren l f with
      | none => rw [hl] at ht; cases ht
      | some m =>
        rw [hl] at ht
        simp only [Option.some.injEq] at ht
        subst ht
        obtain ⟨h1, h2⟩ := Tys.ren_wrong (fields := fields) hf l m hl
        exact ⟨by simp [h1], by rw [Tys.wrong, Tys.wrong, Ty.ren_wrong hf x y hx, h2]⟩
end
mutual
/-- What cannot be renamed is wrong. -/
theorem Ty.ren_none {fields : Nat} {f : List Int} (hf : ∀ i : Nat, i < f.length → 0 ≤ f.getD i 0) : ∀ (t : Ty), t.ren f = none → t.wrong fields f.length ≠ 0
  | .mk k r l, ht => by
    rw [Ty.wrong]
    rw [Ty.ren] at ht
    split
    · decide
    · split
      · decide
      · split
        · decide
        · split
          · decide
          · rename_i h1 h2 h3 h4
            have hc : ¬ (k ≠ 1 ∧ (r < 0 ∨ (f.length : Int) ≤ r ∨ f.getD r.toNat 0 < 0)) := by
              rintro ⟨a, b⟩
              have := hf r.toNat
              omega
            rw [if_neg hc] at ht
            cases hl : Tys.ren l f with
            | none => exact Tys.ren_none hf l hl
            | some m => rw [hl] at ht; cases ht
theorem Tys.ren_none {fields : Nat} {f : List Int} (hf : ∀ i : Nat, i < f.length → 0 ≤ f.getD i 0) : ∀ (t : List Ty), Tys.ren t f = none → Tys.wrong fields t f.length ≠ 0
  | [], ht => by rw [Tys.ren] at ht; cases ht
  | x :: l, ht => by
    rw [Tys.ren] at ht
    rw [Tys.wrong]
    split
    · rename_i h; exact h
    · rename_i h
      cases hx : x.ren f with
      | none => exact absurd hx (fun hx => h (Ty.ren_none hf x hx))
      | some y =>
        rw [hx] at ht
        cases hl : Tys.ren l f with
        | none => exact Tys.ren_none hf l hl
        | some m => rw [hl] at ht; cases ht
end
mutual
theorem Ty.ren_deep {f : List Int} : ∀ (t u : Ty) (left : Int), t.ren f = some u → u.deepB left = t.deepB left
  | .mk k r l, u, left, ht => by
    rw [Ty.ren] at ht
    split at ht
    · cases ht
    · cases hl : Tys.ren l f with
      | none => rw [hl] at ht; cases ht
      | some m =>
        rw [hl] at ht
        simp only [Option.some.injEq] at ht
        subst ht
        rw [Ty.deepB, Ty.deepB, Tys.ren_deep l m (left - 1) hl]
theorem Tys.ren_deep {f : List Int} : ∀ (t u : List Ty) (left : Int), Tys.ren t f = some u → Tys.deepB u left = Tys.deepB t left
  | [], u, _, ht => by rw [Tys.ren] at ht; cases ht; rfl
  | x :: l, u, left, ht => by
    rw [Tys.ren] at ht
    cases hx : x.ren f with
    | none => rw [hx] at ht; cases ht
    | some y =>
      rw [hx] at ht
      cases hl : Tys.ren l f with
      | none => rw [hl] at ht; cases ht
      | some m =>
        rw [hl] at ht
        simp only [Option.some.injEq] at ht
        subst ht
        rw [Tys.deepB, Tys.deepB, Ty.ren_deep x y left hx, Tys.ren_deep l m left hl]
end
mutual
/-- The renaming that leaves all as it is. -/
theorem Ty.ren_id {f : List Int} (hf : ∀ i : Nat, i < f.length → f.getD i 0 = i) : ∀ (t u : Ty), t.ren f = some u → u = t
  | .mk k r l, u, ht => by
    rw [Ty.ren] at ht
    split at ht
    · cases ht
    · rename_i hc
      cases hl : Tys.ren l f with
      | none => rw [hl] at ht; cases ht
      | some m =>
        rw [hl] at ht
        simp only [Option.some.injEq] at ht
        subst ht
        rw [Tys.ren_id hf l m hl]
        by_cases hk : k = 1
        · simp [hk]
        · have := hf r.toNat (by omega)
          rw [if_pos hk, this, Int.toNat_of_nonneg (by omega)]
theorem Tys.ren_id {f : List Int} (hf : ∀ i : Nat, i < f.length → f.getD i 0 = i) : ∀ (t u : List Ty), Tys.ren t f = some u → u = t
  | [], u, ht => by rw [Tys.ren] at ht; cases ht; rfl
  | x :: l, u, ht => by
    rw [Tys.ren] at ht
    cases hx : x.ren f with
    | none => rw [hx] at ht; cases ht
    | some y =>
      rw [hx] at ht
      cases hl : Tys.ren l f with
      | none => rw [hl] at ht; cases ht
      | some m =>
        rw [hl] at ht
        simp only [Option.some.injEq] at ht
        subst ht
        rw [Ty.ren_id hf x y hx, Tys.ren_id hf l m hl]
end
/-- By the parts. -/
theorem Ty.ind {p : Ty → Prop} (h : ∀ k r l, (∀ x ∈ l, p x) → p (.mk k r l)) : ∀ t, p t
  | .mk k r l => h k r l fun x hx => Ty.ind h x
termination_by t => SizeOf.sizeOf t
decreasing_by
  have := List.sizeOf_lt_of_mem hx
  simp only [Ty.mk.sizeOf_spec]
  omega
mutual
theorem Ty.size_rng : ∀ (t : Ty) {left : Int}, 0 ≤ left → -1 ≤ t.size left ∧ t.size left < left
  | .mk _ _ l, left, h => by
    rw [Ty.size]
    have := Tys.size_rng l (left := left - 1) (by omega)
    omega
theorem Tys.size_rng : ∀ (l : List Ty) {left : Int}, -1 ≤ left → -1 ≤ Tys.size l left ∧ Tys.size l left ≤ left
  | [], left, h => by rw [Tys.size]; omega
  | x :: l, left, h => by
    rw [Tys.size]
    split
    · rename_i h0
      have h1 := Ty.size_rng x h0
      have h2 := Tys.size_rng l (left := x.size left) h1.1
      omega
    · omega
end
mutual
theorem Ty.size_mono : ∀ (t : Ty) {a b : Int}, a ≤ b → -1 ≤ a → t.size a ≤ t.size b
  | .mk _ _ l, a, b, h, ha => by
    rw [Ty.size, Ty.size]
    by_cases h0 : 0 ≤ a
    · exact Tys.size_mono l (by omega) (by omega)
    · rw [Tys.size_neg l (by omega)]
      by_cases hb : 0 ≤ b
      · have := Tys.size_rng l (left := b - 1) (by omega); omega
      · rw [Tys.size_neg l (by omega)]; omega
theorem Tys.size_mono : ∀ (l : List Ty) {a b : Int}, a ≤ b → -1 ≤ a → Tys.size l a ≤ Tys.size l b
  | [], a, b, h, _ => by rw [Tys.size, Tys.size]; exact h
  | x :: l, a, b, h, ha => by
    by_cases h0 : 0 ≤ a
    · rw [Tys.size, Tys.size, if_pos h0, if_pos (by omega)]
      exact Tys.size_mono l (Ty.size_mono x h ha) (Ty.size_rng x h0).1
    · rw [Tys.size_neg _ (by omega)]
      have := Tys.size_rng (x :: l) (left := b) (by omega); omega
end
/-- What is not too great has few parts, and none of them is too great. -/
theorem Tys.size_len : ∀ (l : List Ty) {left : Int}, 0 ≤ Tys.size l left → -1 ≤ left → (l.length : Int) ≤ left ∧ ∀ x ∈ l, 0 ≤ x.size left
  | [], left, h, _ => by rw [Tys.size] at h; simp; exact h
  | x :: l, left, h, hl => by
    rw [Tys.size] at h
    split at h
    · rename_i h0
      have h1 := Ty.size_rng x h0
      have h2 := Tys.size_len l h h1.1
      have h3 := Tys.size_rng l (left := x.size left) h1.1
      refine ⟨by simp only [List.length_cons]; omega, fun y hy => ?_⟩
      rcases List.mem_cons.1 hy with rfl | hy
      · omega
      · exact Int.le_trans (h2.2 y hy) (Ty.size_mono y (by omega) h1.1)
    · omega
/-- Check, TypeFault -/
def Ty.fault (t : Ty) (regs : Int) : Int := if t.deepB 4 = false then 19 else t.wrong 8 regs
mutual
theorem Ty.depth_rng : ∀ (t : Ty) {most : Int}, 0 ≤ most → 0 ≤ t.depth most ∧ t.depth most ≤ most + 1
  | .mk _ _ l, most, h => by
    rw [Ty.depth]
    exact Tys.depth_rng l h (by omega) (by omega)
theorem Tys.depth_rng : ∀ (l : List Ty) {most n : Int}, 0 ≤ most → 0 ≤ n → n ≤ most + 1 → 0 ≤ Tys.depth l most n ∧ Tys.depth l most n ≤ most + 1
  | [], most, n, _, h1, h2 => by rw [Tys.depth]; omega
  | x :: l, most, n, h, h1, h2 => by
    rw [Tys.depth]
    split
    · split
      · omega
      · have := Ty.depth_rng x (most := most - 1) (by omega)
        exact Tys.depth_rng l h (by split <;> omega) (by split <;> omega)
    · omega
end
/-- No list of parts is long. -/
inductive Ty.Short : Ty → Prop where
  | mk {k r : Int} {l : List Ty} : l.length ≤ 100000 → (∀ x ∈ l, x.Short) → Ty.Short (.mk k r l)
theorem Ty.Short.parts {k r : Int} {l : List Ty} (h : (Ty.mk k r l).Short) : l.length ≤ 100000 ∧ ∀ x ∈ l, x.Short := by
  cases h with | mk h1 h2 => exact ⟨h1, h2⟩
theorem Ty.short_of_size : ∀ (t : Ty) {n : Int}, n ≤ 100000 → 0 ≤ n → 0 ≤ t.size n → t.Short := by
  intro t
  induction t using Ty.ind with
  | h k r l ih =>
    intro n h1 h0 h
    rw [Ty.size] at h
    obtain ⟨h2, h3⟩ := Tys.size_len l h (by omega)
    refine .mk (by omega) fun x hx => ?_
    have hp := h3 x hx
    have hl := List.length_pos_of_mem hx
    exact ih x hx (n := n - 1) (by omega) (by omega) hp
/-- GreatType, greatTypes -/
def Ty.great (t : Ty) : Bool := decide (t.size 2000 < 0)
def Tys.great (l : List Ty) : Bool := decide (200 < l.length) || l.any Ty.great
theorem Ty.short_of_great {t : Ty} (h : t.great = false) : t.Short := Ty.short_of_size t (n := 2000) (by omega) (by omega) (by unfold Ty.great at h; simp at h; exact h)
theorem Tys.short_of_great {l : List Ty} (h : Tys.great l = false) : l.length ≤ 200 ∧ ∀ x ∈ l, x.Short := by
  unfold Tys.great at h
  rw [Bool.or_eq_false_iff] at h
  refine ⟨by have := of_decide_eq_false h.1; omega, fun x hx => Ty.short_of_great ?_⟩
  cases hg : x.great with
  | false => rfl
  | true => have := List.any_eq_true.2 ⟨x, hx, hg⟩; rw [h.2] at this; cases this
end Go.Lir
namespace Go.Lir
structure Ins where
  op : Int
  a : Int
  b : Int
  c : Int
  k : Int
  n : Int
  regs : List Int
  args : List Int
structure To where
  block : Int
  regs : List Int
  args : List Int
structure Tail where
  op : Int
  a : Int
  yes : To
  no : To
  args : List Int
structure Block where
  regs : Int
  params : List Ty
  code : List Ins
  fin : Tail
deriving instance DecidableEq for Ins
deriving instance DecidableEq for To
deriving instance DecidableEq for Tail
deriving instance DecidableEq for Block
structure Fun where
  regs : Int
  params : List Ty
  results : List Ty
  blocks : List Block
structure Module where
  funcs : List Fun
deriving instance DecidableEq for Fun
deriving instance DecidableEq for Module

/-! ### no list is long -/
def Ins.Short (x : Ins) : Prop := x.regs.length ≤ 100000 ∧ x.args.length ≤ 100000
def To.Short (x : To) : Prop := x.regs.length ≤ 100000 ∧ x.args.length ≤ 100000
def Tail.Short (x : Tail) : Prop := x.yes.Short ∧ x.no.Short ∧ x.args.length ≤ 100000
def Tys.Short (l : List Ty) : Prop := l.length ≤ 100000 ∧ ∀ t ∈ l, t.Short
def Block.Short (x : Block) : Prop := Tys.Short x.params ∧ x.code.length ≤ 100000 ∧ (∀ i ∈ x.code, i.Short) ∧ x.fin.Short
def Fun.Short (x : Fun) : Prop := Tys.Short x.params ∧ Tys.Short x.results ∧ x.blocks.length ≤ 100000 ∧ ∀ b ∈ x.blocks, b.Short
def Module.Short (x : Module) : Prop := x.funcs.length ≤ 100000 ∧ ∀ f ∈ x.funcs, f.Short
theorem all_snoc {α : Type} {l : List α} {p : α → Prop} {j : Nat} {x : α} (h : ∀ y ∈ l.take j, p y) (hx : l[j]? = some x) (hp : p x) : ∀ y ∈ l.take (j + 1), p y := by
  intro y hy
  rw [List.take_add_one, hx] at hy
  rcases List.mem_append.1 hy with hy | hy
  · exact h y hy
  · simp at hy; subst hy; exact hp
def insR : Rep Ins where
  es := 8
  pos := by decide
  R := fun H K cs x => ∃ vr va, cs = [.int .i64 x.op, .int .i64 x.a, .int .i64 x.b, .int .i64 x.c, .int .i64 x.k, .int .i64 x.n, vr, va] ∧ intR.SR H K vr x.regs ∧ intR.SR H K va x.args
  len := by rintro _ _ _ _ ⟨vr, va, rfl, _⟩; rfl
  one := by
    rintro _ _ _ _ ⟨vr, va, rfl, h1, h2⟩ u hu
    simp at hu
    rcases hu with rfl | rfl | rfl | rfl | rfl | rfl | rfl | rfl <;> first | rfl | exact h1.oneC | exact h2.oneC
  turn := by rintro _ _ _ _ _ _ ⟨vr, va, rfl, h1, h2⟩ hs; exact ⟨vr, va, rfl, h1.turn hs, h2.turn hs⟩
def toR : Rep To where
  es := 3
  pos := by decide
  R := fun H K cs x => ∃ vr va, cs = [.int .i64 x.block, vr, va] ∧ intR.SR H K vr x.regs ∧ intR.SR H K va x.args
  len := by rintro _ _ _ _ ⟨vr, va, rfl, _⟩; rfl
  one := by
    rintro _ _ _ _ ⟨vr, va, rfl, h1, h2⟩ u hu
    simp at hu
    rcases hu with rfl | rfl | rfl <;> first | rfl | exact h1.oneC | exact h2.oneC
  turn := by rintro _ _ _ _ _ _ ⟨vr, va, rfl, h1, h2⟩ hs; exact ⟨vr, va, rfl, h1.turn hs, h2.turn hs⟩
def endR : Rep Tail where
  es := 9
  pos := by decide
  R := fun H K cs x => ∃ v1 v2 v3 v4 v5, cs = [.int .i64 x.op, .int .i64 x.a, .int .i64 x.yes.block, v1, v2, .int .i64 x.no.block, v3, v4, v5] ∧ intR.SR H K v1 x.yes.regs ∧ intR.SR H K v2 x.yes.args ∧ intR.SR H K v3 x.no.regs ∧ intR.SR H K v4 x.no.args ∧ intR.SR H K v5 x.args
  len := by rintro _ _ _ _ ⟨_, _, _, _, _, rfl, _⟩; rfl
  one := by
    rintro _ _ _ _ ⟨_, _, _, _, _, rfl, h1, h2, h3, h4, h5⟩ u hu
    simp at hu
    rcases hu with rfl | rfl | rfl | rfl | rfl | rfl | rfl | rfl | rfl <;> first | rfl | exact h1.oneC | exact h2.oneC | exact h3.oneC | exact h4.oneC | exact h5.oneC
  turn := by rintro _ _ _ _ _ _ ⟨_, _, _, _, _, rfl, h1, h2, h3, h4, h5⟩ hs; exact ⟨_, _, _, _, _, rfl, h1.turn hs, h2.turn hs, h3.turn hs, h4.turn hs, h5.turn hs⟩
def blockR : Rep Block where
  es := 12
  pos := by decide
  R := fun H K cs x => ∃ vp vc ce, cs = .int .i64 x.regs :: vp :: vc :: ce ∧ tyR.SR H K vp x.params ∧ insR.SR H K vc x.code ∧ endR.R H K ce x.fin
  len := by rintro _ _ _ _ ⟨_, _, ce, rfl, _, _, h⟩; have := endR.len h; simp [this, endR]
  one := by
    rintro _ _ _ _ ⟨_, _, ce, rfl, h1, h2, h3⟩ u hu
    simp at hu
    rcases hu with rfl | rfl | rfl | hu
    · rfl
    · exact h1.oneC
    · exact h2.oneC
    · exact endR.one h3 u hu
  turn := by rintro _ _ _ _ _ _ ⟨_, _, _, rfl, h1, h2, h3⟩ hs; exact ⟨_, _, _, rfl, h1.turn hs, h2.turn hs, endR.turn h3 hs⟩
def funcR : Rep Fun where
  es := 4
  pos := by decide
  R := fun H K cs x => ∃ vp vr vb, cs = [.int .i64 x.regs, vp, vr, vb] ∧ tyR.SR H K vp x.params ∧ tyR.SR H K vr x.results ∧ blockR.SR H K vb x.blocks
  len := by rintro _ _ _ _ ⟨_, _, _, rfl, _⟩; rfl
  one := by
    rintro _ _ _ _ ⟨_, _, _, rfl, h1, h2, h3⟩ u hu
    simp at hu
    rcases hu with rfl | rfl | rfl | rfl <;> first | rfl | exact h1.oneC | exact h2.oneC | exact h3.oneC
  turn := by rintro _ _ _ _ _ _ ⟨_, _, _, rfl, h1, h2, h3⟩ hs; exact ⟨_, _, _, rfl, h1.turn hs, h2.turn hs, h3.turn hs⟩
theorem Q7E {c : Cx} {cs : List Value} {x : Fun} (h : funcR.at c cs x) : ∃ vp vr vb, cs = [.int .i64 x.regs, vp, vr, vb] ∧ tyR.sl c vp x.params ∧ tyR.sl c vr x.results ∧ blockR.sl c vb x.blocks := h
/-! ### codecs -/
section
variable {P : Program} {T : TypeId}
/-- A field as a kind of data. -/
theorem Cod.Of.part {α : Type} {r : Rep α} (c : Cod.Of P T r) {H : Heap} {cs : List Value} {x : α} (h : c.cod.rd H cs x) : r.R H (· < H.size) cs x := c.rd _ _ _ h
def Cod.Of.to {TI TL : TypeId} (ci : Cod.Of P TI intR) (cl : Cod.Of P TL intR.list) (h0 : fieldAt P T 0 = some (0, 1, TI)) (h1 : fieldAt P T 1 = some (1, 1, TL)) (h2 : fieldAt P T 2 = some (2, 1, TL)) (hT : P.cellsOf T = 3) : Cod.Of P T toR :=
  Cod.of (Fld.cod (Fld.more ci.cod h0 (Fld.more cl.cod h1 (Fld.more cl.cod h2 Fld.none))) h0 3 hT) toR rfl fun H cs x h => by
    obtain ⟨hl, g0, g1, g2, _⟩ := h
    match cs, hl with
    | [a, b, c], _ =>
      have e0 : [a] = [_] := ci.part g0
      obtain ⟨v1, e1, s1⟩ := cl.part g1
      obtain ⟨v2, e2, s2⟩ := cl.part g2
      replace e1 : [b] = [v1] := e1
      replace e2 : [c] = [v2] := e2
      simp only [List.cons.injEq, and_true] at e0 e1 e2
      subst e0 e1 e2
      exact ⟨⟨x.1, x.2.1, x.2.2.1⟩, b, c, rfl, s1, s2⟩
def Cod.Of.block {TI TL TC TE : TypeId} (ci : Cod.Of P TI intR) (cl : Cod.Of P TL tyR.list) (cc : Cod.Of P TC insR.list) (ce : Cod.Of P TE endR) (h0 : fieldAt P T 0 = some (0, 1, TI)) (h1 : fieldAt P T 1 = some (1, 1, TL)) (h2 : fieldAt P T 2 = some (2, 1, TC)) (h3 : fieldAt P T 3 = some (3, 9, TE)) (hT : P.cellsOf T = 12) : Cod.Of P T blockR :=
  Cod.of (Fld.cod (Fld.more ci.cod h0 (Fld.more cl.cod h1 (Fld.more cc.cod h2 (Fld.more ce.cod h3 Fld.none)))) h0 12 hT) blockR rfl fun H cs x h => by
    obtain ⟨hl, g0, g1, g2, g3, _⟩ := h
    match cs, hl with
    | [a0, a1, a2, a3, a4, a5, a6, a7, a8, a9, a10, a11], _ =>
      have e0 : [a0] = [_] := ci.part g0
      obtain ⟨v1, e1, s1⟩ := cl.part g1
      obtain ⟨v2, e2, s2⟩ := cc.part g2
      have s3 := ce.part g3
      replace e1 : [a1] = _ := e1
      replace e2 : [a2] = _ := e2
      replace s3 : endR.R H (· < H.size) [a3, a4, a5, a6, a7, a8, a9, a10, a11] x.2.2.2.1 := s3
      simp only [List.cons.injEq, and_true] at e0 e1 e2
      subst e0 e1 e2
      exact ⟨⟨x.1, x.2.1, x.2.2.1, x.2.2.2.1⟩, _, _, _, rfl, s1, s2, s3⟩
def Cod.Of.func {TI TL TB : TypeId} (ci : Cod.Of P TI intR) (cl : Cod.Of P TL tyR.list) (cb : Cod.Of P TB blockR.list) (h0 : fieldAt P T 0 = some (0, 1, TI)) (h1 : fieldAt P T 1 = some (1, 1, TL)) (h2 : fieldAt P T 2 = some (2, 1, TL)) (h3 : fieldAt P T 3 = some (3, 1, TB)) (hT : P.cellsOf T = 4) : Cod.Of P T funcR :=
  Cod.of (Fld.cod (Fld.more ci.cod h0 (Fld.more cl.cod h1 (Fld.more cl.cod h2 (Fld.more cb.cod h3 Fld.none)))) h0 4 hT) funcR rfl fun H cs x h => by
    obtain ⟨hl, g0, g1, g2, g3, _⟩ := h
    match cs, hl with
    | [a0, a1, a2, a3], _ =>
      have e0 : [a0] = [_] := ci.part g0
      obtain ⟨v1, e1, s1⟩ := cl.part g1
      obtain ⟨v2, e2, s2⟩ := cl.part g2
      obtain ⟨v3, e3, s3⟩ := cb.part g3
      replace e1 : [a1] = _ := e1
      replace e2 : [a2] = _ := e2
      replace e3 : [a3] = _ := e3
      simp only [List.cons.injEq, and_true] at e0 e1 e2 e3
      subst e0 e1 e2 e3
      exact ⟨⟨x.1, x.2.1, x.2.2.1, x.2.2.2.1⟩, _, _, _, rfl, s1, s2, s3⟩
end
end Go.Lir
namespace Go.Lir
set_option linter.unusedVariables false
abbrev Flt := Int × Int
/-- The first fault. -/
def orF (a b : Flt) : Flt := if a.1 = 0 ∧ b.1 ≠ 0 then b else a
def mkF (c at' : Int) : Flt := if c = 0 then (0, 0) else (c, at')
/-- Two codes at one place: the first that is not 0. -/
def orC (a b : Int) : Int := if a ≠ 0 then a else b
/-! which fields an instruction has -/
def fA (op : Int) : Bool := decide (op = 2 ∨ op = 4 ∨ op = 5 ∨ op = 6 ∨ op = 7 ∨ op = 8 ∨ op = 9 ∨ op = 10 ∨ op = 11 ∨ op = 13)
def fB (op : Int) : Bool := decide (op = 2 ∨ op = 7 ∨ op = 8 ∨ op = 9 ∨ op = 10)
def fC (op : Int) : Bool := decide (op = 10)
def fK (op : Int) : Bool := decide (op = 2 ∨ op = 6 ∨ op = 7 ∨ op = 14)
def fN (op : Int) : Bool := decide (op = 1)
def fG (op : Int) : Bool := decide (op = 14)
def fR (op : Int) : Bool := decide (op = 5 ∨ op = 14)
/-- A field that the kind has not is not 0. -/
def Ins.odd (x : Ins) : Prop := (fA x.op = false ∧ x.a ≠ 0) ∨ (fB x.op = false ∧ x.b ≠ 0) ∨ (fC x.op = false ∧ x.c ≠ 0) ∨ (fK x.op = false ∧ x.k ≠ 0) ∨ (fN x.op = false ∧ x.n ≠ 0) ∨ (fG x.op = false ∧ 0 < x.regs.length) ∨ (fR x.op = false ∧ 0 < x.args.length)
instance (x : Ins) : Decidable x.odd := by unfold Ins.odd; infer_instance
/-- What stands behind the form, kind by kind. -/
def insKind (n : Nat) (x : Ins) : Int :=
  if x.op = 2 then (if x.k < 1 ∨ 9 < x.k then 1 else 0)
  else if x.op = 5 then (if 8 < x.args.length then 2 else 0)
  else if x.op = 6 ∨ x.op = 7 then (if x.k < 0 ∨ 8 ≤ x.k then 1 else 0)
  else if x.op = 14 then (if x.k < 0 ∨ (n : Int) ≤ x.k then 1 else if 6 < x.regs.length ∨ 8 < x.args.length then 2 else 0)
  else 0
def insForm (n : Nat) (x : Ins) : Int := if x.op < 1 ∨ 14 < x.op then 3 else if x.odd then 4 else insKind n x
def toForm (n : Nat) (t : To) (is : Bool) : Int :=
  if is = false then (if t.block ≠ 0 ∨ 0 < t.regs.length ∨ 0 < t.args.length then 4 else 0)
  else if t.block < 0 ∨ (n : Int) ≤ t.block then 1 else if 16 < t.regs.length ∨ 8 < t.args.length then 2 else 0
def endForm (n : Nat) (e : Tail) : Int :=
  if e.op < 1 ∨ 3 < e.op then 3
  else if e.op ≠ 2 ∧ e.a ≠ 0 ∨ e.op ≠ 3 ∧ 0 < e.args.length then 4
  else if 8 < e.args.length then 2
  else orC (toForm n e.yes (decide (e.op ≠ 3))) (toForm n e.no (decide (e.op = 2)))
def Q7f (regs : Int) : List Ty → Int
  | [] => 0
  | t :: l => orC (t.fault regs) (Q7f regs l)
def Q2g (l : List Ty) (regs : Int) : Int := if 8 < l.length then 2 else Q7f regs l
def atFunc (f : Nat) : Int := f * 10000 + 9999
def atBlock (f b : Nat) : Int := f * 10000 + b * 100 + 90
def atEnd (f b : Nat) : Int := f * 10000 + b * 100 + 91
def atIns (f b i : Nat) : Int := f * 10000 + b * 100 + i
/-- The instructions from the i-th on. -/
def Q5f (n f b : Nat) : Nat → List Ins → Flt
  | _, [] => (0, 0)
  | i, x :: l => orF (mkF (insForm n x) (atIns f b i)) (Q5f n f b (i + 1) l)
def Q7I (x : Fun) (b : Nat) (y : Block) : Int :=
  if y.regs < x.regs ∨ 16 < y.regs then 1
  else if Q2g y.params y.regs ≠ 0 then Q2g y.params y.regs
  else if b = 0 ∧ (y.regs ≠ x.regs ∨ y.params ≠ x.params) then 9
  else if 40 < y.code.length then 2 else 0
def Q6Q (n f : Nat) (x : Fun) (b : Nat) (y : Block) : Flt := orF (mkF (Q7I x b y) (atBlock f b)) (orF (Q5f n f b 0 y.code) (mkF (endForm x.blocks.length y.fin) (atEnd f b)))
def Q41 (n f : Nat) (x : Fun) : Nat → List Block → Flt
  | _, [] => (0, 0)
  | b, y :: l => orF (Q6Q n f x b y) (Q41 n f x (b + 1) l)
def funHead (f : Nat) (x : Fun) : Int :=
  if x.regs < 0 ∨ 6 < x.regs then 1
  else if Q2g x.params x.regs ≠ 0 then Q2g x.params x.regs
  else if Q2g x.results x.regs ≠ 0 then Q2g x.results x.regs
  else if x.blocks.length < 1 ∨ 12 < x.blocks.length then 2
  else if f = 0 ∧ (0 < x.regs ∨ 0 < x.params.length ∨ ∃ t ∈ x.results, t.kind ≠ 1) then 18 else 0
def funFault (n f : Nat) (x : Fun) : Flt := orF (mkF (funHead f x) (atFunc f)) (Q41 n f x 0 x.blocks)
def Q5d (n : Nat) : Nat → List Fun → Flt
  | _, [] => (0, 0)
  | f, x :: l => orF (funFault n f x) (Q5d n (f + 1) l)
def Module.fault (m : Module) : Flt := orF (mkF (if m.funcs.length < 1 ∨ 8 < m.funcs.length then 2 else 0) (-1)) (Q5d m.funcs.length 0 m.funcs)
/-! has -/
end Go.Lir
namespace Go.Lir
set_option linter.unusedVariables false
def QO (c : UInt8) : Bool := decide (97 ≤ c.toNat ∧ c.toNat ≤ 122)
def Qi (c : UInt8) : Bool := decide (48 ≤ c.toNat ∧ c.toNat ≤ 57)
def Q3z (c : UInt8) : Bool := decide (c ∈ [(40 : UInt8), 41, 123, 125, 60, 62, 44, 59])
/-- A number's text, read. -/
def Q3U (t : List UInt8) : Option Int := match Lib.parseIntB 64 t with
  | .ok n => if Lib.itoa n = t then some n else none
  | _ => none
abbrev TokR := Except Int (List UInt8 × Option Int)
/-- 8: a number that is none. -/
def numT (t : List UInt8) : TokR := match Q3U t with
  | some n => .ok (t, some n)
  | none => .error 8
/-- The token that stands at the beginning: its text, its number; 6: none. -/
def tok1 : List UInt8 → TokR
  | [] => .error 6
  | c :: r =>
    if QO c = true then .ok ((c :: r).takeWhile QO, none)
    else if Qi c = true then numT ((c :: r).takeWhile Qi)
    else if c = 45 then match r with
      | [] => .error 6
      | d :: r' => if d = 62 then .ok ([45, 62], none) else if Qi d = true then numT (45 :: (d :: r').takeWhile Qi) else .error 6
    else if Q3z c = true then .ok ([c], none) else .error 6
theorem QK {c : UInt8} {r : List UInt8} (h : QO c = true) : tok1 (c :: r) = .ok ((c :: r).takeWhile QO, none) := by
  rw [tok1.eq_def]; dsimp only; rw [if_pos h]
theorem QA {c : UInt8} {r : List UInt8} (h0 : ¬ QO c = true) (h : Qi c = true) : tok1 (c :: r) = numT ((c :: r).takeWhile Qi) := by
  rw [tok1.eq_def]; dsimp only; rw [if_neg h0, if_pos h]
theorem Q2f {r : List UInt8} : tok1 (45 :: 62 :: r) = .ok ([45, 62], none) := by
  rw [tok1.eq_def]; dsimp only; rw [if_neg (by decide), if_neg (by decide), if_pos rfl, if_pos rfl]
theorem Q1e {d : UInt8} {r : List UInt8} (h0 : ¬ d = 62) (h : Qi d = true) : tok1 (45 :: d :: r) = numT (45 :: (d :: r).takeWhile Qi) := by
  rw [tok1.eq_def]; dsimp only; rw [if_neg (by decide), if_neg (by decide), if_pos rfl, if_neg h0, if_pos h]
theorem Q6d {d : UInt8} {r : List UInt8} (h0 : ¬ d = 62) (h : ¬ Qi d = true) : tok1 (45 :: d :: r) = .error 6 := by
  rw [tok1.eq_def]; dsimp only; rw [if_neg (by decide), if_neg (by decide), if_pos rfl, if_neg h0, if_neg h]
theorem Q6c : tok1 [45] = .error 6 := by
  rw [tok1.eq_def]; dsimp only; rw [if_neg (by decide), if_neg (by decide), if_pos rfl]
theorem Q2I {c : UInt8} {r : List UInt8} (h0 : ¬ QO c = true) (h1 : ¬ Qi c = true) (h2 : ¬ c = 45) (h : Q3z c = true) : tok1 (c :: r) = .ok ([c], none) := by
  rw [tok1.eq_def]; dsimp only; rw [if_neg h0, if_neg h1, if_neg h2, if_pos h]
theorem Q6f {c : UInt8} {r : List UInt8} (h0 : ¬ QO c = true) (h1 : ¬ Qi c = true) (h2 : ¬ c = 45) (h : ¬ Q3z c = true) : tok1 (c :: r) = .error 6 := by
  rw [tok1.eq_def]; dsimp only; rw [if_neg h0, if_neg h1, if_neg h2, if_neg h]
/-- What stands between tokens, left away; true: within a remark. -/
def skip : Bool → List UInt8 → List UInt8
  | _, [] => []
  | true, c :: r => if c = 10 then skip false r else skip true r
  | false, c :: r => if c = 10 ∨ c = 32 ∨ c = 9 ∨ c = 13 then skip false r else if c = 35 then skip true r else c :: r
structure Tok where
  at_ : Nat
  text : List UInt8
  num : Option Int
def Q22 (n : Nat) : Nat → List UInt8 → List Tok → Except Flt (List Tok)
  | 0, _, acc => .ok acc
  | k + 1, l, acc => match l with
    | [] => .ok acc
    | c :: r => match tok1 (c :: r) with
      | .error e => .error (e, (n : Int) - (c :: r).length)
      | .ok (t, m) => Q22 n k (skip false ((c :: r).drop t.length)) (acc ++ [⟨n - (c :: r).length, t, m⟩])
/-- Scan -/
def scan (s : List UInt8) : Except Flt (List Tok) := if 40000 < s.length then .error (2, 40000) else Q22 s.length (s.length + 1) (skip false s) []
theorem tok1_len {l : List UInt8} {t : List UInt8} {m : Option Int} (h : tok1 l = .ok (t, m)) : 0 < t.length ∧ t.length ≤ l.length := by
  have hn : ∀ {x : List UInt8} {t : List UInt8} {m : Option Int}, numT x = .ok (t, m) → t = x := by
    intro x t m h
    unfold numT at h
    split at h
    · cases h; rfl
    · cases h
  have hw : ∀ (p : UInt8 → Bool) (x : List UInt8), (x.takeWhile p).length ≤ x.length := fun p x => (List.takeWhile_prefix p).length_le
  match l, h with
  | c :: r, h =>
    rw [tok1.eq_def] at h
    dsimp only at h
    split at h
    · rename_i hc
      cases h
      exact ⟨by rw [List.takeWhile_cons, if_pos hc]; simp, hw _ _⟩
    · split at h
      · rename_i hc
        have := hn h; subst this
        exact ⟨by rw [List.takeWhile_cons, if_pos hc]; simp, hw _ _⟩
      · split at h
        · split at h
          · cases h
          · rename_i d r'
            split at h
            · cases h; simp
            · split at h
              · have := hn h; subst this
                have := hw Qi (d :: r')
                simp only [List.length_cons] at this ⊢
                omega
              · cases h
        · split at h
          · cases h; simp
          · cases h
theorem Q2r {p : UInt8 → Bool} : ∀ {l : List UInt8} {c : UInt8} {r : List UInt8}, (∀ x ∈ l, p x = true) → p c = false → (l ++ c :: r).takeWhile p = l
  | [], c, r, _, hc => by rw [List.nil_append, List.takeWhile_cons, hc]; rfl
  | x :: l, c, r, h, hc => by
    rw [List.cons_append, List.takeWhile_cons, if_pos (h x (List.mem_cons_self ..)), Q2r (fun y hy => h y (List.mem_cons_of_mem _ hy)) hc]
/-- The texts, with blanks and remarks between them. -/
def backT : List Tok → List UInt8
  | [] => []
  | t :: l => t.text ++ [32, 35, 32, 45, 10] ++ backT l
/-- The same but for the place. -/
def Tok.like (a b : Tok) : Prop := a.text = b.text ∧ a.num = b.num
end Go.Lir
namespace Go.Lir
section
variable {P : Program} {l : List GO} {Q : QT} {ρ : Env} {w : World} {a : List UInt8}
theorem Q34 (a : List UInt8) : (⟨a.toArray⟩ : ByteArray).size = a.length := by rw [Lib.size_eq]
theorem tx_get (a : List UInt8) (i : Nat) : (⟨a.toArray⟩ : ByteArray)[i]? = a[i]? := by
  by_cases h : i < a.length
  · rw [List.getElem?_eq_getElem h, getElem?_pos _ _ (by rw [Q34]; exact h)]
    rfl
  · rw [List.getElem?_eq_none (by omega), getElem?_neg _ _ (by rw [Q34]; exact h)]
theorem Q6B (a : List UInt8) (i j : Nat) : (⟨a.toArray⟩ : ByteArray).extract i j = ⟨((a.take j).drop i).toArray⟩ := by
  apply ByteArray.ext
  apply Array.ext'
  simp [ByteArray.data_extract, List.drop_take]
theorem Qq {d : Nat} {x : Operand} (hx : ρ.ev x = .string ⟨a.toArray⟩) (h : Q0 P l Q (upd ρ d (.int .i64 a.length)) w) : Q0 P (⟨none, .slen d x⟩ :: l) Q ρ w := s_slen hx (by rw [Q34]; exact h)
theorem Qj {d m : Nat} {x i : Operand} {k : IntKind} {b : UInt8} (hx : ρ.ev x = .string ⟨a.toArray⟩) (hi : ρ.ev i = .int k (m : Int)) (hb : a[m]? = some b) (h : Q0 P l Q (upd ρ d (.int .u8 b.toNat)) w) : Q0 P (⟨none, .sidx d x i⟩ :: l) Q ρ w :=
  s_sidx hx hi (by omega) (by rw [Int.toNat_natCast, tx_get]; exact hb) h
theorem Q1f {d l' h' : Nat} {x : Operand} {lo hi : Option Operand} (hx : ρ.ev x = .string ⟨a.toArray⟩) (hh : bnd ρ a.length hi h') (hl : bnd ρ 0 lo l') (h2 : h' ≤ a.length) (h3 : l' ≤ h')
    (h : Q0 P l Q (upd ρ d (.string ⟨((a.take h').drop l').toArray⟩)) w) : Q0 P (⟨none, .ssub d x lo hi⟩ :: l) Q ρ w :=
  ⟨_, l', h', hx, by rw [Q34]; exact hh, hl, by rw [Q34]; exact h2, h3, by rw [Q6B]; exact h⟩
theorem Q5u {d T : Nat} {x y : Operand} {a b : List UInt8} (hx : ρ.ev x = .string ⟨a.toArray⟩) (hy : ρ.ev y = .string ⟨b.toArray⟩)
    (h : Q0 P l Q (upd ρ d (.bool (decide (a ≠ b)))) w) : Q0 P (⟨none, .bin d .neq T x y⟩ :: l) Q ρ w :=
  ⟨_, fun w0 => by
    rw [hx, hy]
    have e : ∀ c : List UInt8, (⟨c.toArray⟩ : ByteArray).toList = c := fun c => Lib.toList_data _
    have e2 : (a != b) = decide (a ≠ b) := by by_cases h : a = b <;> simp [h]
    have e3 : (a == b) = decide (a = b) := by by_cases h : a = b <;> simp [h]
    simp [eqGuard, binOp, Op.stringOp, e, e2, e3], h⟩
/-- A number that lies in memory: for measures. -/
def Q7G (w : World) (b j : Nat) : Int := match w.cell? ⟨b, j, none⟩ with
  | some (.int _ n) => n
  | _ => 0
theorem Q2j {c : Cx} {L : List Res} {T b j i : Nat} {cs : List Value} {k : IntKind} {n : Int} (hS : St c w L) (hi : nth L i = some (blk b T cs)) (hj : cs[j]? = some (.int k n)) : Q7G w b j = n := by
  unfold Q7G; rw [(hS.blkAt hi).cell hj]
/-- A call of a function that was handed in. -/
theorem s_callf {d : Nat} {x : Operand} {xs : List Operand} {f : FuncId} {args : List Value} {S : Value → World → Prop} (hx : ρ.ev x = .func (.func f) #[] #[]) (hf : Q3X P f = true) (hxs : xs.map ρ.ev = args) (hc : Rets P f args w S)
    (h : ∀ v w', S v w' → Q0 P l Q (upd ρ d v) w') : Q0 P (⟨none, .callv (some d) x xs⟩ :: l) Q ρ w := by
  unfold Q3X at hf
  rw [Option.any_eq_true] at hf
  obtain ⟨fn, h1, h2⟩ := hf
  rw [Bool.and_eq_true, Bool.not_eq_true'] at h2
  refine s_callv (cap := []) hx h1 h2.1 h2.2 (by rw [hxs, List.append_nil]) hc ?_
  rintro e w' ⟨v, rfl, hv⟩
  exact h v w' hv
end
end Go.Lir
namespace Go.Proofs.YtjecflbbcnocdaaDoor
open Go.Lir
set_option maxHeartbeats 1000000
attribute [local irreducible] LC.wp Q0 Qv QJ retQ Q2z LO.wp Qn Calls
set_option linter.unusedSimpArgs false
set_option linter.unusedVariables false
variable {cx : Cx} {w : World} {L : List Res}
theorem Q6p {c : UInt8} (hS : St cx w L) : Rets Tryd.prog Q3t [.int .u8 c.toNat] w fun u w' => u = .bool (QO c) ∧ St cx w' L := by
  all_goals refine Q3J ?_
  all_goals (unfold token_letter_lc; refine Q2 ?_; refine Q3 ?_; refine zm ?_; refine zn ?_; refine Q2 ?_; refine Q3 ?_; refine zm ?_)
  all_goals (first | (refine Q6y ?_) | (refine Q6z ?_) | (refine Q39 rfl rfl (fun hc => ?_) (fun hc => ?_)))
  all_goals (refine zm ?_; (first | refine s_gn rfl rfl ?_ | (refine s_gy rfl ?_; refine zm ?_)))
  all_goals (first | refine s_gn rfl rfl ?_ | (refine s_gy rfl ?_; (first | (refine zleqt ?_) | (refine zleqf ?_) | (refine Q4G rfl rfl (fun hc => ?_) (fun hc => ?_)))))
  all_goals ((first | (refine zpt ?_) | (refine zpf ?_)); refine zm ?_; refine zn ?_; refine zr ?_; refine zf ?_; exact ⟨_, rfl, (by unfold QO; first | rw [decide_eq_true (by omega)] | rw [decide_eq_false (by omega)]), hS.sp⟩)
theorem Q56 {c : UInt8} (hS : St cx w L) : Rets Tryd.prog Q4q [.int .u8 c.toNat] w fun u w' => u = .bool (QO c) ∧ St cx w' L := by
  all_goals refine Q4T ?_
  all_goals (unfold R_isLetter_lc; refine Q2 ?_; refine Q3 ?_; refine zm ?_; refine zn ?_; refine Q2 ?_; refine Q3 ?_; refine zm ?_)
  all_goals (first | (refine Q6y ?_) | (refine Q6z ?_) | (refine Q39 rfl rfl (fun hc => ?_) (fun hc => ?_)))
  all_goals (refine zm ?_; (first | refine s_gn rfl rfl ?_ | (refine s_gy rfl ?_; refine zm ?_)))
  all_goals (first | refine s_gn rfl rfl ?_ | (refine s_gy rfl ?_; (first | (refine zleqt ?_) | (refine zleqf ?_) | (refine Q4G rfl rfl (fun hc => ?_) (fun hc => ?_)))))
  all_goals ((first | (refine zpt ?_) | (refine zpf ?_)); refine zm ?_; refine zn ?_; refine zr ?_; refine zf ?_; exact ⟨_, rfl, (by unfold QO; first | rw [decide_eq_true (by omega)] | rw [decide_eq_false (by omega)]), hS.sp⟩)
theorem Q5J {c : UInt8} (hS : St cx w L) : Rets Tryd.prog Q3L [.int .u8 c.toNat] w fun u w' => u = .bool (Qi c) ∧ St cx w' L := by
  all_goals refine Q48 ?_
  all_goals (unfold token_digit_lc; refine Q2 ?_; refine Q3 ?_; refine zm ?_; refine zn ?_; refine Q2 ?_; refine Q3 ?_; refine zm ?_)
  all_goals (first | (refine Q6y ?_) | (refine Q6z ?_) | (refine Q39 rfl rfl (fun hc => ?_) (fun hc => ?_)))
  all_goals (refine zm ?_; (first | refine s_gn rfl rfl ?_ | (refine s_gy rfl ?_; refine zm ?_)))
  all_goals (first | refine s_gn rfl rfl ?_ | (refine s_gy rfl ?_; (first | (refine zleqt ?_) | (refine zleqf ?_) | (refine Q4G rfl rfl (fun hc => ?_) (fun hc => ?_)))))
  all_goals ((first | (refine zpt ?_) | (refine zpf ?_)); refine zm ?_; refine zn ?_; refine zr ?_; refine zf ?_; exact ⟨_, rfl, (by unfold Qi; first | rw [decide_eq_true (by omega)] | rw [decide_eq_false (by omega)]), hS.sp⟩)
theorem Q4J {c : UInt8} (hS : St cx w L) : Rets Tryd.prog Q5m [.int .u8 c.toNat] w fun u w' => u = .bool (Qi c) ∧ St cx w' L := by
  all_goals refine Q5l ?_
  all_goals (unfold R_isDigit_lc; refine Q2 ?_; refine Q3 ?_; refine zm ?_; refine zn ?_; refine Q2 ?_; refine Q3 ?_; refine zm ?_)
  all_goals (first | (refine Q6y ?_) | (refine Q6z ?_) | (refine Q39 rfl rfl (fun hc => ?_) (fun hc => ?_)))
  all_goals (refine zm ?_; (first | refine s_gn rfl rfl ?_ | (refine s_gy rfl ?_; refine zm ?_)))
  all_goals (first | refine s_gn rfl rfl ?_ | (refine s_gy rfl ?_; (first | (refine zleqt ?_) | (refine zleqf ?_) | (refine Q4G rfl rfl (fun hc => ?_) (fun hc => ?_)))))
  all_goals ((first | (refine zpt ?_) | (refine zpf ?_)); refine zm ?_; refine zn ?_; refine zr ?_; refine zf ?_; exact ⟨_, rfl, (by unfold Qi; first | rw [decide_eq_true (by omega)] | rw [decide_eq_false (by omega)]), hS.sp⟩)
end Go.Proofs.YtjecflbbcnocdaaDoor
namespace Go.Lir
section
variable {P : Program} {l : List GO} {Q : QT} {ρ : Env} {w : World} {c : Cx} {L : List Res} {v : Value}
theorem s_sadd {d T : Nat} {x y : Operand} {a b : List UInt8} (hx : ρ.ev x = .string ⟨a.toArray⟩) (hy : ρ.ev y = .string ⟨b.toArray⟩) (hl : a.length + b.length ≤ 9223372036854775807)
    (h : Q0 P l Q (upd ρ d (.string ⟨(a ++ b).toArray⟩)) w) : Q0 P (⟨none, .bin d .add T x y⟩ :: l) Q ρ w :=
  ⟨_, fun w0 => by
    rw [hx, hy]
    have := run_string_add_sum (P := P) w0 (⟨a.toArray⟩ : ByteArray) ⟨b.toArray⟩ (by simpa [ByteArray.size] using hl)
    rw [ByteArray.mk_append_mk] at this
    simpa [eqGuard, binOp] using this, h⟩
theorem s_seql {d T : Nat} {x y : Operand} {a b : List UInt8} (hx : ρ.ev x = .string ⟨a.toArray⟩) (hy : ρ.ev y = .string ⟨b.toArray⟩)
    (h : Q0 P l Q (upd ρ d (.bool (decide (a = b)))) w) : Q0 P (⟨none, .bin d .eql T x y⟩ :: l) Q ρ w :=
  ⟨_, fun w0 => by
    rw [hx, hy]
    have e : ∀ c : List UInt8, (⟨c.toArray⟩ : ByteArray).toList = c := fun c => Lib.toList_data _
    have e2 : (a == b) = decide (a = b) := by by_cases h : a = b <;> simp [h]
    simp [eqGuard, binOp, Op.stringOp, e, e2], h⟩
theorem Q6t {w w' : World} (h : Go.RowKit.Below w.heap.size w w') : Fr NF w w' := ⟨h.os, h.tape, h.output, h.size, fun b hb _ => h.block b hb⟩
theorem grow_fr (w : World) (k : Nat) (os : Array Obj) : Fr NF w (Go.Sort.grow (w.drewN k) os) :=
  ⟨rfl, rfl, rfl, by simp [Go.Sort.grow], fun b hb _ => by simp only [Go.Sort.grow, World.heap_drewN]; rw [Array.getElem?_append_left hb]⟩
/-- The table lies in what is only read. -/
def TabK (P : Program) (c : Cx) (name : String) (k : IntKind) (zs : List Int) : Prop := ∃ g, c.K g ∧ ∀ w : World, w.heap[g]? = c.H0[g]? → Lib.TabIs P w name k zs
theorem TabK.up {name : String} {k : IntKind} {zs : List Int} {c' : Cx} (h : TabK P c name k zs) (hle : c.Le c') : TabK P c' name k zs := by
  obtain ⟨g, h1, h2⟩ := h
  exact ⟨g, (hle.K g h1).1, fun w hw => h2 w (hw.trans (hle.K g h1).2)⟩
theorem TabK.now {name : String} {k : IntKind} {zs : List Int} (h : TabK P c name k zs) (hS : St c w L) : Lib.TabIs P w name k zs := by
  obtain ⟨g, h1, h2⟩ := h
  exact h2 w (hS.1.same g h1)
theorem TabK.top {name : String} {k : IntKind} {zs : List Int} (h : Lib.TabIs P w name k zs) : TabK P (Cx.top w) name k zs := by
  unfold Lib.TabIs World.var? at h
  cases hg : P.globalNamed name with
  | none => simp [hg] at h
  | some g =>
    simp only [hg, Option.bind_some] at h
    have hlt : g < w.heap.size := by
      rcases Nat.lt_or_ge g w.heap.size with h' | h'
      · exact h'
      · rw [Array.getElem?_eq_none h'] at h; simp at h
    refine ⟨g, hlt, fun w' hw' => ?_⟩
    have hw2 : w'.heap[g]? = w.heap[g]? := hw'
    unfold Lib.TabIs World.var?
    simp only [hg, Option.bind_some]
    rw [hw2]; exact h
end
end Go.Lir
namespace Go.Proofs.YtjecflbbcnocdaaDoor
open Go.Lir
set_option maxHeartbeats 1000000
attribute [local irreducible] LC.wp Q0 Qv QJ retQ Q2z LO.wp Qn Calls
set_option linter.unusedSimpArgs false
set_option linter.unusedVariables false
theorem pi_nil (n : Int) : Lib.parseIntB 64 [] ≠ .ok n := fun h => by cases h
theorem pi_cases (t : List UInt8) : (∃ n, Lib.parseIntB 64 t = .ok n) ∨ Lib.parseIntB 64 t = .range ∨ Lib.parseIntB 64 t = Lib.parseIntB 64 [] := by
  cases h : Lib.parseIntB 64 t with
  | ok n => exact .inl ⟨n, rfl⟩
  | range => exact .inr (.inl rfl)
  | _ => exact .inr (.inr rfl)
attribute [local irreducible] Lib.itoa Lib.parseIntB
variable {cx : Cx} {w : World} {L : List Res}
/-- The table of powers of ten lies in what is only read. -/
abbrev PowT (c : Cx) : Prop := TabK Tryd.prog c "internal/strconv.uint64pow10" .u64 Lib.pow10Tab
/-- An error of the library's lies in what is only read. -/
def ErrV (c : Cx) (g : Nat) : Prop := c.K g ∧ ∀ w : World, w.heap[g]? = c.H0[g]? → ∃ ev, w.cell? ⟨g, 0, none⟩ = some ev ∧ (ev = .nilIface ∨ ∃ te pe, ev = .iface te pe)
theorem ErrV.up {c c' : Cx} {g : Nat} (h : ErrV c g) (hle : c.Le c') : ErrV c' g := ⟨(hle.K g h.1).1, fun w hw => h.2 w (hw.trans (hle.K g h.1).2)⟩
theorem ErrV.now {c : Cx} {g : Nat} (h : ErrV c g) (hS : St c w L) : ∃ ev, w.cell? ⟨g, 0, none⟩ = some ev ∧ (ev = .nilIface ∨ ∃ te pe, ev = .iface te pe) := h.2 w (hS.1.same g h.1)
/-- What the numbers' texts need. -/
structure NumK (c : Cx) : Prop where
  pow : PowT c
  syn : ErrV c 1
  rng : ErrV c 2
theorem NumK.up {c c' : Cx} (h : NumK c) (hle : c.Le c') : NumK c' := ⟨h.pow.up hle, h.syn.up hle, h.rng.up hle⟩
theorem bytes_fr (w : World) (T : TypeId) (t : ByteArray) : Fr NF w (Lib.bytesWorld w T t) :=
  ⟨rfl, rfl, rfl, by rw [Lib.bytesWorld_size]; omega, fun b hb _ => Lib.bytesWorld_at_old w T t b hb⟩
theorem ifmt_c {n : Int} (h0 : -9223372036854775808 ≤ n) (h1 : n ≤ 9223372036854775807) (hT : NumK cx) (hS : St cx w L) :
    Rets Tryd.prog 58 [.int .i64 n, .int .i64 10] w fun u w' => u = .string ⟨(Lib.itoa n).toArray⟩ ∧ St cx w' L := by
  refine Calls.mono (Tryd.internal_strconv_FormatInt_10 n h0 h1 w (hT.pow.now hS)) ?_
  rintro e w' ⟨rfl, k, os, rfl⟩
  exact ⟨_, rfl, rfl, hS.fr0 (grow_fr w k os)⟩
/-- A number's text, read: the number, or an error. -/
theorem Q7w {t : List UInt8} (ht : t.length ≤ 100000) (hT : NumK cx) (hS : St cx w L) :
    Rets Tryd.prog 34 [.string ⟨t.toArray⟩, .int .i64 10, .int .i64 64] w fun u w' => (∃ n, Lib.parseIntB 64 t = .ok n ∧ u = .tuple #[.int .i64 n, .nilIface] ∧ St cx w' L) ∨ ((∀ n, Lib.parseIntB 64 t ≠ .ok n) ∧ ∃ n T p, u = .tuple #[.int .i64 n, .iface T p] ∧ oneC p = true ∧ St cx w' L) := by
  have hsz : (⟨t.toArray⟩ : ByteArray).size = t.length := Q34 t
  rcases pi_cases t with ⟨n, h⟩ | h | h
  · refine Calls.mono (Tryd.strconv_ParseInt_10_at64_ok ⟨t.toArray⟩ (by omega) n h w) ?_
    rintro e w' ⟨rfl, h2⟩
    refine ⟨_, rfl, .inl ⟨n, h, rfl, ?_⟩⟩
    rcases h2 with rfl | ⟨s, rfl⟩
    · exact hS
    · exact hS.fr0 (bytes_fr w _ s)
  · obtain ⟨ev, h1, h2⟩ := hT.rng.now hS
    refine Calls.mono (Tryd.strconv_ParseInt_10_at64_range ⟨t.toArray⟩ (by omega) h ev w h1 h2) ?_
    rintro e w' ⟨N, rfl, _, _, hb⟩
    exact ⟨_, rfl, .inr ⟨fun n hn => (by rw [h] at hn; cases hn), _, _, _, rfl, rfl, hS.fr0 (Q6t hb)⟩⟩
  · obtain ⟨ev, h1, h2⟩ := hT.syn.now hS
    refine Calls.mono (Tryd.strconv_ParseInt_10_at64_syntax ⟨t.toArray⟩ (by omega) h ev w h1 h2) ?_
    rintro e w' ⟨N, rfl, _, _, hb⟩
    exact ⟨_, rfl, .inr ⟨fun n hn => pi_nil n (h.symm.trans hn), _, _, _, rfl, rfl, hS.fr0 (Q6t hb)⟩⟩
theorem fmt_c {n : Int} (h0 : -9223372036854775808 ≤ n) (h1 : n ≤ 9223372036854775807) (hT : NumK cx) (hS : St cx w L) :
    Rets Tryd.prog 35 [.int .i64 n, .int .i64 10] w fun u w' => u = .string ⟨(Lib.itoa n).toArray⟩ ∧ St cx w' L := by
  all_goals refine Q2p ?_
  all_goals (unfold strconv_FormatInt_lc; refine Q2 ?_; refine Q3 ?_; refine zm ?_; refine zn ?_; refine Q2 ?_; refine Q3 ?_; refine zm ?_; refine zm ?_; refine zR2 (c := ifmt_c h0 h1 hT hS) (h := ?_); rintro v1 w1 ⟨rfl, hS⟩; refine zm ?_; refine zn ?_; refine zr ?_; refine zf ?_; exact ⟨_, rfl, rfl, hS.sp⟩)
theorem iby_c {s : List UInt8} {c : UInt8} (hS : St cx w L) : Rets Tryd.prog 33 [.string ⟨s.toArray⟩, .int .u8 c.toNat] w fun u w' => u = .int .i64 (Lib.indexByte s c) ∧ St cx w' L := by
  refine Calls.mono (Tryd.strings_IndexByte ⟨s.toArray⟩ c.toNat w) ?_
  rintro e w' ⟨rfl, rfl⟩
  refine ⟨_, rfl, ?_, hS⟩
  rw [Int.toNat_natCast]
  simp
theorem ihp_c {s p : List UInt8} (hl : s.length ≤ 100000) (hS : St cx w L) : Rets Tryd.prog 54 [.string ⟨s.toArray⟩, .string ⟨p.toArray⟩] w fun u w' => u = .bool (decide (s.take p.length = p)) ∧ St cx w' L := by
  all_goals refine QF ?_
  all_goals (unfold internal_stringslite_HasPrefix_lc; refine Q2 ?_; refine Q3 ?_; refine zm ?_; refine zn ?_; refine Q2 ?_; refine Q3 ?_; refine zm ?_; refine Qq rfl ?_; refine zm ?_; refine Qq rfl ?_)
  all_goals (first | (refine Q6y ?_) | (refine Q6z ?_) | (refine Q39 rfl rfl (fun hc => ?_) (fun hc => ?_)))
  all_goals (refine zm ?_; (first | refine s_gn rfl rfl ?_ | (refine s_gy rfl ?_; refine zm ?_)); (first | refine s_gn rfl rfl ?_ | (refine s_gy rfl ?_; refine zm ?_)); (first | refine s_gn rfl rfl ?_ | (refine s_gy rfl ?_; refine Qq rfl ?_)); (first | refine s_gn rfl rfl ?_ | (refine s_gy rfl ?_; refine Q1f rfl (h' := p.length) ⟨_, rfl⟩ rfl (by omega) (by omega) ?_; rw [List.drop_zero])); (first | refine s_gn rfl rfl ?_ | (refine s_gy rfl ?_; refine zm ?_)); (first | refine s_gn rfl rfl ?_ | (refine s_gy rfl ?_; refine s_seql rfl rfl ?_)); (first | (refine zpt ?_) | (refine zpf ?_)); refine zm ?_; refine zn ?_; refine zr ?_; refine zf ?_; (first | exact ⟨_, rfl, rfl, hS.sp⟩ | exact ⟨_, rfl, (by rw [decide_eq_false]; intro h; have h9 := congrArg List.length h; rw [List.length_take] at h9; omega), hS.sp⟩))
theorem hp_c {s p : List UInt8} (hl : s.length ≤ 100000) (hS : St cx w L) : Rets Tryd.prog 32 [.string ⟨s.toArray⟩, .string ⟨p.toArray⟩] w fun u w' => u = .bool (decide (s.take p.length = p)) ∧ St cx w' L := by
  all_goals refine Q2m ?_
  all_goals (unfold strings_HasPrefix_lc; refine Q2 ?_; refine Q3 ?_; refine zm ?_; refine zn ?_; refine Q2 ?_; refine Q3 ?_; refine zm ?_; refine zm ?_; refine zR2 (c := ihp_c hl hS) (h := ?_); rintro v1 w1 ⟨rfl, hS⟩; refine zm ?_; refine zn ?_; refine zr ?_; refine zf ?_; exact ⟨_, rfl, rfl, hS.sp⟩)
end Go.Proofs.YtjecflbbcnocdaaDoor
namespace Go.Lir
section
variable {c : UInt8} {r l : List UInt8} {rem : Bool} {src : List UInt8} {i at0 : Nat}
theorem Q2L : skip rem [] = [] := by cases rem <;> rfl
theorem Q3O (h : c.toNat = 10) : skip rem (c :: r) = skip false r := by
  obtain rfl : c = 10 := UInt8.toNat_inj.1 h
  cases rem
  · rw [skip, if_pos (.inl rfl)]
  · rw [skip, if_pos rfl]
theorem Q4F (h : c.toNat ≠ 10) : skip true (c :: r) = skip true r := by
  rw [skip, if_neg (by rintro rfl; exact h rfl)]
theorem Q5t (h : c.toNat = 32 ∨ c.toNat = 9 ∨ c.toNat = 13) : skip false (c :: r) = skip false r := by
  rw [skip, if_pos (by rcases h with h | h | h; exact .inr (.inl (UInt8.toNat_inj.1 h)); exact .inr (.inr (.inl (UInt8.toNat_inj.1 h))); exact .inr (.inr (.inr (UInt8.toNat_inj.1 h))))]
theorem Q52 (h : c.toNat = 35) : skip false (c :: r) = skip true r := by
  obtain rfl : c = 35 := UInt8.toNat_inj.1 h
  rw [skip, if_neg (by decide), if_pos rfl]
theorem Q3N (h0 : c.toNat ≠ 10) (h1 : c.toNat ≠ 32) (h2 : c.toNat ≠ 9) (h3 : c.toNat ≠ 13) (h4 : c.toNat ≠ 35) : skip false (c :: r) = c :: r := by
  rw [skip, if_neg, if_neg (fun h : c = 35 => h4 (by rw [h]; rfl))]
  rintro (h | h | h | h) <;> subst h
  · exact h0 rfl
  · exact h1 rfl
  · exact h2 rfl
  · exact h3 rfl
theorem Q2J {p : UInt8 → Bool} : ∀ {l : List UInt8}, (∀ x ∈ l, p x = true) → l.takeWhile p = l
  | [], _ => rfl
  | x :: l, h => by rw [List.takeWhile_cons, if_pos (h x (List.mem_cons_self ..)), Q2J fun y hy => h y (List.mem_cons_of_mem _ hy)]
/-- So many that pass. -/
theorem Q4X {p : UInt8 → Bool} {k : Nat} (h : ∀ x ∈ (src.drop at0).take k, p x = true) (hk : at0 + k ≤ src.length) (hs : ∀ x, src[at0 + k]? = some x → p x = false) : (src.take (at0 + k)).drop at0 = (src.drop at0).takeWhile p ∧ k = ((src.drop at0).takeWhile p).length := by
  have e : (src.take (at0 + k)).drop at0 = (src.drop at0).take k := by rw [List.drop_take]; congr 1; omega
  have hlen : ((src.drop at0).take k).length = k := by rw [List.length_take, List.length_drop]; omega
  have e2 : (src.drop at0).takeWhile p = (src.drop at0).take k := by
    obtain ⟨A, hA⟩ : ∃ A, (src.drop at0).take k = A := ⟨_, rfl⟩
    have e3 : src.drop at0 = A ++ src.drop (at0 + k) := by rw [← hA, ← List.drop_drop, List.take_append_drop]
    rw [hA] at h ⊢
    rw [e3]
    rcases Nat.lt_or_ge (at0 + k) src.length with h2 | h2
    · obtain ⟨x, hx⟩ : ∃ x, src[at0 + k]? = some x := ⟨_, List.getElem?_eq_getElem h2⟩
      rw [Q6 hx, Q2r h (hs x hx)]
    · rw [List.drop_of_length_le h2, List.append_nil]
      exact Q2J h
  rw [e, e2, hlen]
  exact ⟨rfl, rfl⟩
theorem Q4i {p : UInt8 → Bool} {k : Nat} {x : UInt8} (h : ∀ x ∈ (src.drop at0).take k, p x = true) (hx : src[at0 + k]? = some x) (hp : p x = true) : ∀ x ∈ (src.drop at0).take (k + 1), p x = true :=
  all_snoc h (by rw [List.getElem?_drop]; exact hx) hp
end
end Go.Lir
namespace Go.Proofs.YtjecflbbcnocdaaDoor
open Go.Lir
set_option maxHeartbeats 1000000
attribute [local irreducible] LC.wp Q0 Qv QJ retQ Q2z LO.wp Qn Calls
set_option linter.unusedSimpArgs false
set_option linter.unusedVariables false
attribute [local irreducible] skip
variable {cx : Cx} {w : World} {L : List Res}
@[reducible] def scn (sb : Nat) (src : List UInt8) (i : Nat) : Res := blk sb 44 [.string ⟨src.toArray⟩, .int .i64 (i : Int)]
theorem Q7J {src : List UInt8} {sb at0 : Nat} (hl : src.length ≤ 100000) (ha : at0 ≤ src.length) (hS : St cx w (scn sb src at0 :: L)) : Rets Tryd.prog Q9 [.pointer (some ⟨sb, 0, none⟩)] w fun u w' => ∃ at1, u = .tuple #[] ∧ at0 ≤ at1 ∧ at1 ≤ src.length ∧ src.drop at1 = skip false (src.drop at0) ∧ St cx w' (scn sb src at1 :: L) := by
  all_goals refine Q1J ?_
  all_goals (unfold token_scanner_blank_lc; refine Q2 ?_; refine Q3 ?_; refine zm ?_; refine zn ?_; refine Ql ?_)
  refine zo [0] (fun A ρ' w' => ∃ (rem : Bool) (i : Nat) (qc : Value), Has ρ' A ∧ Has ρ' [(2, .bool rem), (3, qc)] ∧ (at0 ≤ i) ∧ (i ≤ src.length) ∧ (skip false (src.drop at0) = skip rem (src.drop i)) ∧ St cx w' (scn sb src i :: L)) (fun _ w' => (src.length - Q7G w' sb 1).toNat) ?_ ?_
  · exact ⟨false, at0, _, zh, zh, (by omega), (by omega), rfl, hS.sp⟩
  rintro ρ w1 ⟨rem, i, qc, hA, hρ, hi0, hi, hd, hS⟩; obtain ⟨ρ, rfl⟩ := env2 hA hρ; have hm0 := Q2j (j := 1) hS (i := 0) rfl rfl
  unfold QI
  all_goals (refine Q2 ?_; refine Q2 ?_; refine zD [(0, none), (1, none), (2, none), (3, none), (4, none), (5, none), (6, none), (7, none), (8, none), (9, some none)] ?_; have hS := hS.drew; refine zm ?_; refine Qm rfl ?_; refine Qd rfl ?_; refine zl hS ?_; refine zm ?_; refine Qm rfl ?_; refine Qd rfl ?_; refine zl hS ?_; refine Qq rfl ?_)
  all_goals (first | (refine Q4V ?_) | (refine Q4W ?_) | (refine Q2y rfl rfl (fun hc => ?_) (fun hc => ?_)))
  all_goals (refine zn ?_)
  all_goals
    first
    | (refine Qb rfl ?_ -- Q9 c0
       all_goals (refine zex ?_)
       all_goals (refine q_end0 ?_; exact ⟨_, rfl, i, rfl, hi0, hi, (by rw [hd, List.drop_of_length_le (by omega), Q2L]), hS.sp⟩))
    | (refine Qa rfl ?_ -- Q9 c0
       all_goals (refine zsk ?_)
       refine zM [0] (fun A ρ' w' => ∃ (rem2 : Bool), Has ρ' A ∧ Has ρ' [(2, .bool rem2)] ∧ (skip false (src.drop at0) = skip rem2 (src.drop (i + 1))) ∧ St cx w' (scn sb src i :: L)) ?_ ?_
       · skip
         all_goals (refine Ql ?_; refine Q2 ?_; obtain ⟨c, hc9⟩ : ∃ x, src[i]? = some x := ⟨_, List.getElem?_eq_getElem (by omega)⟩; rw [Q6 hc9] at hd; refine zD [(0, none), (1, none), (2, none), (3, none), (4, none), (5, none), (6, none), (7, none), (8, none), (9, some none)] ?_; have hS := hS.drew; refine zm ?_; refine Qm rfl ?_; refine Qd rfl ?_; refine zl hS ?_; refine zm ?_; refine Qm rfl ?_; refine Qd rfl ?_; refine zl hS ?_; refine Qj rfl rfl hc9 ?_; refine zm ?_; refine zn ?_; refine Ql ?_; refine Q2 ?_; refine Q3 ?_; refine zm ?_)
         all_goals (first | (refine Q2w ?_) | (refine Q2x ?_) | (refine QB rfl rfl (fun hc => ?_) (fun hc => ?_)))
         all_goals (refine zm ?_; refine zn ?_)
         all_goals
           first
           | (refine Qa rfl ?_ -- Q9 c1
              all_goals (refine Q3 ?_; refine zm ?_)
              all_goals refine zn ?_)
           | (refine Qb rfl ?_ -- Q9 c1
              all_goals (refine Q2 ?_)
              all_goals (cases rem)
              all_goals (refine Q3 ?_; refine zm ?_; refine zm ?_; (first | refine s_gn rfl rfl ?_ | (refine s_gy rfl ?_; refine zm ?_)))
              all_goals (first | refine s_gn rfl rfl ?_ | (refine s_gy rfl ?_; (first | (refine Q2w ?_) | (refine Q2x ?_) | (refine QB rfl rfl (fun hc => ?_) (fun hc => ?_)))))
              all_goals ((first | (refine zpt ?_) | (refine zpf ?_)); refine zm ?_; (first | refine s_gn rfl rfl ?_ | (refine s_gy rfl ?_; refine zm ?_)))
              all_goals (first | refine s_gn rfl rfl ?_ | (refine s_gy rfl ?_; (first | (refine Q2w ?_) | (refine Q2x ?_) | (refine QB rfl rfl (fun hc => ?_) (fun hc => ?_)))))
              all_goals ((first | (refine zpt ?_) | (refine zpf ?_)); refine zm ?_; (first | refine s_gn rfl rfl ?_ | (refine s_gy rfl ?_; refine zm ?_)))
              all_goals (first | refine s_gn rfl rfl ?_ | (refine s_gy rfl ?_; (first | (refine Q2w ?_) | (refine Q2x ?_) | (refine QB rfl rfl (fun hc => ?_) (fun hc => ?_)))))
              all_goals ((first | (refine zpt ?_) | (refine zpf ?_)); refine zm ?_; refine zn ?_)
              all_goals
                first
                | (refine Qa rfl ?_ -- Q9 c2
                   all_goals refine zsk ?_)
                | (refine Qb rfl ?_ -- Q9 c2
                   all_goals (refine Q2 ?_; refine Q3 ?_; refine zm ?_)
                   all_goals (first | (refine Q2w ?_) | (refine Q2x ?_) | (refine QB rfl rfl (fun hc => ?_) (fun hc => ?_)))
                   all_goals (refine zm ?_; refine zn ?_)
                   all_goals
                     first
                     | (refine Qa rfl ?_ -- Q9 c3
                        all_goals (refine Q3 ?_; refine zm ?_)
                        all_goals refine zn ?_)
                     | (refine Qb rfl ?_ -- Q9 c3
                        all_goals (refine zr ?_; refine q_ret0 ?_)
                        all_goals (exact ⟨_, rfl, i, rfl, hi0, hi, (by rw [hd, Q3N (by omega) (by omega) (by omega) (by omega) (by omega), ← Q6 hc9]), hS.sp⟩))))
         all_goals ((first | (exact ⟨false, zh, zh, hd.trans (Q3O (by omega)), hS.sp⟩) | (exact ⟨true, zh, zh, hd.trans (Q4F (by omega)), hS.sp⟩) | (exact ⟨false, zh, zh, hd.trans (Q5t (by omega)), hS.sp⟩) | (exact ⟨true, zh, zh, hd.trans (Q52 (by omega)), hS.sp⟩)))
       rintro ρ w1 ⟨rem2, hA, hρ, hd2, hS⟩; obtain ⟨ρ, rfl⟩ := env2 hA hρ
       all_goals (refine Q3 ?_; refine zm ?_; refine Qm rfl ?_; refine Qd rfl ?_; refine zl hS ?_; refine zad ?_; refine Qm rfl ?_; refine Qd rfl ?_; refine zst hS ?_; intro w1 hS; have hS := hS.ns; refine zn ?_)
       all_goals (exact ⟨⟨rem2, i + 1, _, zh, zh, (by omega), (by omega), hd2, hS.sp⟩, by rw [hm0, Q2j (j := 1) hS (i := 0) rfl rfl]; omega⟩))
theorem Q7d {src : List UInt8} {sb at0 g : Nat} {p : UInt8 → Bool} (hg : Q3X Tryd.prog g = true) (hp : ∀ (c : UInt8) {cx : Cx} {w : World} {L : List Res}, St cx w L → Rets Tryd.prog g [.int .u8 c.toNat] w fun u w' => u = .bool (p c) ∧ St cx w' L) (hl : src.length ≤ 100000) (ha : at0 ≤ src.length) (hS : St cx w (scn sb src at0 :: L)) :
    Rets Tryd.prog Qp [.pointer (some ⟨sb, 0, none⟩), .func (.func g) #[] #[]] w fun u w' => u = .string ⟨((src.drop at0).takeWhile p).toArray⟩ ∧ St cx w' (scn sb src (at0 + ((src.drop at0).takeWhile p).length) :: L) := by
  all_goals refine Q1p ?_
  all_goals (unfold token_scanner_while_lc; refine Q2 ?_; refine Q3 ?_; refine zm ?_; refine zn ?_; refine Q2 ?_; refine Q3 ?_; refine zm ?_; refine Qm rfl ?_; refine Qd rfl ?_; refine zl hS ?_; refine zm ?_; refine zn ?_; refine Q2 ?_; refine Ql ?_)
  refine zo [0, 1, 5] (fun A ρ' w' => ∃ (k : Nat), Has ρ' A ∧ Has ρ' [] ∧ (at0 + k ≤ src.length) ∧ (∀ x ∈ (src.drop at0).take k, p x = true) ∧ St cx w' (scn sb src (at0 + k) :: L)) (fun _ w' => (src.length - Q7G w' sb 1).toNat) ?_ ?_
  · exact ⟨0, zh, zh, (by omega), (fun x hx => by simp at hx), hS.sp⟩
  rintro ρ w1 ⟨k, hA, hρ, hk, hall, hS⟩; obtain ⟨ρ, rfl⟩ := env2 hA hρ; have hm0 := Q2j (j := 1) hS (i := 0) rfl rfl
  unfold QH
  all_goals (refine Q2 ?_; refine Q2 ?_; refine zD [(0, none), (1, none), (2, none), (3, none), (4, none), (5, none), (6, none), (7, none), (8, none), (9, none), (10, none), (11, none), (12, none), (13, none), (14, none), (15, none), (16, none), (17, none), (18, none), (19, none), (20, none), (21, some none), (22, some none)] ?_; have hS := hS.drew; refine zm ?_; refine Qm rfl ?_; refine Qd rfl ?_; refine zl hS ?_; refine zm ?_; refine Qm rfl ?_; refine Qd rfl ?_; refine zl hS ?_; refine Qq rfl ?_)
  all_goals (first | (refine Q4V ?_) | (refine Q4W ?_) | (refine Q2y rfl rfl (fun hc => ?_) (fun hc => ?_)))
  all_goals (refine zm ?_; (first | refine s_gn rfl rfl ?_ | (refine s_gy rfl ?_; refine zm ?_)); (first | refine s_gn rfl rfl ?_ | (refine s_gy rfl ?_; refine zm ?_)); (first | refine s_gn rfl rfl ?_ | (refine s_gy rfl ?_; refine Qm rfl ?_)); (first | refine s_gn rfl rfl ?_ | (refine s_gy rfl ?_; refine Qd rfl ?_)); (first | refine s_gn rfl rfl ?_ | (refine s_gy rfl ?_; refine zl hS ?_)); (first | refine s_gn rfl rfl ?_ | (refine s_gy rfl ?_; refine zm ?_)); (first | refine s_gn rfl rfl ?_ | (refine s_gy rfl ?_; refine Qm rfl ?_)); (first | refine s_gn rfl rfl ?_ | (refine s_gy rfl ?_; refine Qd rfl ?_)); (first | refine s_gn rfl rfl ?_ | (refine s_gy rfl ?_; refine zl hS ?_)); (first | refine s_gn rfl rfl ?_ | (refine s_gy rfl ?_; obtain ⟨c, hc9⟩ : ∃ x, src[at0 + k]? = some x := ⟨_, List.getElem?_eq_getElem (by omega)⟩; refine Qj rfl rfl hc9 ?_)))
  all_goals (first | refine s_gn rfl rfl ?_ | (refine s_gy rfl ?_; refine s_callf rfl hg rfl (hp c hS) ?_; rintro v1 w1 ⟨rfl, hS⟩; cases hq : p c))
  all_goals ((first | (refine zpt ?_) | (refine zpf ?_)); refine zn ?_)
  all_goals
    first
    | (refine Qa rfl ?_ -- Qp c0
       all_goals (refine zsk ?_; refine Ql ?_; refine Q3 ?_; refine zm ?_; refine Qm rfl ?_; refine Qd rfl ?_; refine zl hS ?_; refine zad ?_; refine Qm rfl ?_; refine Qd rfl ?_; refine zst hS ?_; intro w1 hS; have hS := hS.ns; refine zn ?_)
       all_goals (exact ⟨⟨k + 1, zh, zh, (by omega), Q4i hall hc9 hq, hS.sp⟩, by rw [hm0, Q2j (j := 1) hS (i := 0) rfl rfl]; omega⟩))
    | (refine Qb rfl ?_ -- Qp c0
       all_goals (refine zex ?_)
       all_goals (have hw := Q4X hall hk (by intro x hx; first | (rw [List.getElem?_eq_none (by omega)] at hx; cases hx) | (obtain rfl : c = x := Option.some.inj (hc9.symm.trans hx); exact hq)))
       all_goals (refine Q2 ?_; refine zD [(0, none), (1, none), (2, none), (3, none), (4, none), (5, none), (6, none), (7, none), (8, none), (9, none), (10, some none)] ?_; have hS := hS.drew; refine zm ?_; refine Qm rfl ?_; refine Qd rfl ?_; refine zl hS ?_; refine zm ?_; refine zm ?_; refine Qm rfl ?_; refine Qd rfl ?_; refine zl hS ?_; refine Q1f rfl (l' := at0) (h' := at0 + k) ⟨_, rfl⟩ ⟨_, rfl⟩ (by omega) (by omega) ?_; rw [hw.1]; refine zm ?_; refine zn ?_; refine zr ?_; refine zf ?_)
       all_goals (exact ⟨_, rfl, rfl, (by rw [← hw.2]; exact hS.sp)⟩))
theorem Q57 {src : List UInt8} {at0 : Nat} (hl : src.length ≤ 100000) (ha : at0 ≤ src.length) (hS : St cx w L) : Rets Tryd.prog QY [.string ⟨src.toArray⟩, .int .i64 at0] w fun u w' => ∃ at1 : Nat, u = .int .i64 at1 ∧ at0 ≤ at1 ∧ at1 ≤ src.length ∧ src.drop at1 = skip false (src.drop at0) ∧ St cx w' L := by
  all_goals refine Q63 ?_
  all_goals (unfold R_begins_lc; refine Q2 ?_; refine Q3 ?_; refine zm ?_; refine zn ?_; refine Q2 ?_; refine Ql ?_)
  refine zoL hS [0] (fun A LL ρ' w' => ∃ (i : Nat), Has ρ' A ∧ Has ρ' [(1, .int .i64 i)] ∧ (at0 ≤ i) ∧ (i ≤ src.length) ∧ (skip false (src.drop at0) = skip false (src.drop i)) ∧ St cx w' (LL)) (fun ρ' _ => (src.length - iv (ρ' 1)).toNat) ?_ ?_
  · exact ⟨at0, zh, zh, (by omega), (by omega), rfl, hS.sp⟩
  rintro ρ w1 ⟨i, hA, hρ, hi0, hi, hd, hS⟩; obtain ⟨ρ, rfl⟩ := env2 hA hρ
  unfold Q44
  all_goals (refine Q2 ?_; refine Q2 ?_; refine Q3 ?_; refine zm ?_; refine zm ?_; refine Qq rfl ?_; refine Q23 rfl rfl ?_; refine zn ?_)
  refine Q2N rfl (fun hc => ?_) (fun hc => ?_)
  · skip
    all_goals (refine zsk ?_; refine Ql ?_; refine Q2 ?_; obtain ⟨c, hc9⟩ : ∃ x, src[i]? = some x := ⟨_, List.getElem?_eq_getElem (by omega)⟩; refine Q3 ?_; refine zm ?_; refine zm ?_; refine Qj rfl rfl hc9 ?_)
    all_goals (first | (refine Q2w ?_) | (refine Q2x ?_) | (refine QB rfl rfl (fun hc => ?_) (fun hc => ?_)))
    all_goals (refine zm ?_; (first | refine s_gn rfl rfl ?_ | (refine s_gy rfl ?_; refine zm ?_)); (first | refine s_gn rfl rfl ?_ | (refine s_gy rfl ?_; refine zm ?_)); (first | refine Qj rfl rfl hc9 ?_ | refine s_gn rfl rfl ?_ | (refine s_gy rfl ?_; refine Qj rfl rfl hc9 ?_)))
    all_goals (first | refine s_gn rfl rfl ?_ | (refine s_gy rfl ?_; (first | (refine Q2w ?_) | (refine Q2x ?_) | (refine QB rfl rfl (fun hc => ?_) (fun hc => ?_)))))
    all_goals ((first | (refine zpt ?_) | (refine zpf ?_)); refine zm ?_; (first | refine s_gn rfl rfl ?_ | (refine s_gy rfl ?_; refine zm ?_)); (first | refine s_gn rfl rfl ?_ | (refine s_gy rfl ?_; refine zm ?_)); (first | refine Qj rfl rfl hc9 ?_ | refine s_gn rfl rfl ?_ | (refine s_gy rfl ?_; refine Qj rfl rfl hc9 ?_)))
    all_goals (first | refine s_gn rfl rfl ?_ | (refine s_gy rfl ?_; (first | (refine Q2w ?_) | (refine Q2x ?_) | (refine QB rfl rfl (fun hc => ?_) (fun hc => ?_)))))
    all_goals ((first | (refine zpt ?_) | (refine zpf ?_)); refine zm ?_; (first | refine s_gn rfl rfl ?_ | (refine s_gy rfl ?_; refine zm ?_)); (first | refine s_gn rfl rfl ?_ | (refine s_gy rfl ?_; refine zm ?_)); (first | refine Qj rfl rfl hc9 ?_ | refine s_gn rfl rfl ?_ | (refine s_gy rfl ?_; refine Qj rfl rfl hc9 ?_)))
    all_goals (first | refine s_gn rfl rfl ?_ | (refine s_gy rfl ?_; (first | (refine Q2w ?_) | (refine Q2x ?_) | (refine QB rfl rfl (fun hc => ?_) (fun hc => ?_)))))
    all_goals ((first | (refine zpt ?_) | (refine zpf ?_)); refine zn ?_)
    all_goals
      first
      | (refine Qa rfl ?_ -- QY c1
         all_goals (refine Q3 ?_; refine zm ?_; refine zad ?_; refine zm ?_; refine zn ?_)
         all_goals (exact ⟨⟨i + 1, zh, zh, (by omega), (by omega), hd.trans (by rw [Q6 hc9]; first | exact Q5t (by omega) | exact Q3O (by omega)), hS.sp⟩, (by exact Q2b (by omega))⟩))
      | (refine Qb rfl ?_ -- QY c1
         all_goals (refine Q2 ?_; refine Q3 ?_; refine zm ?_; refine zm ?_; refine Qj rfl rfl hc9 ?_)
         all_goals (first | (refine Q2w ?_) | (refine Q2x ?_) | (refine QB rfl rfl (fun hc => ?_) (fun hc => ?_)))
         all_goals (refine zn ?_)
         all_goals
           first
           | (refine Qb rfl ?_ -- QY c2
              all_goals (refine zex ?_; have hfin : src.drop i = skip false (src.drop at0) := (by rw [hd]; first | (rw [List.drop_of_length_le (by omega), Q2L]) | (rw [Q6 hc9, Q3N (c := c) (by omega) (by omega) (by omega) (by omega) (by omega)])); refine Q2 ?_; refine Q3 ?_; refine zm ?_; refine zm ?_; refine zn ?_; refine zr ?_; refine zf ?_)
              all_goals (exact ⟨_, rfl, i, rfl, hi0, hi, hfin, hS.sp⟩))
           | (refine Qa rfl ?_ -- QY c2
              all_goals (refine Ql ?_)
              refine zoL hS [0] (fun A LL ρ' w' => ∃ (i2 : Nat), Has ρ' A ∧ Has ρ' [(1, .int .i64 i2)] ∧ (i ≤ i2) ∧ (i2 ≤ src.length) ∧ (skip false (src.drop at0) = skip true (src.drop i2)) ∧ St cx w' (LL)) (fun ρ' _ => (src.length - iv (ρ' 1)).toNat) ?_ ?_
              · exact ⟨i, zh, zh, (by omega), (by omega), hd.trans (by rw [Q6 hc9, Q52 (c := c) (by omega), Q4F (c := c) (by omega)]), hS.sp⟩
              rintro ρ w1 ⟨i2, hA, hρ, h2, h3, hd3, hS⟩; obtain ⟨ρ, rfl⟩ := env2 hA hρ
              unfold Q43
              all_goals (refine Q2 ?_; refine Q2 ?_; refine Q3 ?_; refine zm ?_; refine zm ?_; refine Qq rfl ?_)
              all_goals (first | (refine Q4V ?_) | (refine Q4W ?_) | (refine Q2y rfl rfl (fun hc => ?_) (fun hc => ?_)))
              all_goals (refine zm ?_; (first | refine s_gn rfl rfl ?_ | (refine s_gy rfl ?_; refine zm ?_)); (first | refine s_gn rfl rfl ?_ | (refine s_gy rfl ?_; refine zm ?_)); (first | refine s_gn rfl rfl ?_ | (refine s_gy rfl ?_; obtain ⟨c2, hc2⟩ : ∃ x, src[i2]? = some x := ⟨_, List.getElem?_eq_getElem (by omega)⟩; refine Qj rfl rfl hc2 ?_)))
              all_goals (first | refine s_gn rfl rfl ?_ | (refine s_gy rfl ?_; (first | (refine Q6w ?_) | (refine Q6x ?_) | (refine s_neq_s rfl rfl (fun hc => ?_) (fun hc => ?_)))))
              all_goals ((first | (refine zpt ?_) | (refine zpf ?_)); refine zn ?_)
              all_goals
                first
                | (refine Qa rfl ?_ -- QY c3
                   all_goals (refine zsk ?_; refine Ql ?_; refine Q3 ?_; refine zm ?_; refine zad ?_; refine zm ?_; refine zn ?_)
                   all_goals (exact ⟨⟨i2 + 1, zh, zh, (by omega), (by omega), hd3.trans (by rw [Q6 hc2, Q4F (c := c2) (by omega)]), hS.sp⟩, Q2b (by omega)⟩))
                | (refine Qb rfl ?_ -- QY c3
                   all_goals (refine zex ?_)
                   all_goals (have hlt : i < i2 := (by rcases Nat.lt_or_ge i i2 with h | h; exact h; exfalso; (obtain rfl : i2 = i := by omega); first | omega | (obtain rfl : c2 = c := Option.some.inj (hc2.symm.trans hc9); omega)))
                   all_goals (first | (exact ⟨⟨i + 1, zh, zh, (by omega), (by omega), hd.trans (by rw [Q6 hc9]; first | exact Q5t (by omega) | exact Q3O (by omega)), hS.sp⟩, (by exact Q2b (by omega))⟩) | (exact ⟨⟨i2, zh, zh, (by omega), (by omega), hd3.trans (by first | (rw [List.drop_of_length_le (show src.length ≤ i2 by omega), Q2L, Q2L]) | (rw [Q6 hc2, Q3O (c := c2) (by omega), Q3O (c := c2) (by omega)])), hS.sp⟩, (by first | exact Q2b (by omega) | (show ((src.length : Int) - (i2 : Int)).toNat < ((src.length : Int) - (i : Int)).toNat; omega))⟩)))))
  · skip
    all_goals (refine zex ?_; have hfin : src.drop i = skip false (src.drop at0) := (by rw [hd]; first | (rw [List.drop_of_length_le (by omega), Q2L]) | (rw [Q6 hc9, Q3N (c := c) (by omega) (by omega) (by omega) (by omega) (by omega)])); refine Q2 ?_; refine Q3 ?_; refine zm ?_; refine zm ?_; refine zn ?_; refine zr ?_; refine zf ?_; exact ⟨_, rfl, i, rfl, hi0, hi, hfin, hS.sp⟩)
theorem rsign_c {c : UInt8} (hS : St cx w L) : Rets Tryd.prog Q3E [.int .u8 c.toNat] w fun u w' => u = .bool (Q3z c) ∧ St cx w' L := by
  all_goals refine Q5U ?_
  all_goals (unfold R_isSign_lc; refine Q2 ?_; refine Q3 ?_; refine zm ?_; refine zn ?_; refine Q2 ?_; refine Q3 ?_; refine zm ?_; refine zn ?_; refine Q2 ?_; refine Q2 ?_; refine Q3 ?_; refine zm ?_; refine zn ?_; refine Ql ?_)
  refine zoL hS [0, 3] (fun A LL ρ' w' => ∃ (j : Nat), Has ρ' A ∧ Has ρ' [(4, .int .i64 j)] ∧ (j ≤ 8) ∧ (∀ (k : Nat) (b : UInt8), k < j → ([40, 41, 123, 125, 60, 62, 44, 59] : List UInt8)[k]? = some b → b ≠ c) ∧ St cx w' (LL)) (fun ρ' _ => (8 - iv (ρ' 4)).toNat) ?_ ?_
  · exact ⟨0, zh, zh, (by omega), (fun k b h => by omega), hS.sp⟩
  rintro ρ w1 ⟨j, hA, hρ, hj, hn, hS⟩; obtain ⟨ρ, rfl⟩ := env2 hA hρ
  unfold Q42
  all_goals (refine Q2 ?_; refine Q2 ?_; refine Q3 ?_; refine zm ?_; refine zm ?_; refine Qq (a := [40, 41, 123, 125, 60, 62, 44, 59]) rfl ?_; rw [show (([40, 41, 123, 125, 60, 62, 44, 59] : List UInt8).length : Int) = 8 from rfl]; refine Q23 rfl rfl ?_; refine zn ?_)
  refine Q2N rfl (fun hc => ?_) (fun hc => ?_)
  · skip
    all_goals (refine zsk ?_; refine Q2 ?_; refine Ql ?_; refine Q2 ?_; obtain ⟨b, hb9⟩ : ∃ x, ([40, 41, 123, 125, 60, 62, 44, 59] : List UInt8)[j]? = some x := ⟨_, List.getElem?_eq_getElem (by simp only [List.length_cons, List.length_nil]; omega)⟩; refine Q3 ?_; refine zm ?_; refine zm ?_; refine Qj (a := [40, 41, 123, 125, 60, 62, 44, 59]) rfl rfl hb9 ?_; refine zm ?_)
    all_goals (first | (refine Q2w ?_) | (refine Q2x ?_) | (refine QB rfl rfl (fun hc => ?_) (fun hc => ?_)))
    all_goals (refine zn ?_)
    all_goals
      first
      | (refine Qa rfl ?_ -- Q3E c1
         all_goals (refine Q2 ?_; refine Q3 ?_; refine zm ?_; refine zn ?_; refine zr ?_; refine zf ?_)
         all_goals (exact ⟨_, rfl, (by unfold Q3z; rw [decide_eq_true]; rw [show c = b from UInt8.toNat_inj.1 (by omega)]; exact List.mem_of_getElem? hb9), hS.sp⟩))
      | (refine Qb rfl ?_ -- Q3E c1
         all_goals refine zsk ?_)
    all_goals (refine Q3 ?_; refine zm ?_; refine zad ?_; refine zm ?_; refine zn ?_)
    all_goals (exact ⟨⟨j + 1, zh, zh, (by omega), (fun k b2 hk hb2 => by rcases Nat.lt_or_ge k j with h | h; exact hn k b2 h hb2; (obtain rfl : k = j := by omega); obtain rfl : b = b2 := Option.some.inj (hb9.symm.trans hb2); rintro rfl; omega), hS.sp⟩, Q2b (by omega)⟩)
  · skip
    all_goals (refine zex ?_; refine Q2 ?_; refine Q3 ?_; refine zm ?_; refine zn ?_; refine zr ?_; refine zf ?_; (first | exact ⟨_, rfl, (by unfold Q3z; rw [decide_eq_true]; rw [show c = b from UInt8.toNat_inj.1 (by omega)]; exact List.mem_of_getElem? hb9), hS.sp⟩ | exact ⟨_, rfl, (by unfold Q3z; rw [decide_eq_false]; intro hm; obtain ⟨k, hk⟩ := List.mem_iff_getElem?.1 hm; have hk8 := (List.getElem?_eq_some_iff.1 hk).1; simp only [List.length_cons, List.length_nil] at hk8; exact hn k c (by omega) hk rfl), hS.sp⟩))
end Go.Proofs.YtjecflbbcnocdaaDoor
namespace Go.Proofs.YtjecflbbcnocdaaDoor
open Go.Lir
set_option maxHeartbeats 1000000
attribute [local irreducible] LC.wp Q0 Qv QJ retQ Q2z LO.wp Qn Calls
set_option linter.unusedSimpArgs false
set_option linter.unusedVariables false
attribute [local irreducible] skip Lib.itoa Lib.parseIntB tok1
variable {cx : Cx} {w : World} {L : List Res}
abbrev tokV (a : Int) (t : List UInt8) (m : Option Int) : Value := .agg ⟨[.int .i64 a, .string ⟨t.toArray⟩, .bool m.isSome, .int .i64 (m.getD 0)]⟩
theorem Q4M {t : List UInt8} (h : ∀ n, Lib.parseIntB 64 t ≠ .ok n) : Q3U t = none := by
  unfold Q3U
  split
  · rename_i n hn; exact absurd hn (h n)
  · rfl
theorem Q4l {t : List UInt8} {n : Int} (h : Lib.parseIntB 64 t = .ok n) : Q3U t = if Lib.itoa n = t then some n else none := by
  unfold Q3U; rw [h]
theorem Q6n {src pre : List UInt8} {sb at0 : Nat} {a : Int} (hT : NumK cx) (hl : src.length ≤ 50000) (hpre : pre.length ≤ 1) (ha : at0 ≤ src.length) (hS : St cx w (scn sb src at0 :: L)) :
    Rets Tryd.prog Qo [.pointer (some ⟨sb, 0, none⟩), .int .i64 a, .string ⟨pre.toArray⟩] w fun u w' => ((∃ n, Q3U (pre ++ (src.drop at0).takeWhile Qi) = some n ∧ u = .tuple #[tokV a (pre ++ (src.drop at0).takeWhile Qi) (some n), .int .i64 0]) ∨ (Q3U (pre ++ (src.drop at0).takeWhile Qi) = none ∧ u = .tuple #[tokV 0 [] none, .int .i64 8])) ∧ St cx w' (scn sb src (at0 + ((src.drop at0).takeWhile Qi).length) :: L) := by
  have hw : ((src.drop at0).takeWhile Qi).length ≤ 50000 := by
    have h1 := (List.takeWhile_prefix (l := src.drop at0) Qi).length_le
    rw [List.length_drop] at h1; omega
  obtain ⟨t, ht⟩ : ∃ t, pre ++ (src.drop at0).takeWhile Qi = t := ⟨_, rfl⟩
  have htl : t.length ≤ 50001 := by rw [← ht, List.length_append]; omega
  rw [ht]
  all_goals refine Q1c ?_
  all_goals (unfold token_scanner_number_lc; refine Q2 ?_; refine Q3 ?_; refine QP hS ?_; intro p6 w1 hS; refine zm ?_; refine zn ?_; refine Q2 ?_; refine Q3 ?_; refine zm ?_; refine zm ?_; have hS : St cx _ (scn sb src at0 :: _) := hS.mv1; refine zR2 (c := Q7d (g := 30) (p := Qi) (by kernel_rfl) (fun c {_ _ _} h => Q5J h) (by omega) ha hS) (h := ?_); rintro v1 w1 ⟨rfl, hS⟩; refine s_sadd rfl rfl (by omega) ?_; rw [ht]; refine zm ?_; refine zn ?_; refine Q2 ?_; refine Q3 ?_; refine zm ?_)
  all_goals (refine zR3 (c := Q7w (by omega) hT hS) (h := ?_); rintro v1 w1 (⟨n, hn, rfl, hS⟩ | ⟨hno, n, T, p, rfl, hp, hS⟩))
  all_goals (refine zm ?_; refine Q1M rfl rfl ?_; refine Q1M rfl rfl ?_; refine zm ?_; refine zm ?_; refine zn ?_; refine Q2 ?_; refine Q2 ?_; refine Q3 ?_; refine zm ?_; (first | refine Q6i Tryd.underlying77 rfl ?_ | refine Q6j Tryd.underlying77 rfl ?_); refine zm ?_; (first | refine s_gn rfl rfl ?_ | (refine s_gy rfl ?_; refine zm ?_)); (first | refine s_gn rfl rfl ?_ | (refine s_gy rfl ?_; have hb9 := Lib.parseIntB_bounds hn; refine zR2 (c := fmt_c (by omega) (by omega) hT hS) (h := ?_); rintro v1 w1 ⟨rfl, hS⟩)); (first | refine s_gn rfl rfl ?_ | (refine s_gy rfl ?_; refine zm ?_)))
  all_goals (first | refine s_gn rfl rfl ?_ | (refine s_gy rfl ?_; refine Q5u rfl rfl ?_; cases hq : decide (Lib.itoa n ≠ t)))
  all_goals ((first | (refine zpt ?_) | (refine zpf ?_)); refine zn ?_)
  all_goals
    first
    | (refine Qa rfl ?_ -- Qo c0
       all_goals (refine Q2 ?_; refine Q3 ?_; refine zb0 [_, _, _, _] ?_; refine zsn hS ?_; intro w1 hS; have hS := hS.ns; refine zm ?_; refine zn ?_; refine zr ?_; refine Q26 vw (Qh (n := 4) (by kernel_rfl) (by kernel_rfl) (hS.blkAt fd) (by rfl) (by rfl)) vw ?_)
       all_goals ((first | exact ⟨_, rfl, .inr ⟨Q4M hno, rfl⟩, hS.sp⟩ | exact ⟨_, rfl, .inr ⟨by rw [Q4l hn, if_neg (of_decide_eq_true hq)], rfl⟩, hS.sp⟩)))
    | (refine Qb rfl ?_ -- Qo c0
       all_goals refine zsk ?_)
  all_goals (refine Q2 ?_; refine Q3 ?_; refine zm ?_; refine zm ?_; refine zm ?_; refine zb4 [_, _, _, _] ?_; refine zsn hS ?_; intro w1 hS; have hS := hS.ns; refine zm ?_; refine zn ?_; refine zr ?_; refine Q26 vw (Qh (n := 4) (by kernel_rfl) (by kernel_rfl) (hS.blkAt fd) (by rfl) (by rfl)) vw ?_; (first | exact ⟨_, rfl, .inr ⟨Q4M hno, rfl⟩, hS.sp⟩ | exact ⟨_, rfl, .inr ⟨by rw [Q4l hn, if_neg (of_decide_eq_true hq)], rfl⟩, hS.sp⟩ | exact ⟨_, rfl, .inl ⟨n, by rw [Q4l hn, if_pos (Classical.not_not.1 (of_decide_eq_false hq))], rfl⟩, hS.sp⟩))
theorem longof_c {t : List UInt8} (hT : NumK cx) (htl : t.length ≤ 60000) (hS : St cx w L) : Rets Tryd.prog Q3F [.string ⟨t.toArray⟩] w fun u w' => ((∃ n, Q3U t = some n ∧ u = .tuple #[.int .i64 n, .bool true]) ∨ (Q3U t = none ∧ u = .tuple #[.int .i64 0, .bool false])) ∧ St cx w' L := by
  all_goals refine Q69 ?_
  all_goals (unfold R_LongOf_lc; refine Q2 ?_; refine Q3 ?_; refine zm ?_; refine zm ?_; refine zn ?_; refine Q2 ?_; refine Q3 ?_; refine zm ?_)
  all_goals (refine zR3 (c := Q7w (by omega) hT hS) (h := ?_); rintro v1 w1 (⟨n, hn, rfl, hS⟩ | ⟨hno, n, T, p, rfl, hp, hS⟩))
  all_goals (refine zm ?_; refine Q1M rfl rfl ?_; refine Q1M rfl rfl ?_; refine zm ?_; refine zm ?_; refine zn ?_; refine Q2 ?_; refine Q2 ?_; refine Q3 ?_; refine zm ?_; (first | refine Q6i Tryd.underlying77 rfl ?_ | refine Q6j Tryd.underlying77 rfl ?_); refine zm ?_; (first | refine s_gn rfl rfl ?_ | (refine s_gy rfl ?_; refine zm ?_)); (first | refine s_gn rfl rfl ?_ | (refine s_gy rfl ?_; have hb9 := Lib.parseIntB_bounds hn; refine zR2 (c := fmt_c (by omega) (by omega) hT hS) (h := ?_); rintro v1 w1 ⟨rfl, hS⟩)); (first | refine s_gn rfl rfl ?_ | (refine s_gy rfl ?_; refine zm ?_)))
  all_goals (first | refine s_gn rfl rfl ?_ | (refine s_gy rfl ?_; refine Q5u rfl rfl ?_; cases hq : decide (Lib.itoa n ≠ t)))
  all_goals ((first | (refine zpt ?_) | (refine zpf ?_)); refine zn ?_)
  all_goals
    first
    | (refine Qa rfl ?_ -- Q3F c0
       all_goals (refine Q2 ?_; refine Q3 ?_; refine zm ?_; refine zm ?_; refine zn ?_; refine zr ?_; refine zf2 ?_)
       all_goals ((first | exact ⟨_, rfl, .inr ⟨Q4M hno, rfl⟩, hS.sp⟩ | exact ⟨_, rfl, .inr ⟨by rw [Q4l hn, if_neg (of_decide_eq_true hq)], rfl⟩, hS.sp⟩)))
    | (refine Qb rfl ?_ -- Q3F c0
       all_goals refine zsk ?_)
  all_goals (refine Q2 ?_; refine Q3 ?_; refine zm ?_; refine zm ?_; refine zm ?_; refine zn ?_; refine zr ?_; refine zf2 ?_; (first | exact ⟨_, rfl, .inr ⟨Q4M hno, rfl⟩, hS.sp⟩ | exact ⟨_, rfl, .inr ⟨by rw [Q4l hn, if_neg (of_decide_eq_true hq)], rfl⟩, hS.sp⟩ | exact ⟨_, rfl, .inl ⟨n, by rw [Q4l hn, if_pos (Classical.not_not.1 (of_decide_eq_false hq))], rfl⟩, hS.sp⟩))
abbrev signs : List UInt8 := [40, 41, 123, 125, 60, 62, 44, 59, 45]
theorem Q7i (c : UInt8) (h : c.toNat ≠ 45) : (0 ≤ Lib.indexByte signs c ↔ Q3z c = true) := by
  have hall : ∀ p : Fin 256, p.val ≠ 45 → (decide (0 ≤ Lib.indexByte signs (UInt8.ofNat p.val)) = Q3z (UInt8.ofNat p.val)) := by decide +kernel
  have h1 := hall ⟨c.toNat, c.toNat_lt⟩ h
  simp only [UInt8.ofNat_toNat] at h1
  rw [← h1, decide_eq_true_iff]
theorem Q1i {t : List UInt8} {n : Int} (h : Q3U t = some n) : numT t = .ok (t, some n) := by unfold numT; rw [h]
theorem Q12 {t : List UInt8} (h : Q3U t = none) : numT t = .error 8 := by unfold numT; rw [h]
theorem Q7 {b : Bool} (h : b = false) : ¬ b = true := by rw [h]; exact Bool.false_ne_true
theorem Q6v {l : List UInt8} (h : l.take 2 = [45, 62]) : l = 45 :: 62 :: l.drop 2 := by
  conv => lhs; rw [← List.take_append_drop 2 l, h]
  rfl
theorem eq45 {c : UInt8} (h : c.toNat = 45) : c = 45 := UInt8.toNat_inj.1 h
theorem ne45 {c : UInt8} (h : c.toNat ≠ 45) : ¬ c = 45 := fun e => h (by rw [e]; rfl)
theorem Q5K {d : UInt8} (h : Qi d = true) : ¬ d = 62 := by rintro rfl; exact absurd h (by decide)
theorem min62 {l r : List UInt8} {d : UInt8} (h : decide (l.take ([45, 62] : List UInt8).length = [45, 62]) = false) (hl : l = 45 :: d :: r) : ¬ d = 62 := by
  rintro rfl
  exact absurd (by rw [hl]; rfl) (of_decide_eq_false h)
theorem Q7L {sb at0 : Nat} {src l : List UInt8} (h : St cx w (scn sb src (at0 + 1 + l.length) :: L)) : St cx w (scn sb src (at0 + (45 :: l).length) :: L) := by
  rw [List.length_cons, show at0 + (l.length + 1) = at0 + 1 + l.length by omega]; exact h
/-- What the reading of the next one gives back. -/
def NextS (cx : Cx) (L : List Res) (sb : Nat) (src : List UInt8) (at0 : Nat) (u : Value) (w' : World) : Prop :=
  (∃ t m, tok1 (src.drop at0) = .ok (t, m) ∧ u = .tuple #[tokV at0 t m, .int .i64 0] ∧ St cx w' (scn sb src (at0 + t.length) :: L)) ∨ (∃ e at1, tok1 (src.drop at0) = .error e ∧ e ≠ 0 ∧ u = .tuple #[tokV 0 [] none, .int .i64 e] ∧ St cx w' (scn sb src at1 :: L))
theorem next_c {src : List UInt8} {sb at0 : Nat} (hT : NumK cx) (hl : src.length ≤ 50000) (ha : at0 < src.length) (hS : St cx w (scn sb src at0 :: L)) :
    Rets Tryd.prog Q5 [.pointer (some ⟨sb, 0, none⟩)] w fun u w' => NextS cx L sb src at0 u w' := by
  obtain ⟨c, hc9⟩ : ∃ x, src[at0]? = some x := ⟨_, List.getElem?_eq_getElem ha⟩
  have hdc := Q6 hc9
  all_goals refine Q1X ?_
  all_goals (unfold token_scanner_next_lc; refine Q2 ?_; refine Q3 ?_; refine QP hS ?_; intro p2 w1 hS; refine zm ?_; refine zn ?_; refine Q2 ?_; refine Q3 ?_; refine zm ?_; refine Qm rfl ?_; refine Qd rfl ?_; refine zl hS ?_; refine zm ?_; refine zn ?_; refine Q2 ?_; refine Q2 ?_; refine Q3 ?_; refine zm ?_; refine Qm rfl ?_; refine Qd rfl ?_; refine zl hS ?_; refine zm ?_; refine Qj rfl rfl hc9 ?_; refine zm ?_; refine zn ?_; refine Ql ?_; refine Q2 ?_; refine Q3 ?_; refine zm ?_)
  all_goals (refine zR1 (c := Q6p hS) (h := ?_); rintro v1 w1 ⟨rfl, hS⟩; cases hq0 : QO c)
  all_goals (refine zm ?_; refine zn ?_)
  all_goals
    first
    | (refine Qa rfl ?_ -- Q5 c0
       all_goals (refine Q2 ?_; refine Q3 ?_; refine zm ?_; refine zm ?_; have hS : St cx _ (scn sb src at0 :: _) := hS.mv1; refine zR2 (c := Q7d (g := 28) (p := QO) (by kernel_rfl) (fun c {_ _ _} h => Q6p h) (by omega) (by omega) hS) (h := ?_); rintro v1 w1 ⟨rfl, hS⟩; refine zb2 [_, _, _, _] ?_; refine zsn hS ?_; intro w1 hS; have hS := hS.ns; refine zm ?_; refine zn ?_; refine zr ?_; refine Q26 vw (Qh (n := 4) (by kernel_rfl) (by kernel_rfl) (hS.blkAt fd) (by rfl) (by rfl)) vw ?_)
       all_goals (exact ⟨_, rfl, .inl ⟨(src.drop at0).takeWhile QO, none, by rw [hdc, QK hq0], rfl, hS.sp⟩⟩))
    | (refine Qb rfl ?_ -- Q5 c0
       all_goals (refine Q2 ?_; refine Q3 ?_; refine zm ?_)
       all_goals (refine zR1 (c := Q5J hS) (h := ?_); rintro v1 w1 ⟨rfl, hS⟩; cases hq1 : Qi c)
       all_goals (refine zm ?_; refine zn ?_)
       all_goals
         first
         | (refine Qb rfl ?_ -- Q5 c1
            all_goals (refine Q2 ?_; refine Q3 ?_; refine zm ?_; refine Qm rfl ?_; refine Qd rfl ?_; refine zl hS ?_; refine zm ?_; refine Q1f rfl (l' := at0) (h' := src.length) rfl ⟨_, rfl⟩ (by omega) (by omega) ?_; rw [List.take_length])
            all_goals (refine zR2 (c := hp_c (p := [45, 62]) (by rw [List.length_drop]; omega) hS) (h := ?_); rintro v1 w1 ⟨rfl, hS⟩; cases hq2 : decide ((src.drop at0).take ([45, 62] : List UInt8).length = [45, 62]))
            all_goals (refine zm ?_; refine zn ?_)
            all_goals
              first
              | (refine Qb rfl ?_ -- Q5 c2
                 all_goals (refine Q2 ?_; refine Q3 ?_; refine zm ?_)
                 all_goals (first | (refine Q2w ?_) | (refine Q2x ?_) | (refine QB rfl rfl (fun hc => ?_) (fun hc => ?_)))
                 all_goals (refine zm ?_; (first | refine s_gn rfl rfl ?_ | (refine s_gy rfl ?_; refine zm ?_)); (first | refine s_gn rfl rfl ?_ | (refine s_gy rfl ?_; refine zad ?_)); (first | refine s_gn rfl rfl ?_ | (refine s_gy rfl ?_; refine zm ?_)); (first | refine s_gn rfl rfl ?_ | (refine s_gy rfl ?_; refine Qm rfl ?_)); (first | refine s_gn rfl rfl ?_ | (refine s_gy rfl ?_; refine Qd rfl ?_)); (first | refine s_gn rfl rfl ?_ | (refine s_gy rfl ?_; refine zl hS ?_)); (first | refine s_gn rfl rfl ?_ | (refine s_gy rfl ?_; refine Qq rfl ?_)))
                 all_goals (first | refine s_gn rfl rfl ?_ | (refine s_gy rfl ?_; (first | (refine Q4V ?_) | (refine Q4W ?_) | (refine Q2y rfl rfl (fun hc => ?_) (fun hc => ?_)))))
                 all_goals ((first | (refine zpt ?_) | (refine zpf ?_)); refine zm ?_; (first | refine s_gn rfl rfl ?_ | (refine s_gy rfl ?_; refine zm ?_)); (first | refine s_gn rfl rfl ?_ | (refine s_gy rfl ?_; refine Qm rfl ?_)); (first | refine s_gn rfl rfl ?_ | (refine s_gy rfl ?_; refine Qd rfl ?_)); (first | refine s_gn rfl rfl ?_ | (refine s_gy rfl ?_; refine zl hS ?_)); (first | refine s_gn rfl rfl ?_ | (refine s_gy rfl ?_; refine zm ?_)); (first | refine s_gn rfl rfl ?_ | (refine s_gy rfl ?_; refine zad ?_)); (first | refine s_gn rfl rfl ?_ | (refine s_gy rfl ?_; obtain ⟨d, hd9⟩ : ∃ x, src[at0 + 1]? = some x := ⟨_, List.getElem?_eq_getElem (by omega)⟩; refine Qj (m := at0 + 1) rfl rfl hd9 ?_)))
                 all_goals (first | refine s_gn rfl rfl ?_ | (refine s_gy rfl ?_; refine zR1 (c := Q5J hS) (h := ?_); rintro v1 w1 ⟨rfl, hS⟩; cases hq3 : Qi d))
                 all_goals ((first | (refine zpt ?_) | (refine zpf ?_)); refine zm ?_; refine zn ?_)
                 all_goals
                   first
                   | (refine Qb rfl ?_ -- Q5 c3
                      all_goals (refine Q2 ?_; refine Q3 ?_; refine zm ?_)
                      all_goals (first | (refine Q6w ?_) | (refine Q6x ?_))
                      all_goals (refine zm ?_; (first | refine s_gn rfl rfl ?_ | (refine s_gy rfl ?_; refine zm ?_)); (first | refine s_gn rfl rfl ?_ | (refine s_gy rfl ?_; refine zR2 (c := iby_c (s := signs) hS) (h := ?_); rintro v1 w1 ⟨rfl, hS⟩; have hsi := Q7i c (by omega))))
                      all_goals (first | refine s_gn rfl rfl ?_ | (refine s_gy rfl ?_; (first | (refine Q6y ?_) | (refine Q6z ?_) | (refine Q39 rfl rfl (fun hc => ?_) (fun hc => ?_)))))
                      all_goals ((first | (refine zpt ?_) | (refine zpf ?_)); refine zm ?_; refine zn ?_)
                      all_goals
                        first
                        | (refine Qb rfl ?_ -- Q5 c4
                           all_goals refine zsk ?_)
                        | (refine Qa rfl ?_ -- Q5 c4
                           all_goals (refine Q2 ?_; refine Q3 ?_; refine zm ?_; refine Qm rfl ?_; refine Qd rfl ?_; refine zl hS ?_; refine zad ?_; refine Qm rfl ?_; refine Qd rfl ?_; refine zst hS ?_; intro w1 hS; have hS := hS.ns; refine zn ?_; refine Q2 ?_; refine Q3 ?_; refine zm ?_; refine zm ?_; refine Qm rfl ?_; refine Qd rfl ?_; refine zl hS ?_; refine zm ?_; refine zm ?_; refine zad ?_; refine Q1f rfl (l' := at0) (h' := at0 + 1) ⟨_, rfl⟩ ⟨_, rfl⟩ (by omega) (by omega) ?_; rw [show (src.take (at0 + 1)).drop at0 = [c] by rw [Q7h hc9, List.drop_left' (by rw [List.length_take]; omega)]]; refine zb2 [_, _, _, _] ?_; refine zsn hS ?_; intro w1 hS; have hS := hS.ns; refine zm ?_; refine zn ?_; refine zr ?_; refine Q26 vw (Qh (n := 4) (by kernel_rfl) (by kernel_rfl) (hS.blkAt fd) (by rfl) (by rfl)) vw ?_)
                           all_goals ((first | exact ⟨_, rfl, .inl ⟨(src.drop at0).takeWhile QO, none, by rw [hdc, QK hq0], rfl, hS.sp⟩⟩ | exact ⟨_, rfl, .inl ⟨(src.drop at0).takeWhile Qi, some n, by rw [hdc, QA (Q7 hq0) hq1, ← hdc, Q1i hn], rfl, hS.sp⟩⟩ | exact ⟨_, rfl, .inr ⟨8, _, by rw [hdc, QA (Q7 hq0) hq1, ← hdc, Q12 hn], by decide, rfl, hS.sp⟩⟩ | exact ⟨_, rfl, .inl ⟨[45, 62], none, by rw [Q6v (of_decide_eq_true hq2), Q2f], rfl, hS.sp⟩⟩ | exact ⟨_, rfl, .inl ⟨45 :: (src.drop (at0 + 1)).takeWhile Qi, some n, by rw [hdc, eq45 (c := c) (by omega), Q6 hd9, Q1e (Q5K hq3) hq3, ← Q6 hd9, Q1i (t := 45 :: _) hn], rfl, Q7L hS.sp⟩⟩ | exact ⟨_, rfl, .inr ⟨8, _, by rw [hdc, eq45 (c := c) (by omega), Q6 hd9, Q1e (Q5K hq3) hq3, ← Q6 hd9, Q12 (t := 45 :: _) hn], by decide, rfl, hS.sp⟩⟩ | exact ⟨_, rfl, .inl ⟨[c], none, by rw [hdc, Q2I (Q7 hq0) (Q7 hq1) (ne45 (by omega)) (hsi.1 (by omega))], rfl, hS.sp⟩⟩))))
                   | (refine Qa rfl ?_ -- Q5 c3
                      all_goals (refine Q2 ?_; refine Q3 ?_; refine zm ?_; refine Qm rfl ?_; refine Qd rfl ?_; refine zl hS ?_; refine zad ?_; refine Qm rfl ?_; refine Qd rfl ?_; refine zst hS ?_; intro w1 hS; have hS := hS.ns; refine zn ?_; refine Q2 ?_; refine Q3 ?_; refine zm ?_; refine zm ?_)
                      all_goals (have hS : St cx _ (scn sb src (at0 + 1) :: blk p2 32 [.int .i64 0, .string ⟨#[]⟩, .bool false, .int .i64 0] :: L) := hS.sp; refine zR3 (c := Q6n (pre := [45]) hT hl (by simp) (by omega) hS) (h := ?_); rintro v1 w1 ⟨⟨n, hn, rfl⟩ | ⟨hn, rfl⟩, hS⟩ <;> rw [List.singleton_append] at hn)
                      all_goals (refine Q1M rfl rfl ?_; refine Q1M rfl rfl ?_; refine zsn hS ?_; intro w1 hS; have hS := hS.ns; refine zm ?_; refine zn ?_; refine zr ?_; refine Q26 vw (Qh (n := 4) (by kernel_rfl) (by kernel_rfl) (hS.blkAt fd) (by rfl) (by rfl)) vw ?_)
                      all_goals ((first | exact ⟨_, rfl, .inl ⟨(src.drop at0).takeWhile QO, none, by rw [hdc, QK hq0], rfl, hS.sp⟩⟩ | exact ⟨_, rfl, .inl ⟨(src.drop at0).takeWhile Qi, some n, by rw [hdc, QA (Q7 hq0) hq1, ← hdc, Q1i hn], rfl, hS.sp⟩⟩ | exact ⟨_, rfl, .inr ⟨8, _, by rw [hdc, QA (Q7 hq0) hq1, ← hdc, Q12 hn], by decide, rfl, hS.sp⟩⟩ | exact ⟨_, rfl, .inl ⟨[45, 62], none, by rw [Q6v (of_decide_eq_true hq2), Q2f], rfl, hS.sp⟩⟩ | exact ⟨_, rfl, .inl ⟨45 :: (src.drop (at0 + 1)).takeWhile Qi, some n, by rw [hdc, eq45 (c := c) (by omega), Q6 hd9, Q1e (Q5K hq3) hq3, ← Q6 hd9, Q1i (t := 45 :: _) hn], rfl, Q7L hS.sp⟩⟩ | exact ⟨_, rfl, .inr ⟨8, _, by rw [hdc, eq45 (c := c) (by omega), Q6 hd9, Q1e (Q5K hq3) hq3, ← Q6 hd9, Q12 (t := 45 :: _) hn], by decide, rfl, hS.sp⟩⟩))))
              | (refine Qa rfl ?_ -- Q5 c2
                 all_goals (refine Q2 ?_; refine Q3 ?_; refine zm ?_; refine Qm rfl ?_; refine Qd rfl ?_; refine zl hS ?_; refine zad ?_; refine Qm rfl ?_; refine Qd rfl ?_; refine zst hS ?_; intro w1 hS; have hS := hS.ns; refine zn ?_; refine Q2 ?_; refine Q3 ?_; refine zm ?_; refine zb2 [_, _, _, _] ?_; refine zsn hS ?_; intro w1 hS; have hS := hS.ns; refine zm ?_; refine zn ?_; refine zr ?_; refine Q26 vw (Qh (n := 4) (by kernel_rfl) (by kernel_rfl) (hS.blkAt fd) (by rfl) (by rfl)) vw ?_)
                 all_goals ((first | exact ⟨_, rfl, .inl ⟨(src.drop at0).takeWhile QO, none, by rw [hdc, QK hq0], rfl, hS.sp⟩⟩ | exact ⟨_, rfl, .inl ⟨(src.drop at0).takeWhile Qi, some n, by rw [hdc, QA (Q7 hq0) hq1, ← hdc, Q1i hn], rfl, hS.sp⟩⟩ | exact ⟨_, rfl, .inr ⟨8, _, by rw [hdc, QA (Q7 hq0) hq1, ← hdc, Q12 hn], by decide, rfl, hS.sp⟩⟩ | exact ⟨_, rfl, .inl ⟨[45, 62], none, by rw [Q6v (of_decide_eq_true hq2), Q2f], rfl, hS.sp⟩⟩))))
         | (refine Qa rfl ?_ -- Q5 c1
            all_goals (refine Q2 ?_; refine Q3 ?_; refine zm ?_; refine zm ?_)
            all_goals (have hS : St cx _ (scn sb src at0 :: _) := hS.mv1; refine zR3 (c := Q6n (pre := []) hT hl (by simp) (by omega) hS) (h := ?_); rintro v1 w1 ⟨⟨n, hn, rfl⟩ | ⟨hn, rfl⟩, hS⟩ <;> rw [List.nil_append] at hn)
            all_goals (refine Q1M rfl rfl ?_; refine Q1M rfl rfl ?_; refine zsn hS ?_; intro w1 hS; have hS := hS.ns; refine zm ?_; refine zn ?_; refine zr ?_; refine Q26 vw (Qh (n := 4) (by kernel_rfl) (by kernel_rfl) (hS.blkAt fd) (by rfl) (by rfl)) vw ?_)
            all_goals ((first | exact ⟨_, rfl, .inl ⟨(src.drop at0).takeWhile QO, none, by rw [hdc, QK hq0], rfl, hS.sp⟩⟩ | exact ⟨_, rfl, .inl ⟨(src.drop at0).takeWhile Qi, some n, by rw [hdc, QA (Q7 hq0) hq1, ← hdc, Q1i hn], rfl, hS.sp⟩⟩ | exact ⟨_, rfl, .inr ⟨8, _, by rw [hdc, QA (Q7 hq0) hq1, ← hdc, Q12 hn], by decide, rfl, hS.sp⟩⟩))))
  all_goals (refine Q2 ?_; refine Q3 ?_; refine zb0 [_, _, _, _] ?_; refine zsn hS ?_; intro w1 hS; have hS := hS.ns; refine zm ?_; refine zn ?_; refine zr ?_; refine Q26 vw (Qh (n := 4) (by kernel_rfl) (by kernel_rfl) (hS.blkAt fd) (by rfl) (by rfl)) vw ?_)
  all_goals ((first | exact ⟨_, rfl, .inl ⟨(src.drop at0).takeWhile QO, none, by rw [hdc, QK hq0], rfl, hS.sp⟩⟩ | exact ⟨_, rfl, .inl ⟨(src.drop at0).takeWhile Qi, some n, by rw [hdc, QA (Q7 hq0) hq1, ← hdc, Q1i hn], rfl, hS.sp⟩⟩ | exact ⟨_, rfl, .inr ⟨8, _, by rw [hdc, QA (Q7 hq0) hq1, ← hdc, Q12 hn], by decide, rfl, hS.sp⟩⟩ | exact ⟨_, rfl, .inl ⟨[45, 62], none, by rw [Q6v (of_decide_eq_true hq2), Q2f], rfl, hS.sp⟩⟩ | exact ⟨_, rfl, .inl ⟨45 :: (src.drop (at0 + 1)).takeWhile Qi, some n, by rw [hdc, eq45 (c := c) (by omega), Q6 hd9, Q1e (Q5K hq3) hq3, ← Q6 hd9, Q1i (t := 45 :: _) hn], rfl, Q7L hS.sp⟩⟩ | exact ⟨_, rfl, .inr ⟨8, _, by rw [hdc, eq45 (c := c) (by omega), Q6 hd9, Q1e (Q5K hq3) hq3, ← Q6 hd9, Q12 (t := 45 :: _) hn], by decide, rfl, hS.sp⟩⟩ | exact ⟨_, rfl, .inl ⟨[c], none, by rw [hdc, Q2I (Q7 hq0) (Q7 hq1) (ne45 (by omega)) (hsi.1 (by omega))], rfl, hS.sp⟩⟩ | exact ⟨_, rfl, .inr ⟨6, _, by rw [hdc, Q6f (Q7 hq0) (Q7 hq1) (ne45 (by omega)) (fun h9 => absurd (hsi.2 h9) (by omega))], by decide, rfl, hS.sp⟩⟩ | exact ⟨_, rfl, .inr ⟨6, _, by rw [hdc, eq45 (c := c) (by omega), List.drop_eq_nil_of_le (by omega), Q6c], by decide, rfl, hS.sp⟩⟩ | exact ⟨_, rfl, .inr ⟨6, _, by rw [hdc, eq45 (c := c) (by omega), Q6 hd9, Q6d (min62 hq2 (by rw [hdc, eq45 (c := c) (by omega), Q6 hd9])) (Q7 hq3)], by decide, rfl, hS.sp⟩⟩))
end Go.Proofs.YtjecflbbcnocdaaDoor
namespace Go.Lir
def tokR : Rep Tok where
  es := 4
  pos := by decide
  R := fun _ _ cs t => cs = [.int .i64 t.at_, .string ⟨t.text.toArray⟩, .bool t.num.isSome, .int .i64 (t.num.getD 0)]
  len := by rintro _ _ _ _ rfl; rfl
  one := by
    rintro _ _ _ t rfl u hu
    simp at hu
    rcases hu with rfl | rfl | rfl | rfl <;> rfl
  turn := fun h _ => h
theorem Qz {c : Cx} {cs : List Value} {t : Tok} (h : tokR.at c cs t) : cs = [.int .i64 t.at_, .string ⟨t.text.toArray⟩, .bool t.num.isSome, .int .i64 (t.num.getD 0)] := h
section
variable {src t : List UInt8} {m : Option Int} {e : Int} {k i n : Nat} {out : List Tok}
theorem QR (h : 40000 < src.length) : scan src = .error (2, 40000) := by unfold scan; rw [if_pos h]
theorem Q6g (h : ¬ 40000 < src.length) (hi : src.drop i = skip false src) : scan src = Q22 src.length (src.length + 1) (src.drop i) [] := by unfold scan; rw [if_neg h, hi]
theorem scanL_ok (hi : i < src.length) (h : tok1 (src.drop i) = .ok (t, m)) : Q22 src.length (k + 1) (src.drop i) out = Q22 src.length k (skip false (src.drop (i + t.length))) (out ++ [⟨i, t, m⟩]) := by
  obtain ⟨c, hc⟩ : ∃ x, src[i]? = some x := ⟨_, List.getElem?_eq_getElem hi⟩
  have hd := Q6 hc
  rw [← List.drop_drop]
  have hl : src.length - (src.drop i).length = i := by rw [List.length_drop]; omega
  revert h hl
  rw [hd]
  intro h hl
  rw [Q22, h]
  dsimp only
  rw [hl]
theorem QS (hi : i < src.length) (h : tok1 (src.drop i) = .error e) : Q22 src.length (k + 1) (src.drop i) out = .error (e, (i : Int)) := by
  obtain ⟨c, hc⟩ : ∃ x, src[i]? = some x := ⟨_, List.getElem?_eq_getElem hi⟩
  have hd := Q6 hc
  have hl : (src.length : Int) - (src.drop i).length = i := by rw [List.length_drop]; omega
  revert h hl
  rw [hd]
  intro h hl
  rw [Q22, h]
  dsimp only
  rw [hl]
theorem Q2M (hi : src.length ≤ i) : Q22 src.length k (src.drop i) out = .ok out := by
  rw [List.drop_of_length_le hi]; cases k <;> rfl
theorem Q54 {i2 : Nat} (hd : scan src = Q22 src.length (k + 1) (src.drop i) out) (hi : i < src.length) (h : tok1 (src.drop i) = .ok (t, m)) (h2 : src.drop i2 = skip false (src.drop (i + t.length))) : scan src = Q22 src.length k (src.drop i2) (out ++ [⟨i, t, m⟩]) := by
  rw [hd, scanL_ok hi h, h2]
theorem Q6e (hi : i < src.length) (h : tok1 (src.drop i) = .ok (t, m)) : 0 < t.length ∧ i + t.length ≤ src.length := by
  have := tok1_len h
  rw [List.length_drop] at this
  omega
end
end Go.Lir
namespace Go.Proofs.YtjecflbbcnocdaaDoor
open Go.Lir
set_option maxHeartbeats 1000000
attribute [local irreducible] LC.wp Q0 Qv QJ retQ Q2z LO.wp Qn Calls
set_option linter.unusedSimpArgs false
set_option linter.unusedVariables false
attribute [local irreducible] skip Q22 scan tok1
variable {cx : Cx} {w : World} {L : List Res}
/-- What a scan gives back. -/
def ScanS (cx : Cx) (L : List Res) (src : List UInt8) (u : Value) (w' : World) : Prop :=
  (∃ l c' v, scan src = .ok l ∧ cx.Le c' ∧ u = .tuple #[v, .agg ⟨[.int .i64 0, .int .i64 0]⟩] ∧ tokR.sl c' v l ∧ St c' w' L) ∨ (∃ e n, scan src = .error (e, n) ∧ u = .tuple #[.slice none 0 0, .agg ⟨[.int .i64 e, .int .i64 n]⟩] ∧ St cx w' L)
theorem scan_c {src : List UInt8} (hT : NumK cx) (hl : src.length ≤ 100000) (hS : St cx w L) :
    Rets Tryd.prog Qx [.string ⟨src.toArray⟩] w fun u w' => ScanS cx L src u w' := by
  have hle := St.refl hS
  all_goals refine Q4E ?_
  all_goals (unfold token_Scan_lc; refine Q2 ?_; refine Q3 ?_; refine zm ?_; refine QP hS ?_; intro p3 w1 hS; refine zn ?_; refine Q2 ?_; refine Q2 ?_; refine Q3 ?_; refine zm ?_; refine Qq rfl ?_)
  all_goals (first | (refine zgtrt ?_) | (refine zgtrf ?_) | (refine Q5x rfl rfl (fun hc => ?_) (fun hc => ?_)))
  all_goals (refine zn ?_)
  all_goals
    first
    | (refine Qa rfl ?_ -- Qx c0
       all_goals (refine Q2 ?_; refine Q3 ?_; refine zb2 [_, _] ?_; refine zm ?_; refine zsn hS ?_; intro w1 hS; have hS := hS.ns; refine zn ?_; refine zr ?_; refine Q2B vw vw (Qh (n := 2) (by kernel_rfl) (by kernel_rfl) (hS.blkAt fd) (by rfl) (by rfl)) ?_)
       all_goals (exact ⟨_, rfl, .inr ⟨2, 40000, QR (by omega), rfl, hS.sp⟩⟩))
    | (refine Qb rfl ?_ -- Qx c0
       all_goals refine zsk ?_)
  all_goals (refine Q2 ?_; refine Q3 ?_; refine zm ?_; refine zb1 [_, _] ?_; refine zb hS ?_; intro p15 w1 hS; refine zm ?_; refine zn ?_; refine Q2 ?_; refine Q3 ?_; refine zm ?_; refine zn ?_; refine Q2 ?_; refine Q2 ?_; refine Q3 ?_; refine zm ?_; have hS : St cx _ (scn p15 src 0 :: blk p3 25 [.int .i64 0, .int .i64 0] :: L) := hS.sp; refine zR1 (c := Q7J (by omega) (by omega) hS) (h := ?_); rintro v1 w1 ⟨at1, rfl, h01, h02, h03, hS⟩; refine zn ?_; refine Ql ?_)
  refine zo [0, 3, 4] (fun A ρ' w' => ∃ (k i : Nat) (out : List Tok) (vb : Value) (cb : List (List Value)) (q6 q8 q7 : Value), Has ρ' A ∧ Has ρ' [(5, vb), (6, q6), (7, q7), (8, q8)] ∧ (i ≤ src.length) ∧ (src.length - i < k) ∧ (scan src = Q22 src.length k (src.drop i) out) ∧ (out.length ≤ i) ∧ (tokR.ls cx cb out) ∧ (oneC vb = true) ∧ St cx w' (scn p15 src i :: sl 32 4 vb cb :: blk p3 25 [.int .i64 0, .int .i64 0] :: L)) (fun _ w' => (src.length - Q7G w' p15 1).toNat) ?_ ?_
  · exact ⟨src.length + 1, at1, [], .slice none 0 0, [], _, _, _, zh, zh, (by omega), (by omega), Q6g (by omega) (by rw [h03]; rfl), (by omega), Rep.LR.nil _ _ _, rfl, by have hS := hS.nil (T := 32) (es := 4); exact hS.sp⟩
  rintro ρ w1 ⟨k, i, out, vb, cb, q6, q8, q7, hA, hρ, hi, hk, hd, hol, hlb, hvb, hS⟩; obtain ⟨ρ, rfl⟩ := env2 hA hρ; have hm0 := Q2j (j := 1) hS (i := 0) rfl rfl
  unfold Q2H
  all_goals (refine Q2 ?_; refine Q2 ?_; refine Q3 ?_; refine zm ?_; refine Qm rfl ?_; refine Qd rfl ?_; refine zl hS ?_; refine zm ?_; refine Qq rfl ?_; refine Q23 rfl rfl ?_; refine zn ?_)
  refine Q2N rfl (fun hc => ?_) (fun hc => ?_)
  · skip
    all_goals (refine zsk ?_; refine Q2 ?_; refine Ql ?_; refine Q2 ?_; refine Q3 ?_; refine zm ?_; refine Qm rfl ?_; refine Qd rfl ?_; refine zl hS ?_; refine zm ?_; refine zn ?_; refine Q2 ?_; refine Q3 ?_; refine zm ?_)
    all_goals (have hS : St cx _ (scn p15 src i :: _) := hS; refine zR1 (c := next_c hT (by omega) (by omega) hS) (h := ?_); rintro v1 w1 (⟨t, m, ht, rfl, hS⟩ | ⟨e, at9, ht, he, rfl, hS⟩))
    all_goals (refine zm ?_; refine Q1M rfl rfl ?_; refine Q1M rfl rfl ?_; refine QP hS ?_; intro p7 w1 hS; refine zsn hS ?_; intro w1 hS; have hS := hS.ns; refine zm ?_; refine zn ?_; refine Q2 ?_; refine Q2 ?_; refine Q3 ?_; refine zm ?_)
    all_goals (first | (refine Q6w ?_) | (refine Q6x ?_))
    all_goals (refine zn ?_)
    all_goals
      first
      | (refine Qb rfl ?_ -- Qx c2
         all_goals refine zsk ?_)
      | (refine Qa rfl ?_ -- Qx c2
         all_goals (refine Q2 ?_; refine Q3 ?_; refine zm ?_; refine zm ?_; refine zb2 [_, _] ?_; refine zm ?_; refine zsn hS ?_; intro w1 hS; have hS := hS.ns; refine zn ?_; refine zr ?_; refine Q2B vw vw (Qh (n := 2) (by kernel_rfl) (by kernel_rfl) (hS.blkAt fd) (by rfl) (by rfl)) ?_)
         all_goals ((first | exact ⟨_, rfl, .inr ⟨2, 40000, QR (by omega), rfl, hS.sp⟩⟩ | exact ⟨_, rfl, .inr ⟨e, i, by rw [hd, show k = k - 1 + 1 by omega, QS (by omega) ht], rfl, hS.sp⟩⟩)))
    all_goals (have hf9 := Q6e (by omega) ht; have hd9 : tokR.at cx [.int .i64 (i : Int), .string ⟨t.toArray⟩, .bool m.isSome, .int .i64 (m.getD 0)] (⟨i, t, m⟩ : Tok) := rfl; refine Q3 ?_; refine zm ?_; refine zv hS ?_; refine zB1 hS [_, _, _, _] ?_; intro b1 w1 hS; refine za el_T23 u_T23 hS ?_; intro vp1 w1 css1 hls1 hv1 hS; have hS := hS.ns; refine zm ?_; refine zn ?_; refine Q3 ?_; refine zm ?_; have hS : St cx _ (scn p15 src (i + t.length) :: sl 32 4 vp1 css1 :: blk p3 25 [.int .i64 0, .int .i64 0] :: L) := hS.sp; refine zR1 (c := Q7J (by omega) (by omega) hS) (h := ?_); rintro v1 w1 ⟨at2, rfl, h11, h12, h13, hS⟩; refine zn ?_; exact ⟨⟨k - 1, at2, out ++ [⟨i, t, m⟩], _, _, _, _, _, zh, zh, (by omega), (by omega), Q54 (by rw [show k - 1 + 1 = k by omega]; exact hd) (by omega) ht h13, (by first | omega | assumption | rfl | (simp; done) | (simp; omega)), by assumption, by assumption, hS.sp⟩, by rw [hm0, Q2j (j := 1) hS (i := 0) rfl rfl]; omega⟩)
  · skip
    all_goals (refine zex ?_; obtain ⟨c2, hle2, hS2, hk2⟩ := St.freezeL (r := tokR) (hS.out (r := sl 32 4 vb cb) fd) hlb rfl (by omega); clear hS; have hS := hS2; simp only [List.eraseIdx_cons_zero, List.eraseIdx_cons_succ] at hS; refine Q2 ?_; refine Q3 ?_; refine zm ?_; refine zb0 [_, _] ?_; refine zm ?_; refine zsn hS ?_; intro w1 hS; have hS := hS.ns; refine zn ?_; refine zr ?_; refine Q2B vw vw (Qh (n := 2) (by kernel_rfl) (by kernel_rfl) (hS.blkAt fd) (by rfl) (by rfl)) ?_; (first | exact ⟨_, rfl, .inr ⟨2, 40000, QR (by omega), rfl, hS.sp⟩⟩ | exact ⟨_, rfl, .inr ⟨e, i, by rw [hd, show k = k - 1 + 1 by omega, QS (by omega) ht], rfl, hS.sp⟩⟩ | exact ⟨_, rfl, .inl ⟨out, c2, vb, by rw [hd, Q2M (by omega)], hle2, rfl, hk2, hS.sp⟩⟩))
end Go.Proofs.YtjecflbbcnocdaaDoor
namespace Go.Proofs.YtjecflbbcnocdaaDoor
open Go.Lir
set_option maxHeartbeats 1000000
attribute [local irreducible] LC.wp Q0 Qv QJ retQ Q2z LO.wp Qn Calls
set_option linter.unusedSimpArgs false
set_option linter.unusedVariables false
attribute [local irreducible] skip Q22 scan tok1
variable {cx : Cx} {w : World} {L : List Res}
theorem Q38 {c : UInt8} (h : Q3z c = true) : ¬ Qi c = true ∧ ¬ c = 45 := by
  have hall : ∀ p : Fin 256, Q3z (UInt8.ofNat p.val) = true → ¬ Qi (UInt8.ofNat p.val) = true ∧ ¬ UInt8.ofNat p.val = 45 := by decide +kernel
  have h1 := hall ⟨c.toNat, c.toNat_lt⟩
  simp only [UInt8.ofNat_toNat] at h1
  exact h1 h
section
variable {src : List UInt8} {i i2 : Nat} {p : UInt8 → Bool} {c d : UInt8} {r : List UInt8}
theorem Q7p (h : ∀ x ∈ (src.drop i).take (i2 - i), p x = true) (hi : i ≤ i2) (hk : i2 ≤ src.length) (hs : ∀ x, src[i2]? = some x → p x = false) : (src.take i2).drop i = (src.drop i).takeWhile p ∧ i + ((src.drop i).takeWhile p).length = i2 := by
  have := Q4X (src := src) (at0 := i) (k := i2 - i) h (by omega) (by rw [show i + (i2 - i) = i2 by omega]; exact hs)
  rw [show i + (i2 - i) = i2 by omega] at this
  exact ⟨this.1, by omega⟩
theorem Q6l (h : ∀ x ∈ (src.drop i).take (i2 - i), p x = true) (hi : i ≤ i2) (hc : src[i2]? = some c) (hp : p c = true) : ∀ x ∈ (src.drop i).take (i2 + 1 - i), p x = true := by
  have := Q4i (src := src) (at0 := i) (k := i2 - i) h (by rw [show i + (i2 - i) = i2 by omega]; exact hc) hp
  rw [show i2 + 1 - i = i2 - i + 1 by omega]
  exact this
theorem run_0 : ∀ x ∈ (src.drop i).take (i - i), p x = true := by rw [Nat.sub_self]; intro x hx; simp at hx
theorem num_dig (h0 : QO c = false) (h : Qi c = true) : tok1 (c :: r) = numT (c :: r.takeWhile Qi) := by
  rw [QA (Q7 h0) h, List.takeWhile_cons, if_pos h]
theorem num_neg (h : c.toNat = 45) (hr : r = d :: r.tail) (hd : Qi d = true) : tok1 (c :: r) = numT (c :: r.takeWhile Qi) := by
  rw [eq45 h, hr, Q1e (Q5K hd) hd]
theorem Q2K (hc : src[i]? = some c) (hi : i + 1 ≤ i2) (h : (src.take i2).drop (i + 1) = r) : (src.take i2).drop i = c :: r := by
  rw [← h]
  exact Q6 (by rw [List.getElem?_take_of_lt (by omega)]; exact hc)
end
theorem rF_c {c a : Int} (hS : St cx w L) : Rets Tryd.prog R_F [.int .i64 c, .int .i64 a] w fun u w' => u = .agg ⟨[.int .i64 c, .int .i64 a]⟩ ∧ St cx w' L := by
  all_goals refine R_F_in ?_
  all_goals (unfold R_F_lc; refine Q2 ?_; refine Q3 ?_; refine QP hS ?_; intro p4 w1 hS; refine zn ?_; refine Q2 ?_; refine Q3 ?_; refine zm ?_; refine zm ?_; refine zb2 [_, _] ?_; refine zsn hS ?_; intro w1 hS; have hS := hS.ns; refine zn ?_; refine zr ?_; refine q_retc vw (Qh (n := 2) (by kernel_rfl) (by kernel_rfl) (hS.blkAt fd) (by rfl) (by rfl)) ?_; exact ⟨_, rfl, rfl, hS.sp⟩)
theorem rscan_c {src : List UInt8} (hT : NumK cx) (hl : src.length ≤ 100000) (hS : St cx w L) :
    Rets Tryd.prog QG [.string ⟨src.toArray⟩] w fun u w' => ScanS cx L src u w' := by
  have hle := St.refl hS
  all_goals refine Q7X ?_
  all_goals (unfold R_Scan_lc; refine Q2 ?_; refine Q3 ?_; refine zm ?_; refine QP hS ?_; intro p3 w1 hS; refine zn ?_; refine Q2 ?_; refine Q2 ?_; refine Q3 ?_; refine zm ?_; refine Qq rfl ?_)
  all_goals (first | (refine zgtrt ?_) | (refine zgtrf ?_) | (refine Q5x rfl rfl (fun hc => ?_) (fun hc => ?_)))
  all_goals (refine zn ?_)
  all_goals
    first
    | (refine Qb rfl ?_ -- QG c0
       all_goals refine zsk ?_)
    | (refine Qa rfl ?_ -- QG c0
       all_goals (refine Q2 ?_; refine Q3 ?_; refine zR2 (c := rF_c hS) (h := ?_); rintro v1 w1 ⟨rfl, hS⟩; refine zm ?_; refine zsn hS ?_; intro w1 hS; have hS := hS.ns; refine zn ?_; refine zr ?_; refine Q2B vw vw (Qh (n := 2) (by kernel_rfl) (by kernel_rfl) (hS.blkAt fd) (by rfl) (by rfl)) ?_)
       all_goals (exact ⟨_, rfl, .inr ⟨2, 40000, QR (by omega), rfl, hS.sp⟩⟩))
  all_goals (refine Q2 ?_; refine Q3 ?_; refine zm ?_; refine zn ?_; refine Q2 ?_; refine Q3 ?_; refine zm ?_; refine zR2 (c := Q57 (at0 := 0) (by omega) (by omega) hS) (h := ?_); rintro v1 w1 ⟨at1, rfl, h01, h02, h03, hS⟩; refine zm ?_; refine zn ?_; refine Q2 ?_; refine Ql ?_)
  refine zo [0, 3] (fun A ρ' w' => ∃ (k i : Nat) (out : List Tok) (vb : Value) (cb : List (List Value)), Has ρ' A ∧ Has ρ' [(4, vb), (5, .int .i64 i)] ∧ (i ≤ src.length) ∧ (src.length - i < k) ∧ (scan src = Q22 src.length k (src.drop i) out) ∧ (out.length ≤ i) ∧ (tokR.ls cx cb out) ∧ (oneC vb = true) ∧ St cx w' (sl 33 4 vb cb :: blk p3 25 [.int .i64 0, .int .i64 0] :: L)) (fun ρ' _ => (src.length - iv (ρ' 5)).toNat) ?_ ?_
  · exact ⟨src.length + 1, at1, [], .slice none 0 0, [], zh, zh, (by omega), (by omega), Q6g (by omega) (by rw [h03]; rfl), (by omega), Rep.LR.nil _ _ _, rfl, by have hS := hS.nil (T := 33) (es := 4); exact hS.sp⟩
  rintro ρ w1 ⟨k, i, out, vb, cb, hA, hρ, hi, hk, hd, hol, hlb, hvb, hS⟩; obtain ⟨ρ, rfl⟩ := env2 hA hρ
  unfold Q5p
  all_goals (refine Q2 ?_; refine Q2 ?_; refine Q3 ?_; refine zm ?_; refine zm ?_; refine Qq rfl ?_; refine Q23 rfl rfl ?_; refine zn ?_)
  refine Q2N rfl (fun hc => ?_) (fun hc => ?_)
  · skip
    all_goals (refine zsk ?_; refine Ql ?_; refine Q2 ?_; refine Q3 ?_; refine zm ?_; refine zm ?_; refine zn ?_)
    refine zM [0, 3] (fun A ρ' w' => ∃ (t : List UInt8) (m : Option Int) (at2 : Nat) (vb2 : Value) (cb2 : List (List Value)), Has ρ' A ∧ Has ρ' [(4, vb2), (5, .int .i64 at2)] ∧ (tok1 (src.drop i) = .ok (t, m)) ∧ (i + t.length = at2) ∧ (tokR.ls cx cb2 (out ++ [⟨i, t, m⟩])) ∧ (oneC vb2 = true) ∧ St cx w' (sl 33 4 vb2 cb2 :: blk p3 25 [.int .i64 0, .int .i64 0] :: L)) ?_ ?_
    · skip
      all_goals (refine Q2 ?_; obtain ⟨c, hc9⟩ : ∃ x, src[i]? = some x := ⟨_, List.getElem?_eq_getElem (by omega)⟩; have hdc := Q6 hc9; refine Q3 ?_; refine zm ?_; refine zm ?_; refine Qj rfl rfl hc9 ?_)
      all_goals (refine zR1 (c := Q56 hS) (h := ?_); rintro v1 w1 ⟨rfl, hS⟩; cases hq0 : QO c)
      all_goals (refine zn ?_)
      all_goals
        first
        | (refine Qb rfl ?_ -- QG c2
           all_goals (refine Q2 ?_; refine Q3 ?_; refine zm ?_; refine zm ?_; refine Qj rfl rfl hc9 ?_)
           all_goals (refine zR1 (c := rsign_c hS) (h := ?_); rintro v1 w1 ⟨rfl, hS⟩; cases hq1 : Q3z c)
           all_goals (refine zn ?_)
           all_goals
             first
             | (refine Qb rfl ?_ -- QG c4
                all_goals (refine Q2 ?_; refine Q3 ?_; refine zm ?_; refine zm ?_; refine Qj rfl rfl hc9 ?_)
                all_goals (first | (refine Q2w ?_) | (refine Q2x ?_) | (refine QB rfl rfl (fun hc => ?_) (fun hc => ?_)))
                all_goals (refine zm ?_; (first | refine s_gn rfl rfl ?_ | (refine s_gy rfl ?_; refine zm ?_)); (first | refine s_gn rfl rfl ?_ | (refine s_gy rfl ?_; refine zad ?_)); (first | refine s_gn rfl rfl ?_ | (refine s_gy rfl ?_; refine zm ?_)); (first | refine s_gn rfl rfl ?_ | (refine s_gy rfl ?_; refine Qq rfl ?_)))
                all_goals (first | refine s_gn rfl rfl ?_ | (refine s_gy rfl ?_; (first | (refine Q4V ?_) | (refine Q4W ?_) | (refine Q2y rfl rfl (fun hc => ?_) (fun hc => ?_)))))
                all_goals ((first | (refine zpt ?_) | (refine zpf ?_)); refine zm ?_; (first | refine s_gn rfl rfl ?_ | (refine s_gy rfl ?_; refine zm ?_)); (first | refine s_gn rfl rfl ?_ | (refine s_gy rfl ?_; refine zm ?_)); (first | refine s_gn rfl rfl ?_ | (refine s_gy rfl ?_; refine zad ?_)); (first | refine s_gn rfl rfl ?_ | (refine s_gy rfl ?_; obtain ⟨d, hd8⟩ : ∃ x, src[i + 1]? = some x := ⟨_, List.getElem?_eq_getElem (by omega)⟩; have hdd := Q6 hd8; refine Qj (m := i + 1) rfl rfl hd8 ?_)))
                all_goals (first | refine s_gn rfl rfl ?_ | (refine s_gy rfl ?_; (first | (refine Q2w ?_) | (refine Q2x ?_) | (refine QB rfl rfl (fun hc => ?_) (fun hc => ?_)))))
                all_goals ((first | (refine zpt ?_) | (refine zpf ?_)); refine zn ?_)
                all_goals
                  first
                  | (refine Qb rfl ?_ -- QG c5
                     all_goals (refine Q2 ?_; refine Q3 ?_; refine zm ?_; refine zm ?_; refine Qj rfl rfl hc9 ?_)
                     all_goals (refine zR1 (c := Q4J hS) (h := ?_); rintro v1 w1 ⟨rfl, hS⟩; cases hq2 : Qi c)
                     all_goals (refine zm ?_; (first | refine s_gn rfl rfl ?_ | (refine s_gy rfl ?_; refine zm ?_)); (first | refine s_gn rfl rfl ?_ | (refine s_gy rfl ?_; refine zm ?_)); (first | refine s_gn rfl rfl ?_ | (refine s_gy rfl ?_; refine Qj rfl rfl hc9 ?_)))
                     all_goals (first | refine s_gn rfl rfl ?_ | (refine s_gy rfl ?_; (first | (refine Q2w ?_) | (refine Q2x ?_))))
                     all_goals ((first | refine s_gn rfl rfl ?_ | (refine s_gy rfl ?_; refine zm ?_)); (first | refine s_gn rfl rfl ?_ | (refine s_gy rfl ?_; refine zm ?_)); (first | refine s_gn rfl rfl ?_ | (refine s_gy rfl ?_; refine zad ?_)); (first | refine s_gn rfl rfl ?_ | (refine s_gy rfl ?_; refine zm ?_)); (first | refine s_gn rfl rfl ?_ | (refine s_gy rfl ?_; refine Qq rfl ?_)))
                     all_goals (first | refine s_gn rfl rfl ?_ | (refine s_gy rfl ?_; (first | (refine Q4V ?_) | (refine Q4W ?_))))
                     all_goals ((first | refine s_gn rfl rfl ?_ | (refine s_gy rfl ?_; (first | (refine zpt ?_) | (refine zpf ?_)))); (first | refine s_gn rfl rfl ?_ | (refine s_gy rfl ?_; refine zm ?_)); (first | refine s_gn rfl rfl ?_ | (refine s_gy rfl ?_; refine zm ?_)); (first | refine s_gn rfl rfl ?_ | (refine s_gy rfl ?_; refine zm ?_)); (first | refine s_gn rfl rfl ?_ | (refine s_gy rfl ?_; refine zad ?_)); (first | refine s_gn rfl rfl ?_ | (refine s_gy rfl ?_; obtain ⟨d2, hd7⟩ : ∃ x, src[i + 1]? = some x := ⟨_, List.getElem?_eq_getElem (by omega)⟩; have hdd2 := Q6 hd7; refine Qj (m := i + 1) rfl rfl hd7 ?_)))
                     all_goals (first | refine s_gn rfl rfl ?_ | (refine s_gy rfl ?_; refine zR1 (c := Q4J hS) (h := ?_); rintro v1 w1 ⟨rfl, hS⟩; cases hq3 : Qi d2))
                     all_goals ((first | refine s_gn rfl rfl ?_ | (refine s_gy rfl ?_; (first | (refine zpt ?_) | (refine zpf ?_)))); (first | (refine zpt ?_) | (refine zpf ?_)); refine zn ?_)
                     all_goals
                       first
                       | (refine Qb rfl ?_ -- QG c6
                          all_goals (refine Q2 ?_; refine Q3 ?_; refine zm ?_; refine zR2 (c := rF_c hS) (h := ?_); rintro v1 w1 ⟨rfl, hS⟩; refine zm ?_; refine zsn hS ?_; intro w1 hS; have hS := hS.ns; refine zn ?_; refine zr ?_; refine Q2B vw vw (Qh (n := 2) (by kernel_rfl) (by kernel_rfl) (hS.blkAt fd) (by rfl) (by rfl)) ?_)
                          all_goals ((first | exact ⟨_, rfl, .inr ⟨2, 40000, QR (by omega), rfl, hS.sp⟩⟩ | exact ⟨_, rfl, .inl ⟨out, c2, vb, by rw [hd, Q2M (by omega)], hle2, rfl, hk2, hS.sp⟩⟩ | exact ⟨_, rfl, .inr ⟨8, i, by rw [hd, show k = k - 1 + 1 by omega, QS (by omega) (hnum.trans (Q12 hn))], rfl, hS.sp⟩⟩ | exact ⟨_, rfl, .inr ⟨6, i, by rw [hd, show k = k - 1 + 1 by omega, QS (by omega) (by rw [hdc, Q6f (Q7 hq0) (Q7 hq2) (ne45 (by omega)) (Q7 hq1)])], rfl, hS.sp⟩⟩ | exact ⟨_, rfl, .inr ⟨6, i, by rw [hd, show k = k - 1 + 1 by omega, QS (by omega) (by rw [hdc, eq45 (c := c) (by omega), List.drop_eq_nil_of_le (by omega), Q6c])], rfl, hS.sp⟩⟩ | exact ⟨_, rfl, .inr ⟨6, i, by rw [hd, show k = k - 1 + 1 by omega, QS (by omega) (by rw [hdc, eq45 (c := c) (by omega), hdd2, Q6d (fun e9 => absurd (show ((d.toNat : Nat) : Int) = 62 by rw [Option.some.inj (hd8.symm.trans hd7), e9]; rfl) (by assumption)) (Q7 hq3)])], rfl, hS.sp⟩⟩)))
                       | (refine Qa rfl ?_ -- QG c6
                          refine zML hS [0, 3, 4, 6] (fun A LL ρ' w' => Has ρ' A ∧ Has ρ' [(5, .int .i64 ((i : Int) + 1))] ∧ (tok1 (src.drop i) = numT (c :: (src.drop (i + 1)).takeWhile Qi)) ∧ St cx w' (LL)) ?_ ?_
                          · skip
                            all_goals (refine Q3 ?_; refine zm ?_; refine zad ?_; refine zm ?_; refine zn ?_; exact ⟨zh, zh, (by rw [hdc]; first | exact num_dig hq0 hq2 | exact num_neg (by omega) (by rw [hdd2]; rfl) hq3), hS.sp⟩)
                          rintro ρ w1 ⟨hA, hρ, hnum, hS⟩; obtain ⟨ρ, rfl⟩ := env2 hA hρ
                          all_goals (refine Q2 ?_; refine Ql ?_)
                          refine zoL hS [0, 3, 4, 6] (fun A LL ρ' w' => ∃ (i2 : Nat), Has ρ' A ∧ Has ρ' [(5, .int .i64 i2)] ∧ (i + 1 ≤ i2) ∧ (i2 ≤ src.length) ∧ (∀ x ∈ (src.drop (i + 1)).take (i2 - (i + 1)), Qi x = true) ∧ St cx w' (LL)) (fun ρ' _ => (src.length - iv (ρ' 5)).toNat) ?_ ?_
                          · exact ⟨i + 1, zh, zh, (by omega), (by omega), run_0, hS.sp⟩
                          rintro ρ w1 ⟨i2, hA, hρ, h2, h3, hall, hS⟩; obtain ⟨ρ, rfl⟩ := env2 hA hρ
                          unfold Q4r
                          all_goals (refine Q2 ?_; refine Q2 ?_; refine Q3 ?_; refine zm ?_; refine zm ?_; refine Qq rfl ?_)
                          all_goals (first | (refine Q4V ?_) | (refine Q4W ?_) | (refine Q2y rfl rfl (fun hc => ?_) (fun hc => ?_)))
                          all_goals (refine zm ?_; (first | refine s_gn rfl rfl ?_ | (refine s_gy rfl ?_; refine zm ?_)); (first | refine s_gn rfl rfl ?_ | (refine s_gy rfl ?_; refine zm ?_)); (first | refine s_gn rfl rfl ?_ | (refine s_gy rfl ?_; obtain ⟨c2, hc2⟩ : ∃ x, src[i2]? = some x := ⟨_, List.getElem?_eq_getElem (by omega)⟩; refine Qj rfl rfl hc2 ?_)))
                          all_goals (first | refine s_gn rfl rfl ?_ | (refine s_gy rfl ?_; refine zR1 (c := Q4J hS) (h := ?_); rintro v1 w1 ⟨rfl, hS⟩; cases hq : Qi c2))
                          all_goals ((first | (refine zpt ?_) | (refine zpf ?_)); refine zn ?_)
                          all_goals
                            first
                            | (refine Qa rfl ?_ -- QG c7
                               all_goals (refine zsk ?_; refine Ql ?_; refine Q3 ?_; refine zm ?_; refine zad ?_; refine zm ?_; refine zn ?_)
                               all_goals (exact ⟨⟨i2 + 1, zh, zh, (by omega), (by omega), Q6l hall h2 hc2 hq, hS.sp⟩, Q2b (by omega)⟩))
                            | (refine Qb rfl ?_ -- QG c7
                               all_goals (refine zex ?_)
                               all_goals (have hw := Q7p hall h2 h3 (by intro x hx; first | (rw [List.getElem?_eq_none (by omega)] at hx; cases hx) | (obtain rfl : c2 = x := Option.some.inj (hc2.symm.trans hx); exact hq)))
                               all_goals (refine Q2 ?_; refine Q3 ?_; refine zm ?_; refine zm ?_; refine zm ?_; refine Q1f rfl (l' := i) (h' := i2) ⟨_, rfl⟩ ⟨_, rfl⟩ (by omega) (by omega) ?_; rw [Q2K hc9 h2 hw.1])
                               all_goals (refine zR1 (c := longof_c hT (by rw [List.length_cons]; omega) hS) (h := ?_); rintro v1 w1 ⟨⟨n, hn, rfl⟩ | ⟨hn, rfl⟩, hS⟩)
                               all_goals (refine zm ?_; refine Q1M rfl rfl ?_; refine Q1M rfl rfl ?_; refine zm ?_; refine zm ?_; refine zn ?_; refine Q2 ?_; refine Q2 ?_; refine Q3 ?_; refine zm ?_; refine s_not rfl ?_; refine zn ?_)
                               all_goals
                                 first
                                 | (refine Qa rfl ?_ -- QG c8
                                    all_goals (refine Q2 ?_; refine Q3 ?_; refine zm ?_; refine zR2 (c := rF_c hS) (h := ?_); rintro v1 w1 ⟨rfl, hS⟩; refine zm ?_; refine zsn hS ?_; intro w1 hS; have hS := hS.ns; refine zn ?_; refine zr ?_; refine Q2B vw vw (Qh (n := 2) (by kernel_rfl) (by kernel_rfl) (hS.blkAt fd) (by rfl) (by rfl)) ?_)
                                    all_goals ((first | exact ⟨_, rfl, .inr ⟨2, 40000, QR (by omega), rfl, hS.sp⟩⟩ | exact ⟨_, rfl, .inl ⟨out, c2, vb, by rw [hd, Q2M (by omega)], hle2, rfl, hk2, hS.sp⟩⟩ | exact ⟨_, rfl, .inr ⟨8, i, by rw [hd, show k = k - 1 + 1 by omega, QS (by omega) (hnum.trans (Q12 hn))], rfl, hS.sp⟩⟩)))
                                 | (refine Qb rfl ?_ -- QG c8
                                    all_goals refine zsk ?_)
                               all_goals (have hd9 : tokR.at cx [.int .i64 (i : Int), .string ⟨(c :: (src.drop (i + 1)).takeWhile Qi).toArray⟩, .bool true, .int .i64 n] (⟨i, c :: (src.drop (i + 1)).takeWhile Qi, some n⟩ : Tok) := rfl; refine Q3 ?_; refine zm ?_; refine zm ?_; refine zm ?_; refine zm ?_; refine zm ?_; refine Q1f rfl (l' := i) (h' := i2) ⟨_, rfl⟩ ⟨_, rfl⟩ (by omega) (by omega) ?_; rw [Q2K hc9 h2 hw.1]; refine zm ?_; refine zb4 [_, _, _, _] ?_; refine zB1 hS [_, _, _, _] ?_; intro b1 w1 hS; refine za Q6r u_T28 hS ?_; intro vp4 w4 css4 hls4 hv4 hS; have hS := hS.ns; refine zm ?_; refine zn ?_)
                               all_goals (first | (exact ⟨_, none, i2, _, _, zh, zh, (by rw [hdc, QK hq0]), hw.2, by assumption, by assumption, hS.sp⟩) | (exact ⟨[c], none, i + 1, _, _, zh, zh, (by rw [hdc, Q2I (Q7 hq0) (Q38 hq1).1 (Q38 hq1).2 hq1]), rfl, by assumption, by assumption, hS.sp⟩) | (exact ⟨[45, 62], none, i + 2, _, _, zh, zh, (by rw [hdc, hdd, eq45 (c := c) (by omega), UInt8.toNat_inj.1 (show d.toNat = (62 : UInt8).toNat by show d.toNat = 62; omega), Q2f]), rfl, by assumption, by assumption, hS.sp⟩) | (exact ⟨_, some n, i2, _, _, zh, zh, (by rw [hnum, Q1i hn]), (by rw [List.length_cons]; omega), by assumption, by assumption, hS.sp⟩)))))
                  | (refine Qa rfl ?_ -- QG c5
                     all_goals (refine Q2 ?_; refine Q3 ?_; refine zm ?_; refine zad ?_; refine zm ?_; refine zn ?_; have hd9 : tokR.at cx [.int .i64 (i : Int), .string ⟨([45, 62] : List UInt8).toArray⟩, .bool false, .int .i64 0] (⟨i, [45, 62], none⟩ : Tok) := rfl; refine Q3 ?_; refine zm ?_; refine zm ?_; refine zm ?_; refine zm ?_; refine zm ?_; refine Q1f rfl (l' := i) (h' := i + 2) ⟨_, rfl⟩ ⟨_, rfl⟩ (by omega) (by omega) ?_; rw [Q2K hc9 (by omega) (Q2K hd8 (by omega) (by rw [List.drop_of_length_le (by rw [List.length_take]; omega)])), eq45 (c := c) (by omega), UInt8.toNat_inj.1 (show d.toNat = (62 : UInt8).toNat by show d.toNat = 62; omega)]; refine zb2 [_, _, _, _] ?_; refine zB1 hS [_, _, _, _] ?_; intro b1 w1 hS; refine za Q6r u_T28 hS ?_; intro vp3 w3 css3 hls3 hv3 hS; have hS := hS.ns; refine zm ?_; refine zn ?_)
                     all_goals (first | (exact ⟨_, none, i2, _, _, zh, zh, (by rw [hdc, QK hq0]), hw.2, by assumption, by assumption, hS.sp⟩) | (exact ⟨[c], none, i + 1, _, _, zh, zh, (by rw [hdc, Q2I (Q7 hq0) (Q38 hq1).1 (Q38 hq1).2 hq1]), rfl, by assumption, by assumption, hS.sp⟩) | (exact ⟨[45, 62], none, i + 2, _, _, zh, zh, (by rw [hdc, hdd, eq45 (c := c) (by omega), UInt8.toNat_inj.1 (show d.toNat = (62 : UInt8).toNat by show d.toNat = 62; omega), Q2f]), rfl, by assumption, by assumption, hS.sp⟩))))
             | (refine Qa rfl ?_ -- QG c4
                all_goals (refine Q2 ?_; refine Q3 ?_; refine zm ?_; refine zad ?_; refine zm ?_; refine zn ?_; have hd9 : tokR.at cx [.int .i64 (i : Int), .string ⟨([c] : List UInt8).toArray⟩, .bool false, .int .i64 0] (⟨i, [c], none⟩ : Tok) := rfl; refine Q3 ?_; refine zm ?_; refine zm ?_; refine zm ?_; refine zm ?_; refine zm ?_; refine Q1f rfl (l' := i) (h' := i + 1) ⟨_, rfl⟩ ⟨_, rfl⟩ (by omega) (by omega) ?_; rw [Q2K hc9 (by omega) (by rw [List.drop_of_length_le (by rw [List.length_take]; omega)])]; refine zb2 [_, _, _, _] ?_; refine zB1 hS [_, _, _, _] ?_; intro b1 w1 hS; refine za Q6r u_T28 hS ?_; intro vp2 w2 css2 hls2 hv2 hS; have hS := hS.ns; refine zm ?_; refine zn ?_)
                all_goals (first | (exact ⟨_, none, i2, _, _, zh, zh, (by rw [hdc, QK hq0]), hw.2, by assumption, by assumption, hS.sp⟩) | (exact ⟨[c], none, i + 1, _, _, zh, zh, (by rw [hdc, Q2I (Q7 hq0) (Q38 hq1).1 (Q38 hq1).2 hq1]), rfl, by assumption, by assumption, hS.sp⟩))))
        | (refine Qa rfl ?_ -- QG c2
           all_goals (refine Q2 ?_; refine Ql ?_)
           refine zoL hS [0, 3, 4, 6] (fun A LL ρ' w' => ∃ (i2 : Nat), Has ρ' A ∧ Has ρ' [(5, .int .i64 i2)] ∧ (i ≤ i2) ∧ (i2 ≤ src.length) ∧ (∀ x ∈ (src.drop i).take (i2 - i), QO x = true) ∧ St cx w' (LL)) (fun ρ' _ => (src.length - iv (ρ' 5)).toNat) ?_ ?_
           · exact ⟨i, zh, zh, (by omega), (by omega), run_0, hS.sp⟩
           rintro ρ w1 ⟨i2, hA, hρ, h2, h3, hall, hS⟩; obtain ⟨ρ, rfl⟩ := env2 hA hρ
           unfold Q5o
           all_goals (refine Q2 ?_; refine Q2 ?_; refine Q3 ?_; refine zm ?_; refine zm ?_; refine Qq rfl ?_)
           all_goals (first | (refine Q4V ?_) | (refine Q4W ?_) | (refine Q2y rfl rfl (fun hc => ?_) (fun hc => ?_)))
           all_goals (refine zm ?_; (first | refine s_gn rfl rfl ?_ | (refine s_gy rfl ?_; refine zm ?_)); (first | refine s_gn rfl rfl ?_ | (refine s_gy rfl ?_; refine zm ?_)); (first | refine s_gn rfl rfl ?_ | (refine s_gy rfl ?_; obtain ⟨c2, hc2⟩ : ∃ x, src[i2]? = some x := ⟨_, List.getElem?_eq_getElem (by omega)⟩; refine Qj rfl rfl hc2 ?_)))
           all_goals (first | refine s_gn rfl rfl ?_ | (refine s_gy rfl ?_; refine zR1 (c := Q56 hS) (h := ?_); rintro v1 w1 ⟨rfl, hS⟩; cases hq : QO c2))
           all_goals ((first | (refine zpt ?_) | (refine zpf ?_)); refine zn ?_)
           all_goals
             first
             | (refine Qa rfl ?_ -- QG c3
                all_goals (refine zsk ?_; refine Ql ?_; refine Q3 ?_; refine zm ?_; refine zad ?_; refine zm ?_; refine zn ?_)
                all_goals (exact ⟨⟨i2 + 1, zh, zh, (by omega), (by omega), Q6l hall h2 hc2 hq, hS.sp⟩, Q2b (by omega)⟩))
             | (refine Qb rfl ?_ -- QG c3
                all_goals (refine zex ?_)
                all_goals (have hw := Q7p hall h2 h3 (by intro x hx; first | (rw [List.getElem?_eq_none (by omega)] at hx; cases hx) | (obtain rfl : c2 = x := Option.some.inj (hc2.symm.trans hx); exact hq)))
                all_goals (have hd9 : tokR.at cx [.int .i64 (i : Int), .string ⟨((src.drop i).takeWhile QO).toArray⟩, .bool false, .int .i64 0] (⟨i, (src.drop i).takeWhile QO, none⟩ : Tok) := rfl; refine Q3 ?_; refine zm ?_; refine zm ?_; refine zm ?_; refine zm ?_; refine zm ?_; refine Q1f rfl (l' := i) (h' := i2) ⟨_, rfl⟩ ⟨_, rfl⟩ (by omega) (by omega) ?_; rw [hw.1]; refine zb2 [_, _, _, _] ?_; refine zB1 hS [_, _, _, _] ?_; intro b1 w1 hS; refine za Q6r u_T28 hS ?_; intro vp1 w1 css1 hls1 hv1 hS; have hS := hS.ns; refine zm ?_; refine zn ?_)
                all_goals (exact ⟨_, none, i2, _, _, zh, zh, (by rw [hdc, QK hq0]), hw.2, by assumption, by assumption, hS.sp⟩)))
    rintro ρ w1 ⟨t, m, at2, vb2, cb2, hA, hρ, ht, ha2, hlb2, hvb2, hS⟩; obtain ⟨ρ, rfl⟩ := env2 hA hρ
    all_goals (have hf9 := Q6e (by omega) ht; refine Q3 ?_; refine zm ?_; refine zm ?_; refine zR2 (c := Q57 (at0 := at2) (by omega) (by omega) hS) (h := ?_); rintro v1 w1 ⟨at3, rfl, h11, h12, h13, hS⟩; refine zm ?_; refine zn ?_; exact ⟨⟨k - 1, at3, out ++ [⟨i, t, m⟩], _, _, zh, zh, (by omega), (by omega), Q54 (by rw [show k - 1 + 1 = k by omega]; exact hd) (by omega) ht (by rw [ha2]; exact h13), (by rw [List.length_append]; show out.length + 1 ≤ at3; omega), by assumption, by assumption, hS.sp⟩, (by show ((src.length : Int) - (at3 : Int)).toNat < ((src.length : Int) - (i : Int)).toNat; omega)⟩)
  · skip
    all_goals (refine zex ?_; obtain ⟨c2, hle2, hS2, hk2⟩ := St.freezeL (r := tokR) (hS.out (r := sl 33 4 vb cb) fd) hlb rfl (by omega); clear hS; have hS := hS2; simp only [List.eraseIdx_cons_zero, List.eraseIdx_cons_succ] at hS; refine Q2 ?_; refine Q3 ?_; refine zm ?_; refine zb0 [_, _] ?_; refine zm ?_; refine zsn hS ?_; intro w1 hS; have hS := hS.ns; refine zn ?_; refine zr ?_; refine Q2B vw vw (Qh (n := 2) (by kernel_rfl) (by kernel_rfl) (hS.blkAt fd) (by rfl) (by rfl)) ?_; (first | exact ⟨_, rfl, .inr ⟨2, 40000, QR (by omega), rfl, hS.sp⟩⟩ | exact ⟨_, rfl, .inl ⟨out, c2, vb, by rw [hd, Q2M (by omega)], hle2, rfl, hk2, hS.sp⟩⟩))
end Go.Proofs.YtjecflbbcnocdaaDoor
namespace Go.Lir
def begunS : List UInt8 := [106, 117, 109, 112, 32, 45, 49, 32, 60, 62, 59, 35, 32, 120]
/-- What a scan gives: the tokens, the fault. -/
def Q21 (src : List UInt8) : List Tok × Flt := match scan src with
  | .ok l => (l, (0, 0))
  | .error f => ([], f)
theorem Q6R : Q21 begunS = ([⟨0, [106, 117, 109, 112], none⟩, ⟨5, [45, 49], some (-1)⟩, ⟨8, [60], none⟩, ⟨9, [62], none⟩, ⟨10, [59], none⟩], (0, 0)) := by kernel_rfl
end Go.Lir
namespace Go.Lir
section
variable {P : Program} {l : List GO} {Q : QT} {ρ : Env} {w : World}
/-- A field that holds an integer. -/
def IntF (P : Program) (f : Field) (i : Nat) : Prop := f.name ≠ "_" ∧ (∃ k, P.underlying f.type = some (.int k)) ∧ f.offset = i ∧ Q10 P f.type = true
theorem Q25 (k : Nat) {T : TypeId} {q : IntKind} {a b : Int} {kk : IntKind} {w0 : World} (ht : P.underlying T = some (.int q)) : (Op.equalIn (k + 1) T (.int kk a) (.int kk b)).run P w0 = .ok (a == b) w0 := by
  simp only [Op.equalIn, Sem.run_bind, Q1 P T _ w0 ht, Result.andThen_ok]
  simp [Sem.run_pure]
def intFB (P : Program) (f : Field) (i : Nat) : Bool := f.name != "_" && (match P.underlying f.type with | some (.int _) => true | _ => false) && f.offset == i && Q10 P f.type
theorem Q7B {f : Field} {i : Nat} (h : intFB P f i = true) : IntF P f i := by
  unfold intFB at h
  simp only [Bool.and_eq_true, bne_iff_ne, ne_eq, beq_iff_eq] at h
  obtain ⟨⟨⟨h1, h2⟩, h3⟩, h4⟩ := h
  refine ⟨h1, ?_, h3, h4⟩
  split at h2
  · rename_i k hk; exact ⟨k, hk⟩
  · cases h2
end
end Go.Lir
namespace Go.Lir
section
variable {P : Program} {l : List GO} {Q : QT} {ρ : Env} {w : World}
theorem run_eq2 (k : Nat) {T : TypeId} {f0 f1 : Field} {a0 a1 b0 b1 : Int} {w0 : World} (ht : P.underlying T = some (.struct #[f0, f1])) (hh : P.stoodInHeld T = false)
    (h0 : IntF P f0 0) (h1 : IntF P f1 1) :
    (Op.equalIn (k + 2) T (.agg ⟨[.int .i64 a0, .int .i64 a1]⟩) (.agg ⟨[.int .i64 b0, .int .i64 b1]⟩)).run P w0 = .ok (a0 == b0 && a1 == b1) w0 := by
  obtain ⟨n0, ⟨q0, u0⟩, o0, s0⟩ := h0
  obtain ⟨n1, ⟨q1, u1⟩, o1, s1⟩ := h1
  have hp : ∀ (T : TypeId) (cs : Array Value) (off : Nat) (v : Value) (w : World), Q10 P T = true → cs[off]? = some v → (part T cs off).run P w = .ok v w := fun T cs off v w h hv => Q6k P T cs off v w h hv
  unfold Op.equalIn
  simp only [Sem.run_bind, Q1 P T _ w0 ht, Result.andThen_ok]
  simp [hh, n0, n1, o0, o1, Q25 _ u0, Q25 _ u1, hp _ _ _ _ _ s0, hp _ _ _ _ _ s1]
  by_cases e0 : a0 = b0 <;> by_cases e1 : a1 = b1 <;> simp [e0, e1]
def Int2 (P : Program) (T : TypeId) : Prop := ∃ f0 f1 : Field, P.underlying T = some (.struct #[f0, f1]) ∧ P.stoodInHeld T = false ∧ P.eqGuardType P.depth T = false ∧ IntF P f0 0 ∧ IntF P f1 1
def int2B (P : Program) (T : TypeId) : Bool := match P.underlying T with
  | some (.struct fs) => match fs.toList with
    | [f0, f1] => !P.stoodInHeld T && !P.eqGuardType P.depth T && intFB P f0 0 && intFB P f1 1
    | _ => false
  | _ => false
theorem int2_of {T : TypeId} (h : int2B P T = true) : Int2 P T := by
  unfold int2B at h
  split at h
  · rename_i fs hu
    split at h
    · rename_i f0 f1 hf
      simp only [Bool.and_eq_true, Bool.not_eq_true'] at h
      obtain ⟨⟨⟨h1, h2⟩, h3⟩, h4⟩ := h
      have : fs = #[f0, f1] := by apply Array.ext'; exact hf
      subst this
      exact ⟨f0, f1, hu, h1, h2, Q7B h3, Q7B h4⟩
    · cases h
  · cases h
theorem pair_dec (a0 a1 b0 b1 : Int) : (a0 == b0 && a1 == b1) = decide ((a0, a1) = (b0, b1)) := by
  rw [Bool.eq_iff_iff]; simp
theorem s_ne2 {d : Nat} {T : TypeId} {x y : Operand} {a b : Int × Int} (hT : Int2 P T) (hx : ρ.ev x = .agg ⟨[.int .i64 a.1, .int .i64 a.2]⟩) (hy : ρ.ev y = .agg ⟨[.int .i64 b.1, .int .i64 b.2]⟩)
    (h : Q0 P l Q (upd ρ d (.bool (!decide (a = b)))) w) : Q0 P (⟨none, .bin d .neq T x y⟩ :: l) Q ρ w := by
  obtain ⟨f0, f1, ht, hh, hg, h0, h1⟩ := hT
  exact ⟨.bool (!decide (a = b)), fun w0 => by rw [hx, hy]; simp only [Sem.run_bind, run_eqGuard_agg w0 .neq T x y _ _ hg, Result.andThen_ok, run_neq_struct, run_eq2 9998 ht hh h0 h1, pair_dec], h⟩
theorem s_ne2_f {d : Nat} {T : TypeId} {x y : Operand} {a : Int × Int} (hT : Int2 P T) (hx : ρ.ev x = .agg ⟨[.int .i64 a.1, .int .i64 a.2]⟩) (hy : ρ.ev y = .agg ⟨[.int .i64 a.1, .int .i64 a.2]⟩)
    (h : Q0 P l Q (upd ρ d (.bool false)) w) : Q0 P (⟨none, .bin d .neq T x y⟩ :: l) Q ρ w := s_ne2 hT hx hy (by rw [decide_eq_true rfl]; exact h)
end
end Go.Lir
namespace Go.Proofs.YtjecflbbcnocdaaDoor
open Go.Lir
set_option maxHeartbeats 1000000
attribute [local irreducible] LC.wp Q0 Qv QJ retQ Q2z LO.wp Qn Calls
set_option linter.unusedSimpArgs false
set_option linter.unusedVariables false
attribute [local irreducible] skip Q22 scan tok1 Q21 backT
variable {cx : Cx} {w : World} {L : List Res}
theorem flt_int2 : Int2 Tryd.prog 25 := int2_of (by kernel_rfl)
theorem ScanS.pair {src : List UInt8} {u : Value} {w' : World} {l : List Tok} {f : Flt} (hr : Q21 src = (l, f)) (h : ScanS cx L src u w') : ∃ c' v, cx.Le c' ∧ u = .tuple #[v, .agg ⟨[.int .i64 f.1, .int .i64 f.2]⟩] ∧ tokR.sl c' v l ∧ St c' w' L := by
  unfold Q21 at hr
  rcases h with ⟨l', c', v, h1, h2, h3, h4, h5⟩ | ⟨e, n, h1, h2, h3⟩
  · rw [h1] at hr; cases hr; exact ⟨c', v, h2, h3, h4, h5⟩
  · rw [h1] at hr; cases hr; exact ⟨cx, _, St.refl h3, h2, Rep.SR.nil _ _ _, h3⟩
theorem scan_p {src : List UInt8} {l : List Tok} {f : Flt} (hr : Q21 src = (l, f)) (hT : NumK cx) (hl : src.length ≤ 100000) (hS : St cx w L) :
    Rets Tryd.prog Qx [.string ⟨src.toArray⟩] w fun u w' => ∃ c' a n, cx.Le c' ∧ u = .tuple #[.slice a l.length n, .agg ⟨[.int .i64 f.1, .int .i64 f.2]⟩] ∧ tokR.sl c' (.slice a l.length n) l ∧ St c' w' L :=
  Rets.mono (scan_c hT hl hS) fun _ _ h => by
    obtain ⟨c', v, h1, h2, h3, h4⟩ := h.pair hr
    obtain ⟨a, n, rfl⟩ := Rep.SR.shape h3
    exact ⟨c', a, n, h1, h2, h3, h4⟩
theorem rscan_p {src : List UInt8} {l : List Tok} {f : Flt} (hr : Q21 src = (l, f)) (hT : NumK cx) (hl : src.length ≤ 100000) (hS : St cx w L) :
    Rets Tryd.prog QG [.string ⟨src.toArray⟩] w fun u w' => ∃ c' a n, cx.Le c' ∧ u = .tuple #[.slice a l.length n, .agg ⟨[.int .i64 f.1, .int .i64 f.2]⟩] ∧ tokR.sl c' (.slice a l.length n) l ∧ St c' w' L :=
  Rets.mono (rscan_c hT hl hS) fun _ _ h => by
    obtain ⟨c', v, h1, h2, h3, h4⟩ := h.pair hr
    obtain ⟨a, n, rfl⟩ := Rep.SR.shape h3
    exact ⟨c', a, n, h1, h2, h3, h4⟩
theorem scan_b (hT : NumK cx) (hS : St cx w L) : Rets Tryd.prog Qx [.string ⟨begunS.toArray⟩] w fun u w' => ∃ c' a n, cx.Le c' ∧ u = .tuple #[.slice a 5 n, .agg ⟨[.int .i64 0, .int .i64 0]⟩] ∧ tokR.sl c' (.slice a 5 n) [⟨0, [106, 117, 109, 112], none⟩, ⟨5, [45, 49], some (-1)⟩, ⟨8, [60], none⟩, ⟨9, [62], none⟩, ⟨10, [59], none⟩] ∧ St c' w' L :=
  scan_p Q6R hT (by decide) hS
theorem Q51 (hT : NumK cx) (hS : St cx w L) : Rets Tryd.prog Q2v [] w fun u w' => u = .bool true ∧ St cx w' L := by
  all_goals refine Q3h ?_
  all_goals (unfold Law_tokenBegun_lc; refine Q2 ?_; refine Q3 ?_; refine zm ?_; refine zn ?_; refine Q2 ?_; refine Q3 ?_; refine zR1 (c := scan_b hT hS) (h := ?_); rintro v1 w1 ⟨c1, a1, n1, hle1, rfl, hk1, hS⟩; refine zm ?_; refine Q1M rfl rfl ?_; refine Q1M rfl rfl ?_; refine QP hS ?_; intro p2 w1 hS; refine zm ?_; refine zsn hS ?_; intro w1 hS; have hS := hS.ns; refine zn ?_; refine Q2 ?_; refine Q3 ?_; refine Qd rfl ?_; refine zl hS ?_; refine Q3P rfl rfl rfl ?_; refine zm ?_; (first | refine s_gn rfl rfl ?_ | (refine s_gy rfl ?_; refine zm ?_)); (first | refine s_gn rfl rfl ?_ | (refine s_gy rfl ?_; refine zL ?_)); (first | refine s_gn rfl rfl ?_ | (refine s_gy rfl ?_; refine Q3P rfl rfl rfl ?_)); refine zpt ?_; refine zm ?_; (first | refine s_gn rfl rfl ?_ | (refine s_gy rfl ?_; refine zm ?_)))
  all_goals (first | refine s_gn rfl rfl ?_ | (refine s_gy rfl ?_; refine QU (m := 1) rfl rfl hk1 rfl (by decide) ?_; intro b1 o1 cs1 x1 hat1 hx1 he1; cases hx1; obtain rfl := Qz he1))
  all_goals ((first | refine s_gn rfl rfl ?_ | (refine s_gy rfl ?_; (first | refine Qd rfl ?_ | refine Q3w rfl ?_))); (first | refine s_gn rfl rfl ?_ | (refine s_gy rfl ?_; (first | (refine zl hS ?_) | (refine zlk hS ?_) | (refine zlj hS ?_)))); refine zpt ?_; refine zm ?_; (first | refine s_gn rfl rfl ?_ | (refine s_gy rfl ?_; refine zm ?_)))
  all_goals (first | refine s_gn rfl rfl ?_ | (refine s_gy rfl ?_; refine QU (m := 1) rfl rfl hk1 rfl (by decide) ?_; intro b2 o2 cs2 x2 hat2 hx2 he2; cases hx2; obtain rfl := Qz he2))
  all_goals ((first | refine s_gn rfl rfl ?_ | (refine s_gy rfl ?_; (first | refine Qd rfl ?_ | refine Q3w rfl ?_))); (first | refine s_gn rfl rfl ?_ | (refine s_gy rfl ?_; (first | (refine zl hS ?_) | (refine zlk hS ?_) | (refine zlj hS ?_)))); (first | refine s_gn rfl rfl ?_ | (refine s_gy rfl ?_; refine Q3P rfl rfl rfl ?_)); refine zpt ?_; refine zm ?_; (first | refine s_gn rfl rfl ?_ | (refine s_gy rfl ?_; refine zm ?_)))
  all_goals (first | refine s_gn rfl rfl ?_ | (refine s_gy rfl ?_; refine QU (m := 4) rfl rfl hk1 rfl (by decide) ?_; intro b3 o3 cs3 x3 hat3 hx3 he3; cases hx3; obtain rfl := Qz he3))
  all_goals ((first | refine s_gn rfl rfl ?_ | (refine s_gy rfl ?_; (first | refine Qd rfl ?_ | refine Q3w rfl ?_))); (first | refine s_gn rfl rfl ?_ | (refine s_gy rfl ?_; (first | (refine zl hS ?_) | (refine zlk hS ?_)))); (first | refine s_gn rfl rfl ?_ | (refine s_gy rfl ?_; refine Q3P rfl rfl rfl ?_)); refine zpt ?_; refine zm ?_; refine zn ?_; refine zr ?_; refine zf ?_; exact ⟨_, rfl, rfl, St.weak hS.sp hle1⟩)
end Go.Proofs.YtjecflbbcnocdaaDoor
namespace Go.Proofs.YtjecflbbcnocdaaDoor
open Go.Lir
set_option maxHeartbeats 1000000
attribute [local irreducible] LC.wp Q0 Qv QJ retQ Q2z LO.wp Qn Calls
set_option linter.unusedSimpArgs false
set_option linter.unusedVariables false
attribute [local irreducible] skip Q22 scan tok1 Q21 backT
variable {cx : Cx} {w : World} {L : List Res}
theorem Q50 (src : List UInt8) (hsz : src.length ≤ 9223372036854775807) (hT : NumK cx) (hS : St cx w L) : Rets Tryd.prog Qc [.string ⟨src.toArray⟩] w fun u w' => u = .bool true ∧ St cx w' L := by
  obtain ⟨l, f, hr⟩ : ∃ l f, Q21 src = (l, f) := ⟨_, _, rfl⟩
  have hle := St.refl hS
  all_goals refine Q3s ?_
  all_goals (unfold Law_TokenScans_lc; refine Q2 ?_; refine Q3 ?_; refine zm ?_; refine zn ?_; refine Q2 ?_; refine Q2 ?_; refine Q3 ?_; refine zR0 (c := Q51 hT hS) (h := ?_); rintro v1 w1 ⟨rfl, hS⟩; refine s_not rfl ?_; refine zn ?_)
  all_goals
    first
    | (refine Qa rfl ?_ -- Qc c0
       all_goals (refine Q2 ?_; refine Q3 ?_; refine zm ?_; refine zn ?_; refine zr ?_; refine zf ?_)
       all_goals (exact ⟨_, rfl, rfl, hS.sp⟩))
    | (refine Qb rfl ?_ -- Qc c0
       all_goals refine zsk ?_)
  all_goals (refine Q2 ?_; refine Q2 ?_; refine Q3 ?_; refine zm ?_; refine Qq rfl ?_)
  all_goals (first | (refine zgtrt ?_) | (refine zgtrf ?_) | (refine Q5x rfl rfl (fun hc => ?_) (fun hc => ?_)))
  all_goals (refine zn ?_)
  all_goals
    first
    | (refine Qa rfl ?_ -- Qc c1
       all_goals (refine Q2 ?_; refine Q3 ?_; refine zm ?_; refine zn ?_; refine zr ?_; refine zf ?_)
       all_goals (exact ⟨_, rfl, rfl, hS.sp⟩))
    | (refine Qb rfl ?_ -- Qc c1
       all_goals refine zsk ?_)
  all_goals (refine Q2 ?_; refine Q3 ?_; refine zm ?_; refine zR1 (c := scan_p hr hT (by omega) hS) (h := ?_); rintro v1 w1 ⟨c1, a1, n1, hle1, rfl, hk1, hS⟩; have hT1 := hT.up hle1; refine zm ?_; refine Q1M rfl rfl ?_; refine Q1M rfl rfl ?_; refine QP hS ?_; intro p4 w1 hS; refine zm ?_; refine zsn hS ?_; intro w1 hS; have hS := hS.ns; refine zn ?_; refine Q2 ?_; refine Q3 ?_; refine zm ?_; refine zR1 (c := rscan_p hr hT1 (by omega) hS) (h := ?_); rintro v1 w1 ⟨c2, a2, n2, hle2, rfl, hk2, hS⟩; have hk1 := Rep.SR.up hk1 hle2; have hle := hle1.trans hle2; have hlen := hk2.len; refine zm ?_; refine Q1M rfl rfl ?_; refine Q1M rfl rfl ?_; refine QP hS ?_; intro p6 w1 hS; refine zm ?_; refine zsn hS ?_; intro w1 hS; have hS := hS.ns; refine zn ?_; refine Q2 ?_; refine Q2 ?_; refine Q3 ?_; refine zv hS ?_; refine zv hS ?_; refine s_ne2_f (a := f) flt_int2 rfl rfl ?_; refine zm ?_; (first | refine s_gn rfl rfl ?_ | (refine s_gy rfl ?_; refine zm ?_)); (first | refine s_gn rfl rfl ?_ | (refine s_gy rfl ?_; refine zL ?_)); (first | refine s_gn rfl rfl ?_ | (refine s_gy rfl ?_; refine zm ?_)); (first | refine s_gn rfl rfl ?_ | (refine s_gy rfl ?_; refine zL ?_)))
  all_goals (first | refine s_gn rfl rfl ?_ | (refine s_gy rfl ?_; (first | (refine Q6w ?_) | (refine Q6x ?_))))
  all_goals ((first | (refine zpt ?_) | (refine zpf ?_)); refine zn ?_)
  all_goals
    first
    | (refine Qa rfl ?_ -- Qc c2
       all_goals (refine Q2 ?_; refine Q3 ?_; refine zm ?_; refine zn ?_; refine zr ?_; refine zf ?_)
       all_goals (exact ⟨_, rfl, rfl, hS.sp⟩))
    | (refine Qb rfl ?_ -- Qc c2
       all_goals refine zsk ?_)
  all_goals (refine Q2 ?_; refine Q2 ?_; refine Q3 ?_; refine zm ?_; refine zn ?_; refine Ql ?_)
  refine zo [3, 5] (fun A ρ' w' => ∃ (j : Nat), Has ρ' A ∧ Has ρ' [(7, .int .i64 j)] ∧ (j ≤ l.length) ∧ St c2 w' (blk p6 25 [.int .i64 f.1, .int .i64 f.2] :: L)) (fun ρ' _ => (l.length - iv (ρ' 7)).toNat) ?_ ?_
  · exact ⟨0, zh, zh, (by omega), hS.sp⟩
  rintro ρ w1 ⟨j, hA, hρ, hj, hS⟩; obtain ⟨ρ, rfl⟩ := env2 hA hρ
  unfold QZ
  all_goals (refine Q2 ?_; refine Q2 ?_; refine Q3 ?_; refine zm ?_; refine zm ?_; refine zL ?_; refine Q23 rfl rfl ?_; refine zn ?_)
  refine Q2N rfl (fun hc => ?_) (fun hc => ?_)
  · skip
    all_goals (refine zsk ?_; refine Q2 ?_; refine Ql ?_; refine Q2 ?_; refine zD [(0, none), (1, none), (2, none), (3, none), (4, none), (5, none), (6, none), (7, none), (8, none), (9, none), (10, none), (11, none), (12, none), (13, none), (14, none), (15, none), (16, none), (17, none), (18, none), (19, none), (20, none), (21, none), (22, none), (23, none), (24, none), (25, none), (26, none), (27, none), (28, none), (29, none), (30, none), (31, none), (32, none), (33, none), (34, none), (35, none), (36, none), (37, none), (38, none), (39, none), (40, none), (41, none), (42, none), (43, none), (44, none), (45, none), (46, none), (47, none), (48, none), (49, some none)] ?_; have hS := hS.drew; refine zm ?_; refine zm ?_; refine zi ?_; intro b1 o1 cs1 x1 hat1 hx1 he1; (first | (obtain ⟨vp1, vr1, vb1, rfl, hp1, hr1, hb1⟩ := Q7E he1) | (obtain rfl := Qz he1)); (first | refine Qd rfl ?_ | refine Q3w rfl ?_); (first | (refine zl hS ?_) | (refine zlk hS ?_)); refine zm ?_; refine zm ?_; refine QU rfl rfl hk2 rfl (by omega) ?_; intro b7 o7 cs7 x7 hat7 hx7 he7; obtain rfl : x1 = x7 := Option.some.inj (hx1.symm.trans hx7); obtain rfl := Qz he7; (first | refine Qd rfl ?_ | refine Q3w rfl ?_); (first | (refine zl hS ?_) | (refine zlk hS ?_)))
    all_goals (first | (refine Q6w ?_) | (refine Q6x ?_))
    all_goals (refine zm ?_; (first | refine s_gn rfl rfl ?_ | (refine s_gy rfl ?_; refine zm ?_)); (first | refine s_gn rfl rfl ?_ | (refine s_gy rfl ?_; refine zm ?_)); (first | refine s_gn rfl rfl ?_ | (refine s_gy rfl ?_; refine QU rfl rfl hk1 rfl (by omega) ?_; intro b14 o14 cs14 x14 hat14 hx14 he14; obtain rfl : x1 = x14 := Option.some.inj (hx1.symm.trans hx14); obtain rfl := Qz he14)); (first | refine s_gn rfl rfl ?_ | (refine s_gy rfl ?_; (first | refine Qd rfl ?_ | refine Q3w rfl ?_))); (first | refine s_gn rfl rfl ?_ | (refine s_gy rfl ?_; (first | (refine zl hS ?_) | (refine zlk hS ?_) | (refine zlj hS ?_)))); (first | refine s_gn rfl rfl ?_ | (refine s_gy rfl ?_; refine zm ?_)); (first | refine s_gn rfl rfl ?_ | (refine s_gy rfl ?_; refine zm ?_)); (first | refine s_gn rfl rfl ?_ | (refine s_gy rfl ?_; refine QU rfl rfl hk2 rfl (by omega) ?_; intro b19 o19 cs19 x19 hat19 hx19 he19; obtain rfl : x1 = x19 := Option.some.inj (hx1.symm.trans hx19); obtain rfl := Qz he19)); (first | refine s_gn rfl rfl ?_ | (refine s_gy rfl ?_; (first | refine Qd rfl ?_ | refine Q3w rfl ?_))); (first | refine s_gn rfl rfl ?_ | (refine s_gy rfl ?_; (first | (refine zl hS ?_) | (refine zlk hS ?_) | (refine zlj hS ?_)))))
    all_goals (first | refine s_gn rfl rfl ?_ | (refine s_gy rfl ?_; refine Q5u rfl rfl ?_; rw [decide_eq_false (p := x1.text ≠ x1.text) (fun h => h rfl)]))
    all_goals ((first | (refine zpt ?_) | (refine zpf ?_)); refine zm ?_; (first | refine s_gn rfl rfl ?_ | (refine s_gy rfl ?_; refine zm ?_)); (first | refine s_gn rfl rfl ?_ | (refine s_gy rfl ?_; refine zm ?_)); (first | refine s_gn rfl rfl ?_ | (refine s_gy rfl ?_; refine QU rfl rfl hk1 rfl (by omega) ?_; intro b27 o27 cs27 x27 hat27 hx27 he27; obtain rfl : x1 = x27 := Option.some.inj (hx1.symm.trans hx27); obtain rfl := Qz he27)); (first | refine s_gn rfl rfl ?_ | (refine s_gy rfl ?_; (first | refine Qd rfl ?_ | refine Q3w rfl ?_))); (first | refine s_gn rfl rfl ?_ | (refine s_gy rfl ?_; (first | (refine zl hS ?_) | (refine zlk hS ?_) | (refine zlj hS ?_)))); (first | refine s_gn rfl rfl ?_ | (refine s_gy rfl ?_; refine zm ?_)); (first | refine s_gn rfl rfl ?_ | (refine s_gy rfl ?_; refine zm ?_)); (first | refine s_gn rfl rfl ?_ | (refine s_gy rfl ?_; refine QU rfl rfl hk2 rfl (by omega) ?_; intro b32 o32 cs32 x32 hat32 hx32 he32; obtain rfl : x1 = x32 := Option.some.inj (hx1.symm.trans hx32); obtain rfl := Qz he32)); (first | refine s_gn rfl rfl ?_ | (refine s_gy rfl ?_; (first | refine Qd rfl ?_ | refine Q3w rfl ?_))); (first | refine s_gn rfl rfl ?_ | (refine s_gy rfl ?_; (first | (refine zl hS ?_) | (refine zlk hS ?_) | (refine zlj hS ?_)))); (first | refine s_gn rfl rfl ?_ | (refine s_gy rfl ?_; refine s_bne_f (by kernel_rfl) rfl rfl rfl ?_)); (first | (refine zpt ?_) | (refine zpf ?_)))
    all_goals (refine zm ?_; (first | refine s_gn rfl rfl ?_ | (refine s_gy rfl ?_; refine zm ?_)); (first | refine s_gn rfl rfl ?_ | (refine s_gy rfl ?_; refine zm ?_)); (first | refine s_gn rfl rfl ?_ | (refine s_gy rfl ?_; refine QU rfl rfl hk1 rfl (by omega) ?_; intro b40 o40 cs40 x40 hat40 hx40 he40; obtain rfl : x1 = x40 := Option.some.inj (hx1.symm.trans hx40); obtain rfl := Qz he40)); (first | refine s_gn rfl rfl ?_ | (refine s_gy rfl ?_; (first | refine Qd rfl ?_ | refine Q3w rfl ?_))); (first | refine s_gn rfl rfl ?_ | (refine s_gy rfl ?_; (first | (refine zl hS ?_) | (refine zlk hS ?_) | (refine zlj hS ?_)))); (first | refine s_gn rfl rfl ?_ | (refine s_gy rfl ?_; refine zm ?_)); (first | refine s_gn rfl rfl ?_ | (refine s_gy rfl ?_; refine zm ?_)); (first | refine s_gn rfl rfl ?_ | (refine s_gy rfl ?_; refine QU rfl rfl hk2 rfl (by omega) ?_; intro b45 o45 cs45 x45 hat45 hx45 he45; obtain rfl : x1 = x45 := Option.some.inj (hx1.symm.trans hx45); obtain rfl := Qz he45)); (first | refine s_gn rfl rfl ?_ | (refine s_gy rfl ?_; (first | refine Qd rfl ?_ | refine Q3w rfl ?_))); (first | refine s_gn rfl rfl ?_ | (refine s_gy rfl ?_; (first | (refine zl hS ?_) | (refine zlk hS ?_) | (refine zlj hS ?_)))))
    all_goals (first | refine s_gn rfl rfl ?_ | (refine s_gy rfl ?_; (first | (refine Q6w ?_) | (refine Q6x ?_))))
    all_goals ((first | (refine zpt ?_) | (refine zpf ?_)); refine zn ?_)
    all_goals
      first
      | (refine Qa rfl ?_ -- Qc c4
         all_goals (refine Q2 ?_; refine Q3 ?_; refine zm ?_; refine zn ?_; refine zr ?_; refine zf ?_)
         all_goals (exact ⟨_, rfl, rfl, hS.sp⟩))
      | (refine Qb rfl ?_ -- Qc c4
         all_goals refine zsk ?_)
    all_goals (refine Q3 ?_; refine zm ?_; refine zad ?_; refine zm ?_; refine zn ?_; exact ⟨⟨j + 1, zh, zh, (by omega), hS.sp⟩, Q2b (by omega)⟩)
  · skip
    all_goals (refine zex ?_; refine Q2 ?_; refine Q3 ?_; refine zm ?_; refine zn ?_; refine zr ?_; refine zf ?_; (first | exact ⟨_, rfl, rfl, hS.sp⟩ | exact ⟨_, rfl, rfl, St.weak hS.sp hle⟩))
end Go.Proofs.YtjecflbbcnocdaaDoor
namespace Go.Proofs.YtjecflbbcnocdaaDoor
open Go.Lir
theorem tokenScans_rd {w : World} (hT : NumK (Cx.top w)) (s : ByteArray) (h : s.size ≤ maxLen) : Rets Tryd.prog Qc [.string s] w fun v w' => v = .bool true ∧ Fr NF w w' :=
  Rets.mono (Q50 (cx := Cx.top w) s.data.toList (by have h : s.data.size ≤ 2 ^ 63 - 1 := h; rw [Array.length_toList]; omega) hT (St.top w)) fun _ _ ⟨h, h2⟩ => ⟨h, h2.fr⟩
end Go.Proofs.YtjecflbbcnocdaaDoor
namespace Go.Proofs.YtjecflbbcnocdaaDoor
open Go.Lir
abbrev laid3 : List (String × DataW Unit) := [("math/bits.deBruijn32tab", Rows.laid_math_bits_deBruijn32tab), ("math/bits.deBruijn64tab", Rows.laid_math_bits_deBruijn64tab), ("internal/strconv.uint64pow10", Rows.laid_internal_strconv_uint64pow10), ("strconv.ErrRange", Rows.laid_strconv_ErrRange), ("strconv.ErrSyntax", Rows.laid_strconv_ErrSyntax)]
theorem door_met (os : Os) (args : Array Value) : laidMetH Tryd.prog laid3 ((World.doorLaid Tryd.prog 2000 os).forCall (fun _ _ => 0) ⟨#[], args, []⟩).memory :=
  laidMetH_of_parts3 (fuel := 8) (laidMet_of_run' 8 (by kernel_rfl) (by kernel_rfl)) (by kernel_rfl) (by kernel_rfl)
theorem pow_lit : (Rows.laid_internal_strconv_uint64pow10 : DataW Unit) = Lib.tabData .u64 Lib.pow10Tab := by kernel_rfl
theorem err_row (u : TypeId) (h : Tryd.prog.typeName? 3 u = some "*errors.errorString") : u = 156 :=
  typeName_ptr_named (nm := "errors.errorString") (by rw [show "*" ++ "errors.errorString" = "*errors.errorString" by decide]; kernel_rfl) (by kernel_rfl) (by decide) u (by rw [show "*" ++ "errors.errorString" = "*errors.errorString" by decide]; exact h)
theorem err_of {W : World} {n : String} {g : Nat} {text : List UInt8} {r : List (String × DataW Unit)} (hg : Tryd.prog.globalNamed n = some g) (ht : (Tryd.prog.globals[g]?).map (·.type) = some 77) (hlt : g < W.heap.size) (h : laidMet Tryd.prog ((n, .iface "*errors.errorString" (.ptr (.agg [.lit (.string text)]))) :: r) W) : ErrV (Cx.top W) g := by
  obtain ⟨a, s, hv, _⟩ := laid_sentinel h hg ht Tryd.underlying77 err_row Tryd.underlying156 Tryd.underlying158 rfl rfl Tryd.underlying9 (by kernel_rfl) (by kernel_rfl)
  refine ⟨hlt, fun w hw => ⟨.iface 156 (.pointer (some a)), ?_, .inr ⟨_, _, rfl⟩⟩⟩
  have hw2 : w.heap[g]? = W.heap[g]? := hw
  have h2 : w.var? Tryd.prog n = some #[.iface 156 (.pointer (some a))] := by
    unfold World.var? at hv ⊢
    rw [hg] at hv ⊢
    simp only [Option.bind_some] at hv ⊢
    rw [hw2]; exact hv
  exact World.var?_cell hg h2 0
theorem big_of {W : World} {n : String} {g : Nat} {x : DataW Unit} {r : List (String × DataW Unit)} (hg : Tryd.prog.globalNamed n = some g) (h : laidMet Tryd.prog ((n, x) :: r) W) : g < W.heap.size := by
  obtain ⟨ps, ⟨g0, t0, cs0, f0, p0, q0, hg0, ht0, hv0, hd0, _, e0⟩, _, hrows⟩ := h
  obtain rfl := Option.some.inj (hg.symm.trans hg0)
  rcases Nat.lt_or_ge g W.heap.size with h' | h'
  · exact h'
  · unfold World.var? at hv0
    rw [hg] at hv0
    simp only [Option.bind_some, Array.getElem?_eq_none h'] at hv0
    cases hv0
/-- What the numbers' texts need lies in what is only read. -/
theorem pow_of {W : World} (h : laidMetH Tryd.prog laid3 W) : NumK (Cx.top W) := by
  rw [MakeChecks.laidMetH_plain _ _ _ (by kernel_rfl)] at h
  have h2 := h.tail.tail
  have h3 := h2.tail
  rw [pow_lit] at h2
  exact ⟨TabK.top (Lib.tabIs_of_head (g := 3) (t := 150) (e := 124) (n := 20) (by kernel_rfl) (by kernel_rfl) (by kernel_rfl) (by kernel_rfl) (by kernel_rfl) (by kernel_rfl) h2), err_of (g := 1) (by kernel_rfl) (by kernel_rfl) (big_of (by kernel_rfl) h3.tail) h3.tail, err_of (g := 2) (by kernel_rfl) (by kernel_rfl) (big_of (by kernel_rfl) h3) h3⟩
end Go.Proofs.YtjecflbbcnocdaaDoor
