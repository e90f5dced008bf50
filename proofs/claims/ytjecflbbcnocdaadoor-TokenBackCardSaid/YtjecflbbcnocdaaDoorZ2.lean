/- Lemmas of the proof, part 2: what the functions of the program do (contracts), and what follows. -/
import Derived.Test.YtjecflbbcnocdaaDoorZ1
import Derived.Shelf.Small.Strs
import Derived.Shelf.LaysM
import Derived.Shelf.Strconv.Itoa3
import Derived.Shelf.Strconv.ParseIntEmpty
import Derived.Shelf.Strconv.Clone
import Derived.Shelf.Strconv.SyntaxError
import Derived.Shelf.LaysC
import Derived.Shelf.Strconv.ToError
import Derived.Shelf.Strconv.Lower
import Derived.Shelf.Strconv.ParseUint10
import Derived.Shelf.Strconv.ParseUint10Empty
import Derived.Shelf.Strconv.ParseUint10Any
import Derived.Shelf.Strconv.ParseInt10
import Derived.Shelf.Strconv.RangeError
import Derived.Shelf.Strconv.ToErrorRange
import Derived.Shelf.Strconv.ParseUintEmpty
import Derived.Shelf.Strconv.ParseUint10b64
import Derived.Shelf.Strconv.ParseUint10b32
import Derived.Shelf.Strconv.ParseUint10b16
import Derived.Shelf.Strconv.ParseUint10b8
import Derived.Shelf.Strconv.ParseUint10At
import Derived.Shelf.Strconv.ParseInt10At64
import Derived.Shelf.Strconv.ParseInt10At32
import Derived.Shelf.Strconv.ParseInt10At16
import Derived.Shelf.Strconv.ParseInt10At8
import Derived.Shelf.Strconv.ParseInt10All
import Derived.Shelf.Strconv.ParseIntPublic10
import Derived.Shelf.Strings.Search1
import Derived.Test.YtjecflbbcnocdaaDoorProg
import Derived.Lib.ParseIntB
import Derived.Lib.ItoaLen
import Derived.Lib.Strings
import Derived.Lib.LaidTab
import Derived.Laws.Concat
import Derived.Below
import Derived.Sort.Grow
import Derived.Deep.Draws
import Derived.Lib.ParseIntBTie
import Derived.Test.YtjecflbbcnocdaaDoorRows
import Derived.ProofKit
import Derived.LaidMore
import Derived.OpenShut
import Derived.Stop.LaidErr
import Derived.MakeChecks
namespace Go.Lir
set_option linter.unusedVariables false
/-- What is left to be shown, apart from what is known. -/
structure Bx (K : Prop) : Prop where
  o : K
section
variable {K G : Prop}
theorem zn (k : K) (h : Bx K → G := by
  intro K9
  refine s_nil ?_
  (repeat (first | refine Q6a ?_ | refine Q4y ?_))
  exact K9.o) : G := h ⟨k⟩
theorem zsk (k : K) (h : Bx K → G := by
  intro K9
  refine s_skip ?_
  (repeat (first | refine Q6a ?_ | refine Q4y ?_))
  exact K9.o) : G := h ⟨k⟩
theorem zex (k : K) (h : Bx K → G := by
  intro K9
  refine s_exit ?_
  (repeat (first | refine s_exitQ ?_ | refine s_exitT ?_ | refine s_exitB rfl ?_ | refine Q6a ?_ | refine Q4y ?_))
  exact K9.o) : G := h ⟨k⟩
theorem zr (k : K) (h : Bx K → G := by
  intro K9
  refine s_ret ?_
  (repeat (first | refine s_retT ?_ | refine s_retB ?_))
  exact K9.o) : G := h ⟨k⟩
end
section
variable {P : Program} {l : List GO} {Q : QT} {ρ : Env} {w : World} {c : Cx} {L : List Res} {i : Nat} {T es : Nat} {v : Value} {css : List (List Value)}
theorem St.ns {L' : List Res} (h : St c w L) (e : L = L' := by (conv => lhs; simp only [List.set_cons_zero, List.set_cons_succ]); first | done | exact rfl) : St c w L' := e ▸ h
theorem zm {d : Nat} {x : Operand} {v : Value} (h : Q0 P l Q (upd ρ d v) w) (hx : ρ.ev x = v := by (conv => lhs; whnf); first | done | exact rfl) : Q0 P (⟨none, .mov d x⟩ :: l) Q ρ w := s_mov hx h
theorem zpt {d : Nat} {c x y : Operand} {v : Value} (h : Q0 P l Q (upd ρ d v) w) (hc : ρ.ev c = .bool true := by exact rfl) (hx : ρ.ev x = v := by (conv => lhs; whnf); first | done | exact rfl) : Q0 P (⟨none, .pick d c x y⟩ :: l) Q ρ w := s_pick_t hc hx h
theorem zpf {d : Nat} {c x y : Operand} {v : Value} (h : Q0 P l Q (upd ρ d v) w) (hc : ρ.ev c = .bool false := by exact rfl) (hx : ρ.ev y = v := by (conv => lhs; whnf); first | done | exact rfl) : Q0 P (⟨none, .pick d c x y⟩ :: l) Q ρ w := s_pick_f hc hx h
theorem zl {d : Nat} {x : Operand} {b o : Nat} {cs : List Value} {u : Value} (hS : St c w L) (h : Q0 P l Q (upd ρ d u) w) (hx : ρ.ev x = .pointer (some ⟨b, o, none⟩) := by exact rfl) (hi : nth L i = some (blk b T cs) := by exact NthP.nth (by repeat constructor)) (hu : cs[o]? = some u := by exact rfl) : Q0 P (⟨none, .load1 d x⟩ :: l) Q ρ w := s_loadB hS hx hi hu h
theorem zlk {d : Nat} {x : Operand} {b o : Nat} {cs : List Value} {u : Value} (hS : St c w L) (h : Q0 P l Q (upd ρ d u) w) (ha : AtK c b o cs := by assumption) (hx : ρ.ev x = .pointer (some ⟨b, o, none⟩) := by exact rfl) (hu : cs[0]? = some u := by exact rfl) : Q0 P (⟨none, .load1 d x⟩ :: l) Q ρ w := s_loadK hS ha hx hu h
theorem zlj {d : Nat} {x : Operand} {b o j : Nat} {cs : List Value} {u : Value} (hS : St c w L) (h : Q0 P l Q (upd ρ d u) w) (ha : AtK c b o cs := by assumption) (hx : ρ.ev x = .pointer (some ⟨b, o + j, none⟩) := by exact rfl) (hu : cs[j]? = some u := by exact rfl) : Q0 P (⟨none, .load1 d x⟩ :: l) Q ρ w := s_loadKj hS ha hx hu h
theorem zv {d n : Nat} {x : Operand} {b o : Nat} {cs us : List Value} (hS : St c w L) (h : Q0 P l Q (upd ρ d (.agg ⟨us⟩)) w) (hx : ρ.ev x = .pointer (some ⟨b, o, none⟩) := by exact rfl) (hi : nth L i = some (blk b T cs) := by exact NthP.nth (by repeat constructor)) (hu : (cs.drop o).take n = us := by exact rfl) (hl : us.length = n := by exact rfl) : Q0 P (⟨none, .loadn d n x⟩ :: l) Q ρ w := s_loadnB hS hx hi hu hl h
theorem zad {d : Nat} {T : TypeId} {x y : Operand} {a b : Int} (h : Q0 P l Q (upd ρ d (.int .i64 (a + b))) w) (hx : ρ.ev x = .int .i64 a := by exact rfl) (hy : ρ.ev y = .int .i64 b := by exact rfl) (h1 : -9223372036854775808 ≤ a + b := by omega) (h2 : a + b ≤ 9223372036854775807 := by omega) : Q0 P (⟨none, .bin d .add T x y⟩ :: l) Q ρ w := s_add hx hy h1 h2 h
theorem zlsst {d : Nat} {T : TypeId} {x y : Operand} {k : IntKind} {a b : Int} (h : Q0 P l Q (upd ρ d (.bool true)) w) (hx : ρ.ev x = .int k a := by exact rfl) (hy : ρ.ev y = .int k b := by exact rfl) (hp : a < b := by omega) : Q0 P (⟨none, .bin d .lss T x y⟩ :: l) Q ρ w := s_lss_t hx hy hp h
theorem zlssf {d : Nat} {T : TypeId} {x y : Operand} {k : IntKind} {a b : Int} (h : Q0 P l Q (upd ρ d (.bool false)) w) (hx : ρ.ev x = .int k a := by exact rfl) (hy : ρ.ev y = .int k b := by exact rfl) (hp : ¬ (a < b) := by omega) : Q0 P (⟨none, .bin d .lss T x y⟩ :: l) Q ρ w := s_lss_f hx hy hp h
theorem Q5A {d : Nat} {T : TypeId} {x y : Operand} {k : IntKind} {a b : Int} (h : Q0 P l Q (upd ρ d (.bool true)) w) (hx : ρ.ev x = .int k a := by exact rfl) (hy : ρ.ev y = .int k b := by exact rfl) (hp : a = b := by omega) : Q0 P (⟨none, .bin d .eql T x y⟩ :: l) Q ρ w := Q2L hx hy hp h
theorem Q5B {d : Nat} {T : TypeId} {x y : Operand} {k : IntKind} {a b : Int} (h : Q0 P l Q (upd ρ d (.bool false)) w) (hx : ρ.ev x = .int k a := by exact rfl) (hy : ρ.ev y = .int k b := by exact rfl) (hp : ¬ (a = b) := by omega) : Q0 P (⟨none, .bin d .eql T x y⟩ :: l) Q ρ w := s_eql_f hx hy hp h
theorem Q5x {d : Nat} {T : TypeId} {x y : Operand} {k : IntKind} {a b : Int} (h : Q0 P l Q (upd ρ d (.bool true)) w) (hx : ρ.ev x = .int k a := by exact rfl) (hy : ρ.ev y = .int k b := by exact rfl) (hp : a ≠ b := by omega) : Q0 P (⟨none, .bin d .neq T x y⟩ :: l) Q ρ w := s_neq_t hx hy hp h
theorem Q5y {d : Nat} {T : TypeId} {x y : Operand} {k : IntKind} {a b : Int} (h : Q0 P l Q (upd ρ d (.bool false)) w) (hx : ρ.ev x = .int k a := by exact rfl) (hy : ρ.ev y = .int k b := by exact rfl) (hp : ¬ (a ≠ b) := by omega) : Q0 P (⟨none, .bin d .neq T x y⟩ :: l) Q ρ w := s_neq_f hx hy hp h
theorem zgtrt {d : Nat} {T : TypeId} {x y : Operand} {k : IntKind} {a b : Int} (h : Q0 P l Q (upd ρ d (.bool true)) w) (hx : ρ.ev x = .int k a := by exact rfl) (hy : ρ.ev y = .int k b := by exact rfl) (hp : b < a := by omega) : Q0 P (⟨none, .bin d .gtr T x y⟩ :: l) Q ρ w := s_gtr_t hx hy hp h
theorem zgtrf {d : Nat} {T : TypeId} {x y : Operand} {k : IntKind} {a b : Int} (h : Q0 P l Q (upd ρ d (.bool false)) w) (hx : ρ.ev x = .int k a := by exact rfl) (hy : ρ.ev y = .int k b := by exact rfl) (hp : ¬ (b < a) := by omega) : Q0 P (⟨none, .bin d .gtr T x y⟩ :: l) Q ρ w := s_gtr_f hx hy hp h
theorem zgeqt {d : Nat} {T : TypeId} {x y : Operand} {k : IntKind} {a b : Int} (h : Q0 P l Q (upd ρ d (.bool true)) w) (hx : ρ.ev x = .int k a := by exact rfl) (hy : ρ.ev y = .int k b := by exact rfl) (hp : b ≤ a := by omega) : Q0 P (⟨none, .bin d .geq T x y⟩ :: l) Q ρ w := s_geq_t hx hy hp h
theorem zgeqf {d : Nat} {T : TypeId} {x y : Operand} {k : IntKind} {a b : Int} (h : Q0 P l Q (upd ρ d (.bool false)) w) (hx : ρ.ev x = .int k a := by exact rfl) (hy : ρ.ev y = .int k b := by exact rfl) (hp : ¬ (b ≤ a) := by omega) : Q0 P (⟨none, .bin d .geq T x y⟩ :: l) Q ρ w := s_geq_f hx hy hp h
theorem zleqt {d : Nat} {T : TypeId} {x y : Operand} {k : IntKind} {a b : Int} (h : Q0 P l Q (upd ρ d (.bool true)) w) (hx : ρ.ev x = .int k a := by exact rfl) (hy : ρ.ev y = .int k b := by exact rfl) (hp : a ≤ b := by omega) : Q0 P (⟨none, .bin d .leq T x y⟩ :: l) Q ρ w := s_leq_t hx hy hp h
theorem zleqf {d : Nat} {T : TypeId} {x y : Operand} {k : IntKind} {a b : Int} (h : Q0 P l Q (upd ρ d (.bool false)) w) (hx : ρ.ev x = .int k a := by exact rfl) (hy : ρ.ev y = .int k b := by exact rfl) (hp : ¬ (a ≤ b) := by omega) : Q0 P (⟨none, .bin d .leq T x y⟩ :: l) Q ρ w := s_leq_f hx hy hp h
theorem zst {x y : Operand} {b o : Nat} {cs : List Value} {u : Value} (hS : St c w L) (h : ∀ w', St c w' (L.set i (blk b T (cs.set o u))) → Q0 P l Q ρ w') (hx : ρ.ev x = .pointer (some ⟨b, o, none⟩) := by exact rfl) (hy : ρ.ev y = u := by (conv => lhs; whnf); first | done | exact rfl) (hi : nth L i = some (blk b T cs) := by exact NthP.nth (by repeat constructor)) (ho : o < cs.length := by simp) (h1 : oneC u = true := by first | rfl | assumption | exact hS.oneC (NthP.nth (by repeat constructor)) | exact SlR.oneC (by assumption)) : Q0 P (⟨none, .store1 x y⟩ :: l) Q ρ w := s_storeB hS hx hy hi ho h1 h
theorem zb {d : Nat} {x : Operand} {cs : List Value} (hS : St c w L) (h : ∀ b w', St c w' (blk b T cs :: L) → Q0 P l Q (upd ρ d (.pointer (some ⟨b, 0, none⟩))) w') (hx : ρ.ev x = v := by (conv => lhs; whnf); first | done | exact rfl) (hc : v.cells = ⟨cs⟩ := by rfl) : Q0 P (⟨none, .box d T x⟩ :: l) Q ρ w := s_boxB hS hx hc h
theorem zsn {n i b T : Nat} {x y : Operand} {cs us : List Value} (hS : St c w L) (h : ∀ w', St c w' (L.set i (blk b T us)) → Q0 P l Q ρ w') (hx : ρ.ev x = .pointer (some ⟨b, 0, none⟩) := by exact rfl) (hy : ρ.ev y = .agg ⟨us⟩ := by exact rfl) (hn : us.length = n := by rfl) (hi : nth L i = some (blk b T cs) := by exact NthP.nth (by repeat constructor)) (hc : cs.length = n := by rfl) (h1 : ∀ u ∈ us, oneC u = true := by first | (simp [oneC]; done) | assumption | exact Rep.one _ (by assumption) | (simp only [List.take_succ_cons, List.take_zero, List.drop_zero, List.mem_cons, List.not_mem_nil, or_false, forall_eq_or_imp, forall_eq]; ((try refine And.intro ?_ ?_) <;> try refine And.intro ?_ ?_) <;> first | rfl | assumption)) : Q0 P (⟨none, .storen n x y⟩ :: l) Q ρ w := Q6b hS hx hy hn hi hc h1 h
theorem zf {t : Nat} {R : Ending → World → Prop} {v : Value} (h : R (.returned v) w) (hv : ρ t = v := by (conv => lhs; whnf); first | done | exact rfl) : retQ P [.tmp t] R .ret ρ w := q_ret1 hv h
theorem zb0 {d : Nat} {z : List Value} (cs : List Value) (h : Q0 P l Q (upd ρ d (.agg ⟨cs⟩)) w) (hf : Q1f z [] = some cs := by rfl) : Q0 P (⟨none, .build d z []⟩ :: l) Q ρ w := s_build0  hf h
theorem zb1 {d : Nat} {z : List Value} {o0 n0 : Nat} {x0 : Operand} {v0 : Value} (cs : List Value) (h : Q0 P l Q (upd ρ d (.agg ⟨cs⟩)) w) (h0 : ρ.ev x0 = v0 := by (conv => lhs; whnf); first | done | exact rfl) (hf : Q1f z [(o0, n0, v0)] = some cs := by rfl) : Q0 P (⟨none, .build d z [(o0, n0, x0)]⟩ :: l) Q ρ w := s_build1 h0 hf h
theorem zB1 {d : Nat} {T : TypeId} {n : Nat} {z : List Value} {o0 n0 : Nat} {x0 : Operand} {v0 : Value} (hS : St c w L) (cs : List Value) (h : ∀ b w', St c w' (blk b T cs :: L) → Q0 P l Q (upd ρ d (.slice (some ⟨b, 0, none⟩) n n)) w') (h0 : ρ.ev x0 = v0 := by (conv => lhs; whnf); first | done | exact rfl) (hf : Q1f z [(o0, n0, v0)] = some cs := by rfl) : Q0 P (⟨none, .buildS d T n z [(o0, n0, x0)]⟩ :: l) Q ρ w := Q6h h0 hf fun b w' hb hf1 _ hk => h b w' (hS.laid hb hf1 hk)
theorem zb2 {d : Nat} {z : List Value} {o0 n0 : Nat} {x0 : Operand} {v0 : Value} {o1 n1 : Nat} {x1 : Operand} {v1 : Value} (cs : List Value) (h : Q0 P l Q (upd ρ d (.agg ⟨cs⟩)) w) (h0 : ρ.ev x0 = v0 := by (conv => lhs; whnf); first | done | exact rfl) (h1 : ρ.ev x1 = v1 := by (conv => lhs; whnf); first | done | exact rfl) (hf : Q1f z [(o0, n0, v0), (o1, n1, v1)] = some cs := by rfl) : Q0 P (⟨none, .build d z [(o0, n0, x0), (o1, n1, x1)]⟩ :: l) Q ρ w := s_build2 h0 h1 hf h
theorem zb4 {d : Nat} {z : List Value} {o0 n0 : Nat} {x0 : Operand} {v0 : Value} {o1 n1 : Nat} {x1 : Operand} {v1 : Value} {o2 n2 : Nat} {x2 : Operand} {v2 : Value} {o3 n3 : Nat} {x3 : Operand} {v3 : Value} (cs : List Value) (h : Q0 P l Q (upd ρ d (.agg ⟨cs⟩)) w) (h0 : ρ.ev x0 = v0 := by (conv => lhs; whnf); first | done | exact rfl) (h1 : ρ.ev x1 = v1 := by (conv => lhs; whnf); first | done | exact rfl) (h2 : ρ.ev x2 = v2 := by (conv => lhs; whnf); first | done | exact rfl) (h3 : ρ.ev x3 = v3 := by (conv => lhs; whnf); first | done | exact rfl) (hf : Q1f z [(o0, n0, v0), (o1, n1, v1), (o2, n2, v2), (o3, n3, v3)] = some cs := by rfl) : Q0 P (⟨none, .build d z [(o0, n0, x0), (o1, n1, x1), (o2, n2, x2), (o3, n3, x3)]⟩ :: l) Q ρ w := s_build4 h0 h1 h2 h3 hf h
theorem zD {gs : List GO} {es : List (List Nat)} (C : List CI) (h : Q0 P (C.map fun c => gat gs c.1) Q ρ w.drew) (hok : Q4W gs es C = true := by kernel_rfl) (hpl : (C.all fun c => match c.2 with | some (some _) => false | _ => true) = true := by kernel_rfl) : (LC.draw gs es).wp P Q ρ w := s_draw C hok hpl h
theorem zR0 {d : Nat} {f : FuncId} {S : Value → World → Prop} (c : Rets P f [] w S) (h : ∀ v w', S v w' → Q0 P l Q (upd ρ d v) w') : Q0 P (⟨none, .call (some d) f []⟩ :: l) Q ρ w := s_rets_0  c h
theorem zR1 {d : Nat} {f : FuncId} {x0 : Operand} {u0 : Value} {S : Value → World → Prop} (h0 : ρ.ev x0 = u0 := by (conv => lhs; whnf); first | done | exact rfl) (c : Rets P f [u0] w S) (h : ∀ v w', S v w' → Q0 P l Q (upd ρ d v) w') : Q0 P (⟨none, .call (some d) f [x0]⟩ :: l) Q ρ w := s_rets_1 h0 c h
theorem zR2 {d : Nat} {f : FuncId} {x0 x1 : Operand} {u0 u1 : Value} {S : Value → World → Prop} (h0 : ρ.ev x0 = u0 := by (conv => lhs; whnf); first | done | exact rfl) (h1 : ρ.ev x1 = u1 := by (conv => lhs; whnf); first | done | exact rfl) (c : Rets P f [u0, u1] w S) (h : ∀ v w', S v w' → Q0 P l Q (upd ρ d v) w') : Q0 P (⟨none, .call (some d) f [x0, x1]⟩ :: l) Q ρ w := s_rets_2 h0 h1 c h
theorem zR3 {d : Nat} {f : FuncId} {x0 x1 x2 : Operand} {u0 u1 u2 : Value} {S : Value → World → Prop} (h0 : ρ.ev x0 = u0 := by (conv => lhs; whnf); first | done | exact rfl) (h1 : ρ.ev x1 = u1 := by (conv => lhs; whnf); first | done | exact rfl) (h2 : ρ.ev x2 = u2 := by (conv => lhs; whnf); first | done | exact rfl) (c : Rets P f [u0, u1, u2] w S) (h : ∀ v w', S v w' → Q0 P l Q (upd ρ d v) w') : Q0 P (⟨none, .call (some d) f [x0, x1, x2]⟩ :: l) Q ρ w := s_rets_3 h0 h1 h2 c h
variable {α : Type} {r : Rep α} {xs : List α}
theorem zL {d : Nat} {x : Operand} (h : Q0 P l Q (upd ρ d (.int .i64 xs.length)) w) (hx : ρ.ev x = v := by (conv => lhs; whnf); first | done | exact rfl) (hK : r.sl c v xs := by assumption) : Q0 P (⟨none, .len d x⟩ :: l) Q ρ w := s_lenL hx hK h
theorem zi {d m : Nat} {x y : Operand} {k : IntKind} (h : ∀ b o cs a, AtK c b o cs → xs[m]? = some a → r.at c cs a → Q0 P l Q (upd ρ d (.pointer (some ⟨b, o, none⟩))) w) (hx : ρ.ev x = v := by (conv => lhs; whnf); first | done | exact rfl) (hy : ρ.ev y = .int k (m : Int) := by exact rfl) (hK : r.sl c v xs := by assumption) (hes : r.es = es := by exact rfl) (hn : m < xs.length := by first | omega | (simp; omega)) : Q0 P (⟨none, .idx d es x y⟩ :: l) Q ρ w := QS hx hy hK hes hn h
theorem za {T T' d Ts Ts2 Ty nb i k b : Nat} {z : List Value} {x y : Operand} {ds : List Value} {css : List (List Value)} {a : α} (hel : Q3d P Ts = some (T, es, nb, z)) (hts : ∃ e2, P.underlying Ts2 = some (.slice e2)) (hS : St c w L) (h : ∀ v' w' css', r.ls c css' (xs ++ [a]) → oneC v' = true → St c w' (L.set i (Go.Lir.sl T es v' css')) → Q0 P l Q (upd ρ d v') w') (hx : ρ.ev x = v := by (conv => lhs; whnf); first | done | exact rfl) (hy : ρ.ev y = .slice (some ⟨b, 0, none⟩) 1 1 := by (conv => lhs; whnf); first | done | exact rfl) (hi : nth L i = some (Go.Lir.sl T es v css) := by exact NthP.nth (by repeat constructor)) (hk : nth L k = some (blk b T' ds) := by exact NthP.nth (by repeat constructor)) (hls : r.ls c css xs := by assumption) (ha : r.at c ds a := by first | assumption | exact rfl) (hes : r.es = es := by exact rfl) (hb : (xs.length + 1) * nb ≤ 140737488355328 := by first | omega | (simp only [List.length_take]; omega) | (simp; omega)) : Q0 P (⟨none, .raw ⟨some d, .call ⟨.builtin .append, #[x, y], #[Ts, Ts2]⟩, Ty, "", #[], none⟩⟩ :: l) Q ρ w := s_appR1 hel hts hS hx hy hi hk hls ha hes hb h
def evs (ρ : Env) (ts : List Nat) : List (Nat × Value) := ts.map fun t => (t, ρ t)
theorem evs_n (ρ : Env) : evs ρ [] = [] := rfl
theorem evs_c {t : Nat} {ts : List Nat} {u : Value} {A : List (Nat × Value)} (h : ρ t = u) (h2 : evs ρ ts = A) : evs ρ (t :: ts) = (t, u) :: A := by subst h h2; rfl
theorem zh {A : List (Nat × Value)} (h : Has ρ A := by repeat' (first | exact trivial | refine And.intro rfl ?_)) : Has ρ A := h
theorem env2 {A B : List (Nat × Value)} (h : Has ρ A) (h2 : Has ρ B) : ∃ ρ', ρ = updl (updl ρ' B) A := ⟨ρ, by rw [Q4H h2, Q4H h]⟩
theorem zo {a : LC} (ts : List Nat) {A : List (Nat × Value)} (I : List (Nat × Value) → Env → World → Prop) (μ : Env → World → Nat) (h0 : I A ρ w) (h : ∀ ρ w, I A ρ w → a.wp P (Qw (fun ρ' w' => I A ρ' w' ∧ μ ρ' w' < μ ρ w) Q) ρ w) (hA : evs ρ ts = A := by (repeat (apply evs_c; · ((conv => lhs; whnf); first | done | exact rfl))); exact evs_n _) : (LC.loop a).wp P Q ρ w := s_loop (I A) μ h0 h
theorem zM {a b : LC} (ts : List Nat) {A : List (Nat × Value)} (I : List (Nat × Value) → Env → World → Prop) (ha : a.wp P (Qw (I A) Q) ρ w) (hb : ∀ ρ w, I A ρ w → b.wp P Q ρ w) (hA : evs ρ ts = A := by (repeat (apply evs_c; · ((conv => lhs; whnf); first | done | exact rfl))); exact evs_n _) : (LC.seq a b).wp P Q ρ w := s_mid (I A) ha hb
theorem zoL {a : LC} (hS : St c w L) (ts : List Nat) {A : List (Nat × Value)} (I : List (Nat × Value) → List Res → Env → World → Prop) (μ : Env → World → Nat) (h0 : I A L ρ w) (h : ∀ ρ w, I A L ρ w → a.wp P (Qw (fun ρ' w' => I A L ρ' w' ∧ μ ρ' w' < μ ρ w) Q) ρ w) (hA : evs ρ ts = A := by (repeat (apply evs_c; · ((conv => lhs; whnf); first | done | exact rfl))); exact evs_n _) : (LC.loop a).wp P Q ρ w := s_loop (I A L) μ h0 h
theorem St.sp {L' : List Res} (h : St c w L) (e : SubP L' L := by (repeat constructor); first | done | fail) : St c w L' := h.subP e
theorem fd {r' : Res} (h : NthP L i r' := by repeat constructor) : nth L i = some r' := h.nth
theorem vw {a b : Value} (h : a = b := by (conv => lhs; whnf); first | done | exact rfl) : a = b := h
theorem St.p3 {L1 L2 L3 : List Res} {r1 r2 r3 : Res} (h : St c w L) (p1 : Pick L r1 L1 := by repeat constructor) (p2 : Pick L1 r2 L2 := by repeat constructor) (p3 : Pick L2 r3 L3 := by repeat constructor) : St c w (r1 :: r2 :: r3 :: L3) := h.pick3 p1 p2 p3
end
end Go.Lir
namespace Go.Proofs
open Go.Shelf
def Tryd.lays137_ren : Go.Shelf.Ren := ⟨fun | 137 => 33 | 217 => 55 | 266 => 77 | n => n, fun | 9 => 9 | 5 => 5 | 3 => 3 | n => n, fun | n => n⟩
theorem Tryd.lays137 : Go.Proofs.Lays.n137 Tryd.prog Tryd.lays137_ren := {
  mixed := by kernel_rfl
  f137 := Tryd.func33.trans (congrArg some (by kernel_rfl))
  f217 := Tryd.func55.trans (congrArg some (by kernel_rfl))
  f266 := Tryd.func77.trans (congrArg some (by kernel_rfl))
  t3 := Tryd.underlying3
  a3 := Tryd.isAgg3
  z3 := Tryd.sizeOf3
  v3 := Tryd.zeroValue3
  t5 := Tryd.underlying5
  a5 := Tryd.isAgg5
  z5 := Tryd.sizeOf5
  v5 := Tryd.zeroValue5
  t9 := Tryd.underlying9
  a9 := Tryd.isAgg9
  z9 := Tryd.sizeOf9
  v9 := Tryd.zeroValue9 }
open Go.RowKit in
/-- strings.IndexByte: "IndexByte returns the index of the first instance of c in s, or -1 if c is not present in s.": IT RETURNS 'Lib.indexByte s c'; the world is as it was. (LAID: no walk: one application.) -/
theorem Tryd.strings_IndexByte (s : ByteArray) (c : Int) (w : World) :
    Calls Tryd.prog 33 #[.string s, .int .u8 c] w fun e w' => e = .returned (.int .i64 (Lib.indexByte s.data.toList c.toNat.toUInt8)) ∧ w' = w := Any.strings_IndexByte Tryd.lays137 s c w
def Tryd.laysM246_ren : Go.Shelf.Ren := ⟨fun | 246 => 58 | 283 => 83 | 284 => 84 | 285 => 85 | 286 => 86 | 129 => 100 | 317 => 99 | 318 => 101 | 319 => 102 | 320 => 103 | 337 => 106 | 338 => 107 | n => n, fun | 2 => 2 | 3 => 3 | 9 => 9 | 4 => 4 | 171 => 131 | 0 => 0 | 53 => 124 | 37 => 95 | 5 => 5 | 173 => 134 | 212 => 150 | 51 => 151 | 20 => 20 | 213 => 152 | 46 => 127 | 232 => 162 | 233 => 163 | n => n, fun | 17 => 3 | 18 => 4 | 19 => 5 | n => n⟩
theorem Tryd.laysM246 : Go.Proofs.LaysM.n246 Tryd.prog Tryd.laysM246_ren := {
  mixed := by kernel_rfl
  f129 := Tryd.func100.trans (congrArg some (by kernel_rfl))
  f246 := Tryd.func58.trans (congrArg some (by kernel_rfl))
  f283 := Tryd.func83.trans (congrArg some (by kernel_rfl))
  f284 := Tryd.func84.trans (congrArg some (by kernel_rfl))
  f285 := Tryd.func85.trans (congrArg some (by kernel_rfl))
  f286 := Tryd.func86.trans (congrArg some (by kernel_rfl))
  f317 := Tryd.func99.trans (congrArg some (by kernel_rfl))
  f318 := Tryd.func101.trans (congrArg some (by kernel_rfl))
  f319 := Tryd.func102.trans (congrArg some (by kernel_rfl))
  f320 := Tryd.func103.trans (congrArg some (by kernel_rfl))
  f337 := Tryd.func106.trans (congrArg some (by kernel_rfl))
  f338 := Tryd.func107.trans (congrArg some (by kernel_rfl))
  t0 := Tryd.underlying0
  a0 := Tryd.isAgg0
  z0 := Tryd.sizeOf0
  v0 := Tryd.zeroValue0
  t2 := Tryd.underlying2
  a2 := Tryd.isAgg2
  z2 := Tryd.sizeOf2
  v2 := Tryd.zeroValue2
  t3 := Tryd.underlying3
  a3 := Tryd.isAgg3
  z3 := Tryd.sizeOf3
  v3 := Tryd.zeroValue3
  t4 := Tryd.underlying4
  a4 := Tryd.isAgg4
  z4 := Tryd.sizeOf4
  v4 := Tryd.zeroValue4
  t5 := Tryd.underlying5
  a5 := Tryd.isAgg5
  z5 := Tryd.sizeOf5
  v5 := Tryd.zeroValue5
  t9 := Tryd.underlying9
  a9 := Tryd.isAgg9
  z9 := Tryd.sizeOf9
  v9 := Tryd.zeroValue9
  t20 := Tryd.underlying20
  a20 := Tryd.isAgg20
  z20 := Tryd.sizeOf20
  v20 := Tryd.zeroValue20
  t37 := Tryd.underlying95
  a37 := Tryd.isAgg95
  z37 := Tryd.sizeOf95
  v37 := Tryd.zeroValue95
  t46 := Tryd.underlying127
  a46 := Tryd.isAgg127
  z46 := Tryd.sizeOf127
  v46 := Tryd.zeroValue127
  t51 := Tryd.underlying151
  a51 := Tryd.isAgg151
  z51 := Tryd.sizeOf151
  v51 := Tryd.zeroValue151
  t53 := Tryd.underlying124
  a53 := Tryd.isAgg124
  z53 := Tryd.sizeOf124
  v53 := Tryd.zeroValue124
  t171 := Tryd.underlying131
  a171 := Tryd.isAgg131
  z171 := Tryd.sizeOf131
  v171 := Tryd.zeroValue131
  t173 := Tryd.underlying134
  a173 := Tryd.isAgg134
  z173 := Tryd.sizeOf134
  v173 := Tryd.zeroValue134
  t212 := Tryd.underlying150
  a212 := Tryd.isAgg150
  z212 := Tryd.sizeOf150
  v212 := Tryd.zeroValue150
  t213 := Tryd.underlying152
  a213 := Tryd.isAgg152
  z213 := Tryd.sizeOf152
  t232 := Tryd.underlying162
  a232 := Tryd.isAgg162
  z232 := Tryd.sizeOf162
  v232 := Tryd.zeroValue162
  t233 := Tryd.underlying163
  a233 := Tryd.isAgg163
  z233 := Tryd.sizeOf163
  v233 := Tryd.zeroValue163
  g17 := by kernel_rfl
  g18 := by kernel_rfl
  g19 := by kernel_rfl
  i0 := by kernel_rfl
  i2 := by kernel_rfl
  i3 := by kernel_rfl
  i4 := by kernel_rfl
  i5 := by kernel_rfl
  i9 := by kernel_rfl
  i20 := by kernel_rfl
  i37 := by kernel_rfl
  i46 := by kernel_rfl
  i51 := by kernel_rfl
  i53 := by kernel_rfl
  i171 := by kernel_rfl
  i173 := by kernel_rfl
  i212 := by kernel_rfl
  i232 := by kernel_rfl
  i233 := by kernel_rfl
  m17 := by kernel_rfl
  m18 := by kernel_rfl
  m19 := by kernel_rfl }
open Go.RowKit Go.Sort Go.Lib in
/-- internal/strconv.FormatInt: "FormatInt returns the string representation of i in the given base": AT BASE 10: i's decimal numeral, for every int64. The world behind the call: the world before it, new blocks behind the heap, draws. (LAID: no walk: one application.) -/
theorem Tryd.internal_strconv_FormatInt_10 (n : Int) (h0 : -9223372036854775808 ≤ n) (h1 : n ≤ 9223372036854775807) (w : World) (htab : Lib.TabIs Tryd.prog w "internal/strconv.uint64pow10" .u64 Lib.pow10Tab) :
    Calls Tryd.prog 58 #[.int .i64 n, .int .i64 10] w fun e w' => e = .returned (.string ⟨(Lib.itoa n).toArray⟩) ∧ ∃ k os, w' = grow (w.drewN k) os := Any.internal_strconv_FormatInt_10 Tryd.laysM246 n h0 h1 w htab
def Tryd.laysC174_ren : Go.Shelf.Ren := ⟨fun | 174 => 34 | 247 => 56 | 245 => 57 | 287 => 78 | 279 => 79 | 280 => 80 | 281 => 81 | 282 => 82 | 321 => 95 | 322 => 96 | 316 => 97 | 171 => 70 | 205 => 98 | 243 => 93 | 246 => 58 | 283 => 83 | 284 => 84 | 285 => 85 | 286 => 86 | 129 => 100 | 317 => 99 | 318 => 101 | 319 => 102 | 320 => 103 | 337 => 106 | 338 => 107 | n => n, fun | 9 => 9 | 3 => 3 | 2 => 2 | 75 => 77 | 85 => 78 | 4 => 4 | 167 => 123 | 5 => 5 | 53 => 124 | 175 => 125 | 46 => 127 | 168 => 128 | 37 => 95 | 0 => 0 | 210 => 147 | 21 => 21 | 127 => 122 | 145 => 158 | 143 => 156 | 171 => 131 | 173 => 134 | 212 => 150 | 51 => 151 | 20 => 20 | 213 => 152 | 232 => 162 | 233 => 163 | 80 => 104 | n => n, fun | 15 => 1 | 16 => 2 | 17 => 3 | 18 => 4 | 19 => 5 | n => n⟩
theorem Tryd.laysC174 : Go.Proofs.LaysC.n174 Tryd.prog Tryd.laysC174_ren := {
  mixed := by kernel_rfl
  f129 := Tryd.func100.trans (congrArg some (by kernel_rfl))
  f171 := Tryd.func70.trans (congrArg some (by kernel_rfl))
  f174 := Tryd.func34.trans (congrArg some (by kernel_rfl))
  f205 := Tryd.func98.trans (congrArg some (by kernel_rfl))
  f243 := Tryd.func93.trans (congrArg some (by kernel_rfl))
  f245 := Tryd.func57.trans (congrArg some (by kernel_rfl))
  f246 := Tryd.func58.trans (congrArg some (by kernel_rfl))
  f247 := Tryd.func56.trans (congrArg some (by kernel_rfl))
  f279 := Tryd.func79.trans (congrArg some (by kernel_rfl))
  f280 := Tryd.func80.trans (congrArg some (by kernel_rfl))
  f281 := Tryd.func81.trans (congrArg some (by kernel_rfl))
  f282 := Tryd.func82.trans (congrArg some (by kernel_rfl))
  f283 := Tryd.func83.trans (congrArg some (by kernel_rfl))
  f284 := Tryd.func84.trans (congrArg some (by kernel_rfl))
  f285 := Tryd.func85.trans (congrArg some (by kernel_rfl))
  f286 := Tryd.func86.trans (congrArg some (by kernel_rfl))
  f287 := Tryd.func78.trans (congrArg some (by kernel_rfl))
  f316 := Tryd.func97.trans (congrArg some (by kernel_rfl))
  f317 := Tryd.func99.trans (congrArg some (by kernel_rfl))
  f318 := Tryd.func101.trans (congrArg some (by kernel_rfl))
  f319 := Tryd.func102.trans (congrArg some (by kernel_rfl))
  f320 := Tryd.func103.trans (congrArg some (by kernel_rfl))
  f321 := Tryd.func95.trans (congrArg some (by kernel_rfl))
  f322 := Tryd.func96.trans (congrArg some (by kernel_rfl))
  f337 := Tryd.func106.trans (congrArg some (by kernel_rfl))
  f338 := Tryd.func107.trans (congrArg some (by kernel_rfl))
  t0 := Tryd.underlying0
  a0 := Tryd.isAgg0
  z0 := Tryd.sizeOf0
  v0 := Tryd.zeroValue0
  t2 := Tryd.underlying2
  a2 := Tryd.isAgg2
  z2 := Tryd.sizeOf2
  v2 := Tryd.zeroValue2
  t3 := Tryd.underlying3
  a3 := Tryd.isAgg3
  z3 := Tryd.sizeOf3
  v3 := Tryd.zeroValue3
  t4 := Tryd.underlying4
  a4 := Tryd.isAgg4
  z4 := Tryd.sizeOf4
  v4 := Tryd.zeroValue4
  t5 := Tryd.underlying5
  a5 := Tryd.isAgg5
  z5 := Tryd.sizeOf5
  v5 := Tryd.zeroValue5
  t9 := Tryd.underlying9
  a9 := Tryd.isAgg9
  z9 := Tryd.sizeOf9
  v9 := Tryd.zeroValue9
  t20 := Tryd.underlying20
  a20 := Tryd.isAgg20
  z20 := Tryd.sizeOf20
  v20 := Tryd.zeroValue20
  t21 := Tryd.underlying21
  a21 := Tryd.isAgg21
  z21 := Tryd.sizeOf21
  v21 := Tryd.zeroValue21
  t37 := Tryd.underlying95
  a37 := Tryd.isAgg95
  z37 := Tryd.sizeOf95
  v37 := Tryd.zeroValue95
  t46 := Tryd.underlying127
  a46 := Tryd.isAgg127
  z46 := Tryd.sizeOf127
  v46 := Tryd.zeroValue127
  t51 := Tryd.underlying151
  a51 := Tryd.isAgg151
  z51 := Tryd.sizeOf151
  v51 := Tryd.zeroValue151
  t53 := Tryd.underlying124
  a53 := Tryd.isAgg124
  z53 := Tryd.sizeOf124
  v53 := Tryd.zeroValue124
  t75 := Tryd.underlying77
  a75 := Tryd.isAgg77
  z75 := Tryd.sizeOf77
  v75 := Tryd.zeroValue77
  t85 := Tryd.underlying78
  a85 := Tryd.isAgg78
  z85 := Tryd.sizeOf78
  v85 := Tryd.zeroValue78
  t127 := Tryd.underlying122
  a127 := Tryd.isAgg122
  z127 := Tryd.sizeOf122
  v127 := Tryd.zeroValue122
  t143 := Tryd.underlying156
  a143 := Tryd.isAgg156
  z143 := Tryd.sizeOf156
  v143 := Tryd.zeroValue156
  t145 := Tryd.underlying158
  a145 := Tryd.isAgg158
  z145 := Tryd.sizeOf158
  v145 := Tryd.zeroValue158
  t167 := Tryd.underlying123
  a167 := Tryd.isAgg123
  z167 := Tryd.sizeOf123
  v167 := Tryd.zeroValue123
  t168 := Tryd.underlying128
  a168 := Tryd.isAgg128
  z168 := Tryd.sizeOf128
  v168 := Tryd.zeroValue128
  t171 := Tryd.underlying131
  a171 := Tryd.isAgg131
  z171 := Tryd.sizeOf131
  v171 := Tryd.zeroValue131
  t173 := Tryd.underlying134
  a173 := Tryd.isAgg134
  z173 := Tryd.sizeOf134
  v173 := Tryd.zeroValue134
  t175 := Tryd.underlying125
  a175 := Tryd.isAgg125
  z175 := Tryd.sizeOf125
  v175 := Tryd.zeroValue125
  t210 := Tryd.underlying147
  a210 := Tryd.isAgg147
  z210 := Tryd.sizeOf147
  v210 := Tryd.zeroValue147
  t212 := Tryd.underlying150
  a212 := Tryd.isAgg150
  z212 := Tryd.sizeOf150
  v212 := Tryd.zeroValue150
  t213 := Tryd.underlying152
  a213 := Tryd.isAgg152
  z213 := Tryd.sizeOf152
  t232 := Tryd.underlying162
  a232 := Tryd.isAgg162
  z232 := Tryd.sizeOf162
  v232 := Tryd.zeroValue162
  t233 := Tryd.underlying163
  a233 := Tryd.isAgg163
  z233 := Tryd.sizeOf163
  v233 := Tryd.zeroValue163
  g15 := by kernel_rfl
  g16 := by kernel_rfl
  g17 := by kernel_rfl
  g18 := by kernel_rfl
  g19 := by kernel_rfl
  t80 := Tryd.underlying104
  a80 := Tryd.isAgg104
  z80 := Tryd.sizeOf104
  v80 := Tryd.zeroValue104
  i0 := by kernel_rfl
  i2 := by kernel_rfl
  i3 := by kernel_rfl
  i4 := by kernel_rfl
  i5 := by kernel_rfl
  i9 := by kernel_rfl
  i20 := by kernel_rfl
  i21 := by kernel_rfl
  i37 := by kernel_rfl
  i46 := by kernel_rfl
  i51 := by kernel_rfl
  i53 := by kernel_rfl
  i75 := by kernel_rfl
  i80 := by kernel_rfl
  i85 := by kernel_rfl
  i127 := by kernel_rfl
  i143 := by kernel_rfl
  i145 := by kernel_rfl
  i167 := by kernel_rfl
  i168 := by kernel_rfl
  i171 := by kernel_rfl
  i173 := by kernel_rfl
  i175 := by kernel_rfl
  i210 := by kernel_rfl
  i212 := by kernel_rfl
  i232 := by kernel_rfl
  i233 := by kernel_rfl
  m15 := by kernel_rfl
  m16 := by kernel_rfl
  m17 := by kernel_rfl
  m18 := by kernel_rfl
  m19 := by kernel_rfl
  c0 := by kernel_rfl
  c2 := by kernel_rfl
  c3 := by kernel_rfl
  c4 := by kernel_rfl
  c5 := by kernel_rfl
  c9 := by kernel_rfl
  c20 := by kernel_rfl
  c21 := by kernel_rfl
  c37 := by kernel_rfl
  c46 := by kernel_rfl
  c51 := by kernel_rfl
  c53 := by kernel_rfl
  c75 := by kernel_rfl
  c80 := by kernel_rfl
  c85 := by kernel_rfl
  c127 := by kernel_rfl
  c143 := by kernel_rfl
  c145 := by kernel_rfl
  c167 := by kernel_rfl
  c168 := by kernel_rfl
  c171 := by kernel_rfl
  c173 := by kernel_rfl
  c175 := by kernel_rfl
  c210 := by kernel_rfl
  c212 := by kernel_rfl
  c213 := by kernel_rfl
  c232 := by kernel_rfl
  c233 := by kernel_rfl }
open Go.RowKit in
/-- strconv.ParseInt(s, 10, 64), AT EVERY STRING THAT SPELLS AN int64 ('Lib.parseIntB 64 s.data.toList = .ok v'): v, AND NO ERROR. (LAID: no walk: one application.) -/
theorem Tryd.strconv_ParseInt_10_at64_ok (s : ByteArray) (hmax : s.size ≤ 9223372036854775806) (v : Int) (h : Lib.parseIntB 64 s.data.toList = .ok v) (w : World) :
    Calls Tryd.prog 34 #[.string s, .int .i64 10, .int .i64 64] w fun e w' => e = .returned (.tuple #[.int .i64 v, .nilIface]) ∧ (w' = w ∨ ∃ t, w' = Lib.bytesWorld w 5 t) := Any.strconv_ParseInt_10_at64_ok Tryd.laysC174 s hmax v h w
open Go.RowKit in
/-- strconv.ParseInt(s, 10, 64), AT EVERY STRING THAT IS NO DECIMAL NUMERAL: 0, AND AN ERROR THAT IS NOT nil: a *NumError in a new block N: {Func: "ParseInt", Num: s's bytes, Err: what the variable ErrSyntax holds}. Of what was there nothing has turned. (LAID: no walk: one application.) -/
theorem Tryd.strconv_ParseInt_10_at64_syntax (s : ByteArray) (hlim : s.size ≤ 281474976710656) (h : Lib.parseIntB 64 s.data.toList = Lib.parseIntB 64 []) (ev : Value) (w : World) (hv : w.cell? ⟨1, 0, none⟩ = some ev) (hev : ev = .nilIface ∨ ∃ te pe, ev = .iface te pe) :
    Calls Tryd.prog 34 #[.string s, .int .i64 10, .int .i64 64] w fun e w' => ∃ N, e = .returned (.tuple #[.int .i64 (0), .iface 128 (.pointer (some ⟨N, 0, none⟩))]) ∧ w.heap.size ≤ N ∧ w'.heap[N]? = some (.cells #[.string ⟨#[80, 97, 114, 115, 101, 73, 110, 116]⟩, .string s, ev] 147 (0, 0)) ∧ Below w.heap.size w w' := Any.strconv_ParseInt_10_at64_syntax Tryd.laysC174 s hlim h ev w hv hev
open Go.RowKit in
/-- strconv.ParseInt(s, 10, 64), AT EVERY NUMERAL THAT NO int64 HOLDS: THE GREATEST OR THE LEAST int64, BY THE SIGN ('Lib.intSat 64'), AND AN ERROR THAT IS NOT nil: a *NumError in a new block N: {Func: "ParseInt", Num: s's bytes, Err: what the variable ErrRange holds}. Of what was there nothing has turned. (LAID: no walk: one application.) -/
theorem Tryd.strconv_ParseInt_10_at64_range (s : ByteArray) (hlim : s.size ≤ 281474976710656) (h : Lib.parseIntB 64 s.data.toList = .range) (ev : Value) (w : World) (hv : w.cell? ⟨2, 0, none⟩ = some ev) (hev : ev = .nilIface ∨ ∃ te pe, ev = .iface te pe) :
    Calls Tryd.prog 34 #[.string s, .int .i64 10, .int .i64 64] w fun e w' => ∃ N, e = .returned (.tuple #[.int .i64 (Lib.intSat 64 s.data.toList), .iface 128 (.pointer (some ⟨N, 0, none⟩))]) ∧ w.heap.size ≤ N ∧ w'.heap[N]? = some (.cells #[.string ⟨#[80, 97, 114, 115, 101, 73, 110, 116]⟩, .string s, ev] 147 (0, 0)) ∧ Below w.heap.size w w' := Any.strconv_ParseInt_10_at64_range Tryd.laysC174 s hlim h ev w hv hev
end Go.Proofs
namespace Go.Lir
@[reducible] def qm (d x : Nat) : GO := ⟨none, .mov d (.tmp x)⟩
@[reducible] def qk (d : Nat) (v : Value) : GO := ⟨none, .mov d (.const v)⟩
@[reducible] def qf (d x k : Nat) : GO := ⟨none, .fld d (.tmp x) k⟩
@[reducible] def ql (d x : Nat) : GO := ⟨none, .load1 d (.tmp x)⟩
@[reducible] def qV (d n x : Nat) : GO := ⟨none, .loadn d n (.tmp x)⟩
@[reducible] def qn (d x : Nat) : GO := ⟨none, .nilc d (.tmp x)⟩
@[reducible] def qL (d x : Nat) : GO := ⟨none, .len d (.tmp x)⟩
@[reducible] def qs (x y : Nat) : GO := ⟨none, .store1 (.tmp x) (.tmp y)⟩
@[reducible] def qw (n x y : Nat) : GO := ⟨none, .storen n (.tmp x) (.tmp y)⟩
@[reducible] def qi (d es x y : Nat) : GO := ⟨none, .idx d es (.tmp x) (.tmp y)⟩
@[reducible] def qx (d x k : Nat) : GO := ⟨none, .ext d (.tmp x) k⟩
@[reducible] def qb (d T x : Nat) : GO := ⟨none, .box d T (.tmp x)⟩
@[reducible] def qt (d : Nat) (o : BinOp) (T x y : Nat) : GO := ⟨none, .bin d o T (.tmp x) (.tmp y)⟩
@[reducible] def qj (d : Nat) (o : BinOp) (T x : Nat) (n : Int) : GO := ⟨none, .bin d o T (.tmp x) (.const (.int .i64 n))⟩
@[reducible] def qg (s : Nat) (b : Bool) (o : GO) : GO := ⟨some (s, b), o.2⟩
@[reducible] def vi (n : Int) : Value := .int .i64 n
@[reducible] def vn : Value := .slice none 0 0
end Go.Lir
namespace Go.Proofs.YtjecflbbcnocdaaDoor
open Go.Lir
set_option maxRecDepth 100000

/- 3 -/
/- 4 -/
def Q3q : List GO := [qk 2 (.bool false)]
def Q3p : List GO := [⟨none, .call (some 10) 6 []⟩, ⟨none, .un 11 .not (.tmp 10)⟩]
def Q3o : List GO := [qk 2 (.bool false)]
def Q3n : List GO := [qm 12 0, ⟨none, .slen 13 (.tmp 12)⟩, qj 14 .gtr 3 13 3000]
def Q3m : List GO := [qk 2 (.bool true)]
def Q3l : List GO := [qm 16 0, ⟨none, .call (some 17) 7 [(.tmp 16)]⟩, qm 15 17, qx 18 15 0, qx 19 15 1, ⟨none, .alloc 4 25 [(vi 0), (vi 0)]⟩, qm 3 18, qw 2 4 19]
def Q3k : List GO := [qf 20 4 0, ql 21 20, qj 22 .neq 3 21 0]
def Q3j : List GO := [qm 23 3, qL 24 23, qj 25 .eql 3 24 0, qm 2 25]
def Q3i : List GO := [qk 5 (.string ⟨#[]⟩)]
def Q3h : List GO := [qk 6 (vi 0)]
def Q38 : List GO := [qm 26 6, qm 27 3, qL 28 27, qt 29 .lss 3 26 28]
def Q37 : List GO := [qm 32 5, qm 33 3, qm 34 6, qi 35 4 33 34, qf 36 35 1, ql 37 36, ⟨none, .bin 38 .add 9 (.tmp 37) (.const (.string ⟨#[32, 35, 32, 45, 10]⟩))⟩, qt 39 .add 9 32 38, qm 5 39]
def Q36 : List GO := [qm 30 6, qj 31 .add 3 30 1, qm 6 31]
def QY : LC := (.seq (.seq (.ops Q38) (.cond (.tmp 29) .skip (.exit 0))) (.seq (.block 1 (.ops Q37)) (.ops Q36)))
def Q35 : List GO := [qm 41 5, ⟨none, .call (some 42) 7 [(.tmp 41)]⟩, qm 40 42, qx 43 40 0, qx 44 40 1, ⟨none, .alloc 8 25 [(vi 0), (vi 0)]⟩, qm 7 43, qw 2 8 44]
def Q34 : List GO := [qf 45 8 0, ql 46 45, qj 47 .neq 3 46 0, qm 48 47, qg 48 false (qm 49 7), qg 48 false (qL 50 49), qg 48 false (qm 51 3), qg 48 false (qL 52 51), qg 48 false (qt 53 .neq 3 50 52), ⟨none, .pick 54 (.tmp 48) (.const (.bool true)) (.tmp 53)⟩]
def Q33 : List GO := [qk 2 (.bool false)]
def Q32 : List GO := [qk 9 (vi 0)]
def Q31 : List GO := [qm 55 9, qm 56 3, qL 57 56, qt 58 .lss 3 55 57]
def Q30 : List GO := [qm 61 7, qm 62 9, qi 63 4 61 62, qf 64 63 1, ql 65 64, qm 66 3, qm 67 9, qi 68 4 66 67, qf 69 68 1, ql 70 69, qt 71 .neq 9 65 70, qm 72 71, qg 72 false (qm 73 7), qg 72 false (qm 74 9), qg 72 false (qi 75 4 73 74), qg 72 false (qf 76 75 2), qg 72 false (ql 77 76), qg 72 false (qm 78 3), qg 72 false (qm 79 9), qg 72 false (qi 80 4 78 79), qg 72 false (qf 81 80 2), qg 72 false (ql 82 81), qg 72 false (qt 83 .neq 4 77 82), ⟨none, .pick 84 (.tmp 72) (.const (.bool true)) (.tmp 83)⟩, qm 85 84, qg 85 false (qm 86 7), qg 85 false (qm 87 9), qg 85 false (qi 88 4 86 87), qg 85 false (qf 89 88 3), qg 85 false (ql 90 89), qg 85 false (qm 91 3), qg 85 false (qm 92 9), qg 85 false (qi 93 4 91 92), qg 85 false (qf 94 93 3), qg 85 false (ql 95 94), qg 85 false (qt 96 .neq 2 90 95), ⟨none, .pick 97 (.tmp 85) (.const (.bool true)) (.tmp 96)⟩]
def Q3a : List (List Nat) := [[],[],[0,1],[2],[3],[],[],[5,6],[7],[8],[4,9],[10],[11],[11],[12,13,11],[14,11],[15,11],[11],[11],[17,18,11],[19,11],[20,11],[16,21,11],[11,22],[23,11],[24],[24],[25,26,24],[27,24],[28,24],[24],[24],[30,31,24],[32,24],[33,24],[29,34,24],[24,35]]
def Q2Z : List GO := [qk 2 (.bool false)]
def Q2Y : List GO := [qm 59 9, qj 60 .add 3 59 1, qm 9 60]
def QX : LC := (.seq (.seq (.ops Q31) (.cond (.tmp 58) .skip (.exit 2))) (.seq (.block 3 (.seq (.draw Q30 Q3a) (.cond (.tmp 97) (.seq (.ops Q2Z) .ret) .skip))) (.ops Q2Y)))
def Q2X : List GO := [qk 2 (.bool true)]
def Law_TokenBack_lc : LC := (.seq (.ops Q3q) (.seq (.seq (.ops Q3p) (.cond (.tmp 11) (.seq (.ops Q3o) .ret) .skip)) (.seq (.seq (.ops Q3n) (.cond (.tmp 14) (.seq (.ops Q3m) .ret) .skip)) (.seq (.ops Q3l) (.seq (.seq (.ops Q3k) (.cond (.tmp 22) (.seq (.ops Q3j) .ret) .skip)) (.seq (.ops Q3i) (.seq (.seq (.ops Q3h) (.block 0 (.loop QY))) (.seq (.ops Q35) (.seq (.seq (.ops Q34) (.cond (.tmp 54) (.seq (.ops Q33) .ret) .skip)) (.seq (.seq (.ops Q32) (.block 2 (.loop QX))) (.seq (.ops Q2X) .ret)))))))))))
@[reducible] def Q7 : FuncId := 4
theorem Q39 : lowF Tryd.prog Tryd.f4 = some Law_TokenBack_lc := by kernel_rfl
theorem Q3r {a0 : Value} {w : World} {R : Ending → World → Prop} (h : Law_TokenBack_lc.wp Tryd.prog (retQ Tryd.prog [.tmp 2] R) (QM [a0]) w) : Calls Tryd.prog Q7 ⟨[a0]⟩ w R :=
  Qb Tryd.func4 Q39 (by kernel_rfl) (by kernel_rfl) h

/- 6 -/
def Q2V : List GO := [qk 0 (.bool false)]
def Q2U : List GO := [⟨none, .call (some 4) 7 [(.const (.string ⟨#[106, 117, 109, 112, 32, 45, 49, 32, 60, 62, 59, 35, 32, 120]⟩))]⟩, qm 3 4, qx 5 3 0, qx 6 3 1, ⟨none, .alloc 2 25 [(vi 0), (vi 0)]⟩, qm 1 5, qw 2 2 6]
def Q2T : List GO := [qf 7 2 0, ql 8 7, qj 9 .eql 3 8 0, qm 10 9, qg 10 true (qm 11 1), qg 10 true (qL 12 11), qg 10 true (qj 13 .eql 3 12 5), ⟨none, .pick 14 (.tmp 10) (.tmp 13) (.const (.bool false))⟩, qm 15 14, qg 15 true (qm 16 1), ⟨some (15, true), .idx 17 4 (.tmp 16) (.const (vi 1))⟩, qg 15 true (qf 18 17 2), qg 15 true (ql 19 18), ⟨none, .pick 20 (.tmp 15) (.tmp 19) (.const (.bool false))⟩, qm 21 20, qg 21 true (qm 22 1), ⟨some (21, true), .idx 23 4 (.tmp 22) (.const (vi 1))⟩, qg 21 true (qf 24 23 3), qg 21 true (ql 25 24), qg 21 true (qj 26 .eql 2 25 (-1)), ⟨none, .pick 27 (.tmp 21) (.tmp 26) (.const (.bool false))⟩, qm 28 27, qg 28 true (qm 29 1), ⟨some (28, true), .idx 30 4 (.tmp 29) (.const (vi 4))⟩, qg 28 true (qf 31 30 0), qg 28 true (ql 32 31), qg 28 true (qj 33 .eql 3 32 10), ⟨none, .pick 34 (.tmp 28) (.tmp 33) (.const (.bool false))⟩, qm 0 34]
def Law_tokenBegun_lc : LC := (.seq (.ops Q2V) (.seq (.ops Q2U) (.seq (.ops Q2T) .ret)))
@[reducible] def Q2m : FuncId := 6
theorem Q2F : lowF Tryd.prog Tryd.f6 = some Law_tokenBegun_lc := by kernel_rfl
theorem Q2W {w : World} {R : Ending → World → Prop} (h : Law_tokenBegun_lc.wp Tryd.prog (retQ Tryd.prog [.tmp 0] R) (QM []) w) : Calls Tryd.prog Q2m ⟨[]⟩ w R :=
  Qb Tryd.func6 Q2F (by kernel_rfl) (by kernel_rfl) h

/- 7 -/
def Q4q : List GO := [qk 2 vn, ⟨none, .alloc 3 25 [(vi 0), (vi 0)]⟩]
def Q4p : List GO := [qm 9 0, ⟨none, .slen 10 (.tmp 9)⟩, qj 11 .gtr 3 10 40000]
def Q4o : List GO := [⟨none, .build 12 [(vi 0), (vi 0)] [(0, (1, (.const (vi 2)))), (1, (1, (.const (vi 40000))))]⟩, qk 2 vn, qw 2 3 12]
def Q4n : List GO := [qm 13 0, ⟨none, .build 14 [(.string ⟨#[]⟩), (vi 0)] [(0, (1, (.tmp 13)))]⟩, qb 15 44 14, qm 4 15]
def Q4m : List GO := [qk 5 vn]
def Q4l : List GO := [qm 16 4, ⟨none, .call (some 17) 13 [(.tmp 16)]⟩]
def Q4k : List GO := [qm 18 4, qn 19 18, qf 20 19 1, ql 21 20, qm 22 0, ⟨none, .slen 23 (.tmp 22)⟩, qt 24 .lss 3 21 23]
def Q4j : List GO := [qm 27 4, qn 28 27, qf 29 28 1, ql 30 29, qm 6 30]
def Q4i : List GO := [qm 32 4, ⟨none, .call (some 33) 14 [(.tmp 32)]⟩, qm 31 33, qx 34 31 0, qx 35 31 1, ⟨none, .alloc 7 32 [(vi 0), (.string ⟨#[]⟩), (.bool false), (vi 0)]⟩, qw 4 7 34, qm 8 35]
def Q4h : List GO := [qm 36 8, qj 37 .neq 3 36 0]
def Q40 : List GO := [qm 38 8, qm 39 6, ⟨none, .build 40 [(vi 0), (vi 0)] [(0, (1, (.tmp 38))), (1, (1, (.tmp 39)))]⟩, qk 2 vn, qw 2 3 40]
def Q3Z : List GO := [qm 41 5, qV 42 4 7, ⟨none, .buildS 43 32 1 [(vi 0), (.string ⟨#[]⟩), (.bool false), (vi 0)] [(0, (4, (.tmp 42)))]⟩, ⟨none, .raw ⟨(some 44), (.call ⟨(.builtin .append), #[(.tmp 41), (.tmp 43)], #[23, 23]⟩), 23, "", #[], none⟩⟩, qm 5 44]
def Q3Y : List GO := [qm 25 4, ⟨none, .call (some 26) 13 [(.tmp 25)]⟩]
def Q2v : LC := (.seq (.seq (.ops Q4k) (.cond (.tmp 24) .skip (.exit 0))) (.seq (.block 1 (.seq (.ops Q4j) (.seq (.ops Q4i) (.seq (.seq (.ops Q4h) (.cond (.tmp 37) (.seq (.ops Q40) .ret) .skip)) (.ops Q3Z))))) (.ops Q3Y)))
def Q3X : List GO := [qm 45 5, ⟨none, .build 46 [(vi 0), (vi 0)] []⟩, qm 2 45, qw 2 3 46]
def token_Scan_lc : LC := (.seq (.ops Q4q) (.seq (.seq (.ops Q4p) (.cond (.tmp 11) (.seq (.ops Q4o) .ret) .skip)) (.seq (.ops Q4n) (.seq (.ops Q4m) (.seq (.seq (.ops Q4l) (.block 0 (.loop Q2v))) (.seq (.ops Q3X) .ret))))))
@[reducible] def Qv : FuncId := 7
theorem Q41 : lowF Tryd.prog Tryd.f7 = some token_Scan_lc := by kernel_rfl
theorem Q4r {a0 : Value} {w : World} {R : Ending → World → Prop} (h : token_Scan_lc.wp Tryd.prog (retQ Tryd.prog [.tmp 2, .cell 3 25] R) (QM [a0]) w) : Calls Tryd.prog Qv ⟨[a0]⟩ w R :=
  Qb Tryd.func7 Q41 (by kernel_rfl) (by kernel_rfl) h

/- 8 -/
/- 13 -/
def Q1E : List GO := [qk 2 (.bool false)]
def Q1D : List GO := [qm 4 0, qn 5 4, qf 6 5 1, ql 7 6, qm 8 0, qn 9 8, qf 10 9 0, ql 11 10, ⟨none, .slen 12 (.tmp 11)⟩, qt 13 .lss 3 7 12]
def Q1H : List (List Nat) := [[],[0],[1],[2],[],[4],[5],[6],[7],[3,8]]
def Q1C : List GO := [qm 21 0, qn 22 21, qf 23 22 0, ql 24 23, qm 25 0, qn 26 25, qf 27 26 1, ql 28 27, ⟨none, .sidx 29 (.tmp 24) (.tmp 28)⟩, qm 3 29]
def Q1G : List (List Nat) := [[],[0],[1],[2],[],[4],[5],[6],[3,7],[8,0,1,2,3,4,5,6,7,8]]
def Q1B : List GO := [qm 31 3, ⟨none, .bin 32 .eql 5 (.tmp 31) (.const (.int .u8 10))⟩, qm 30 32]
def Q1A : List GO := [qk 2 (.bool false)]
def Q1z : List GO := [qm 34 2, qm 35 34, qg 35 false (qm 36 3), ⟨some (35, false), .bin 37 .eql 5 (.tmp 36) (.const (.int .u8 32))⟩, ⟨none, .pick 38 (.tmp 35) (.const (.bool true)) (.tmp 37)⟩, qm 39 38, qg 39 false (qm 40 3), ⟨some (39, false), .bin 41 .eql 5 (.tmp 40) (.const (.int .u8 9))⟩, ⟨none, .pick 42 (.tmp 39) (.const (.bool true)) (.tmp 41)⟩, qm 43 42, qg 43 false (qm 44 3), ⟨some (43, false), .bin 45 .eql 5 (.tmp 44) (.const (.int .u8 13))⟩, ⟨none, .pick 46 (.tmp 43) (.const (.bool true)) (.tmp 45)⟩, qm 33 46]
def Q1y : List GO := [qm 48 3, ⟨none, .bin 49 .eql 5 (.tmp 48) (.const (.int .u8 35))⟩, qm 47 49]
def Q1x : List GO := [qk 2 (.bool true)]
def Q1w : List GO := [qm 14 0, qn 15 14, qf 16 15 1, ql 17 16, qj 18 .add 3 17 1, qn 19 14, qf 20 19 1, qs 20 18]
def QE : LC := (.seq (.seq (.draw Q1D Q1H) (.cond (.tmp 13) .skip (.exit 0))) (.seq (.block 1 (.seq (.draw Q1C Q1G) (.block 2 (.seq (.ops Q1B) (.cond (.tmp 30) (.ops Q1A) (.seq (.ops Q1z) (.cond (.tmp 33) .skip (.seq (.ops Q1y) (.cond (.tmp 47) (.ops Q1x) .ret))))))))) (.ops Q1w)))
def token_scanner_blank_lc : LC := (.seq (.ops Q1E) (.block 0 (.loop QE)))
@[reducible] def Q5 : FuncId := 13
theorem Q17 : lowF Tryd.prog Tryd.f13 = some token_scanner_blank_lc := by kernel_rfl
theorem Q1F {a0 : Value} {w : World} {R : Ending → World → Prop} (h : token_scanner_blank_lc.wp Tryd.prog (retQ Tryd.prog [] R) (QM [a0]) w) : Calls Tryd.prog Q5 ⟨[a0]⟩ w R :=
  Qb Tryd.func13 Q17 (by kernel_rfl) (by kernel_rfl) h

/- 14 -/
def Q1R : List GO := [⟨none, .alloc 2 32 [(vi 0), (.string ⟨#[]⟩), (.bool false), (vi 0)]⟩, qk 3 (vi 0)]
def Q1Q : List GO := [qm 6 0, qn 7 6, qf 8 7 1, ql 9 8, qm 4 9]
def Q1P : List GO := [qm 10 0, qn 11 10, qf 12 11 0, ql 13 12, qm 14 4, ⟨none, .sidx 15 (.tmp 13) (.tmp 14)⟩, qm 5 15]
def Q1O : List GO := [qm 17 5, ⟨none, .call (some 18) 28 [(.tmp 17)]⟩, qm 16 18]
def Q1N : List GO := [qm 19 4, qm 20 0, ⟨none, .call (some 21) 29 [(.tmp 20), (.func 28)]⟩, ⟨none, .build 22 [(vi 0), (.string ⟨#[]⟩), (.bool false), (vi 0)] [(0, (1, (.tmp 19))), (1, (1, (.tmp 21)))]⟩, qw 4 2 22, qk 3 (vi 0)]
def Q1M : List GO := [qm 24 5, ⟨none, .call (some 25) 30 [(.tmp 24)]⟩, qm 23 25]
def Q1L : List GO := [qm 26 0, qm 27 4, ⟨none, .call (some 28) 31 [(.tmp 26), (.tmp 27), (.const (.string ⟨#[]⟩))]⟩, qx 29 28 0, qx 30 28 1, qw 4 2 29, qm 3 30]
def Q1K : List GO := [qm 32 0, qn 33 32, qf 34 33 0, ql 35 34, qm 36 4, ⟨none, .ssub 37 (.tmp 35) (some (.tmp 36)) none⟩, ⟨none, .call (some 38) 32 [(.tmp 37), (.const (.string ⟨#[45, 62]⟩))]⟩, qm 31 38]
def Q1J : List GO := [qm 39 0, qn 40 39, qf 41 40 1, ql 42 41, qj 43 .add 3 42 2, qn 44 39, qf 45 44 1, qs 45 43]
def Q1I : List GO := [qm 46 4, ⟨none, .build 47 [(vi 0), (.string ⟨#[]⟩), (.bool false), (vi 0)] [(0, (1, (.tmp 46))), (1, (1, (.const (.string ⟨#[45, 62]⟩))))]⟩, qw 4 2 47, qk 3 (vi 0)]
def Q1u : List GO := [qm 49 5, ⟨none, .bin 50 .eql 5 (.tmp 49) (.const (.int .u8 45))⟩, qm 51 50, qg 51 true (qm 52 4), qg 51 true (qj 53 .add 3 52 1), qg 51 true (qm 54 0), qg 51 true (qn 55 54), qg 51 true (qf 56 55 0), qg 51 true (ql 57 56), ⟨some (51, true), .slen 58 (.tmp 57)⟩, qg 51 true (qt 59 .lss 3 53 58), ⟨none, .pick 60 (.tmp 51) (.tmp 59) (.const (.bool false))⟩, qm 61 60, qg 61 true (qm 62 0), qg 61 true (qn 63 62), qg 61 true (qf 64 63 0), qg 61 true (ql 65 64), qg 61 true (qm 66 4), qg 61 true (qj 67 .add 3 66 1), ⟨some (61, true), .sidx 68 (.tmp 65) (.tmp 67)⟩, ⟨some (61, true), .call (some 69) 30 [(.tmp 68)]⟩, ⟨none, .pick 70 (.tmp 61) (.tmp 69) (.const (.bool false))⟩, qm 48 70]
def Q1t : List GO := [qm 71 0, qn 72 71, qf 73 72 1, ql 74 73, qj 75 .add 3 74 1, qn 76 71, qf 77 76 1, qs 77 75]
def Q1s : List GO := [qm 78 0, qm 79 4, ⟨none, .call (some 80) 31 [(.tmp 78), (.tmp 79), (.const (.string ⟨#[45]⟩))]⟩, qx 81 80 0, qx 82 80 1, qw 4 2 81, qm 3 82]
def Q1r : List GO := [qm 84 5, ⟨none, .bin 85 .neq 5 (.tmp 84) (.const (.int .u8 45))⟩, qm 86 85, qg 86 true (qm 87 5), ⟨some (86, true), .call (some 88) 33 [(.const (.string ⟨#[40, 41, 123, 125, 60, 62, 44, 59, 45]⟩)), (.tmp 87)]⟩, qg 86 true (qj 89 .geq 3 88 0), ⟨none, .pick 90 (.tmp 86) (.tmp 89) (.const (.bool false))⟩, qm 83 90]
def Q1q : List GO := [qm 91 0, qn 92 91, qf 93 92 1, ql 94 93, qj 95 .add 3 94 1, qn 96 91, qf 97 96 1, qs 97 95]
def Q1p : List GO := [qm 98 4, qm 99 0, qn 100 99, qf 101 100 0, ql 102 101, qm 103 4, qm 104 4, qj 105 .add 3 104 1, ⟨none, .ssub 106 (.tmp 102) (some (.tmp 103)) (some (.tmp 105))⟩, ⟨none, .build 107 [(vi 0), (.string ⟨#[]⟩), (.bool false), (vi 0)] [(0, (1, (.tmp 98))), (1, (1, (.tmp 106)))]⟩, qw 4 2 107, qk 3 (vi 0)]
def Q1o : List GO := [⟨none, .build 108 [(vi 0), (.string ⟨#[]⟩), (.bool false), (vi 0)] []⟩, qw 4 2 108, qk 3 (vi 6)]
def token_scanner_next_lc : LC := (.seq (.ops Q1R) (.seq (.ops Q1Q) (.seq (.seq (.ops Q1P) (.block 0 (.seq (.ops Q1O) (.cond (.tmp 16) (.seq (.ops Q1N) .ret) (.seq (.ops Q1M) (.cond (.tmp 23) (.seq (.ops Q1L) .ret) (.seq (.ops Q1K) (.cond (.tmp 31) (.seq (.ops Q1J) (.seq (.ops Q1I) .ret)) (.seq (.ops Q1u) (.cond (.tmp 48) (.seq (.ops Q1t) (.seq (.ops Q1s) .ret)) (.seq (.ops Q1r) (.cond (.tmp 83) (.seq (.ops Q1q) (.seq (.ops Q1p) .ret)) .skip)))))))))))) (.seq (.ops Q1o) .ret))))
@[reducible] def Q4 : FuncId := 14
theorem Q1v : lowF Tryd.prog Tryd.f14 = some token_scanner_next_lc := by kernel_rfl
theorem Q1S {a0 : Value} {w : World} {R : Ending → World → Prop} (h : token_scanner_next_lc.wp Tryd.prog (retQ Tryd.prog [.cell 2 32, .tmp 3] R) (QM [a0]) w) : Calls Tryd.prog Q4 ⟨[a0]⟩ w R :=
  Qb Tryd.func14 Q1v (by kernel_rfl) (by kernel_rfl) h

/- 15 -/
/- 16 -/
/- 17 -/
/- 18 -/
/- 19 -/
/- 20 -/
/- 28 -/
def Q3A : List GO := [qk 2 (.bool false)]
def Q3z : List GO := [qm 3 0, ⟨none, .bin 4 .geq 5 (.tmp 3) (.const (.int .u8 97))⟩, qm 5 4, qg 5 true (qm 6 0), ⟨some (5, true), .bin 7 .leq 5 (.tmp 6) (.const (.int .u8 122))⟩, ⟨none, .pick 8 (.tmp 5) (.tmp 7) (.const (.bool false))⟩, qm 2 8]
def token_letter_lc : LC := (.seq (.ops Q3A) (.seq (.ops Q3z) .ret))
@[reducible] def Q3b : FuncId := 28
theorem Q3e : lowF Tryd.prog Tryd.f28 = some token_letter_lc := by kernel_rfl
theorem Q3B {a0 : Value} {w : World} {R : Ending → World → Prop} (h : token_letter_lc.wp Tryd.prog (retQ Tryd.prog [.tmp 2] R) (QM [a0]) w) : Calls Tryd.prog Q3b ⟨[a0]⟩ w R :=
  Qb Tryd.func28 Q3e (by kernel_rfl) (by kernel_rfl) h

/- 29 -/
def Q1k : List GO := [qk 4 (.string ⟨#[]⟩)]
def Q1j : List GO := [qm 6 0, qn 7 6, qf 8 7 1, ql 9 8, qm 5 9]
def Q1i : List GO := [qm 10 0, qn 11 10, qf 12 11 1, ql 13 12, qm 14 0, qn 15 14, qf 16 15 0, ql 17 16, ⟨none, .slen 18 (.tmp 17)⟩, qt 19 .lss 3 13 18, qm 20 19, qg 20 true (qm 21 1), qg 20 true (qm 22 0), qg 20 true (qn 23 22), qg 20 true (qf 24 23 0), qg 20 true (ql 25 24), qg 20 true (qm 26 0), qg 20 true (qn 27 26), qg 20 true (qf 28 27 1), qg 20 true (ql 29 28), ⟨some (20, true), .sidx 30 (.tmp 25) (.tmp 29)⟩, ⟨some (20, true), .callv (some 31) (.tmp 21) [(.tmp 30)]⟩, ⟨none, .pick 32 (.tmp 20) (.tmp 31) (.const (.bool false))⟩]
def Q1n : List (List Nat) := [[],[0],[1],[2],[],[4],[5],[6],[7],[3,8],[9],[10],[10],[12,10],[13,10],[14,10],[10],[16,10],[17,10],[18,10],[15,19,10],[11,20,10,10],[10,21]]
def Q1h : List GO := [qm 33 0, qn 34 33, qf 35 34 1, ql 36 35, qj 37 .add 3 36 1, qn 38 33, qf 39 38 1, qs 39 37]
def QD : LC := (.seq (.seq (.draw Q1i Q1n) (.cond (.tmp 32) .skip (.exit 0))) (.block 1 (.ops Q1h)))
def Q1g : List GO := [qm 40 0, qn 41 40, qf 42 41 0, ql 43 42, qm 44 5, qm 45 0, qn 46 45, qf 47 46 1, ql 48 47, ⟨none, .ssub 49 (.tmp 43) (some (.tmp 44)) (some (.tmp 48))⟩, qm 4 49]
def Q1m : List (List Nat) := [[],[0],[1],[2],[],[],[5],[6],[7],[3,4,8],[9,0,1,2,3,4,5,6,7,8,9]]
def token_scanner_while_lc : LC := (.seq (.ops Q1k) (.seq (.ops Q1j) (.seq (.block 0 (.loop QD)) (.seq (.draw Q1g Q1m) .ret))))
@[reducible] def Qn : FuncId := 29
theorem QZ : lowF Tryd.prog Tryd.f29 = some token_scanner_while_lc := by kernel_rfl
theorem Q1l {a0 a1 : Value} {w : World} {R : Ending → World → Prop} (h : token_scanner_while_lc.wp Tryd.prog (retQ Tryd.prog [.tmp 4] R) (QM [a0, a1]) w) : Calls Tryd.prog Qn ⟨[a0, a1]⟩ w R :=
  Qb Tryd.func29 QZ (by kernel_rfl) (by kernel_rfl) h

/- 30 -/
def Q3V : List GO := [qk 2 (.bool false)]
def Q3U : List GO := [qm 3 0, ⟨none, .bin 4 .geq 5 (.tmp 3) (.const (.int .u8 48))⟩, qm 5 4, qg 5 true (qm 6 0), ⟨some (5, true), .bin 7 .leq 5 (.tmp 6) (.const (.int .u8 57))⟩, ⟨none, .pick 8 (.tmp 5) (.tmp 7) (.const (.bool false))⟩, qm 2 8]
def token_digit_lc : LC := (.seq (.ops Q3V) (.seq (.ops Q3U) .ret))
@[reducible] def Q3D : FuncId := 30
theorem Q3C : lowF Tryd.prog Tryd.f30 = some token_digit_lc := by kernel_rfl
theorem Q3W {a0 : Value} {w : World} {R : Ending → World → Prop} (h : token_digit_lc.wp Tryd.prog (retQ Tryd.prog [.tmp 2] R) (QM [a0]) w) : Calls Tryd.prog Q3D ⟨[a0]⟩ w R :=
  Qb Tryd.func30 Q3C (by kernel_rfl) (by kernel_rfl) h

/- 31 -/
def Q15 : List GO := [⟨none, .alloc 6 32 [(vi 0), (.string ⟨#[]⟩), (.bool false), (vi 0)]⟩, qk 7 (vi 0)]
def Q14 : List GO := [qm 11 2, qm 12 0, ⟨none, .call (some 13) 29 [(.tmp 12), (.func 30)]⟩, qt 14 .add 9 11 13, qm 8 14]
def Q13 : List GO := [qm 16 8, ⟨none, .call (some 17) 34 [(.tmp 16), (.const (vi 10)), (.const (vi 64))]⟩, qm 15 17, qx 18 15 0, qx 19 15 1, qm 9 18, qm 10 19]
def Q12 : List GO := [qm 20 10, ⟨none, .bin 21 .neq 77 (.tmp 20) (.const .nilIface)⟩, qm 22 21, qg 22 false (qm 23 9), ⟨some (22, false), .call (some 24) 35 [(.tmp 23), (.const (vi 10))]⟩, qg 22 false (qm 25 8), qg 22 false (qt 26 .neq 9 24 25), ⟨none, .pick 27 (.tmp 22) (.const (.bool true)) (.tmp 26)⟩]
def Q11 : List GO := [⟨none, .build 28 [(vi 0), (.string ⟨#[]⟩), (.bool false), (vi 0)] []⟩, qw 4 6 28, qk 7 (vi 8)]
def Q10 : List GO := [qm 29 1, qm 30 8, qm 31 9, ⟨none, .build 32 [(vi 0), (.string ⟨#[]⟩), (.bool false), (vi 0)] [(0, (1, (.tmp 29))), (1, (1, (.tmp 30))), (2, (1, (.const (.bool true)))), (3, (1, (.tmp 31)))]⟩, qw 4 6 32, qk 7 (vi 0)]
def token_scanner_number_lc : LC := (.seq (.ops Q15) (.seq (.ops Q14) (.seq (.ops Q13) (.seq (.seq (.ops Q12) (.cond (.tmp 27) (.seq (.ops Q11) .ret) .skip)) (.seq (.ops Q10) .ret)))))
@[reducible] def Qm : FuncId := 31
theorem QV : lowF Tryd.prog Tryd.f31 = some token_scanner_number_lc := by kernel_rfl
theorem Q16 {a0 a1 a2 : Value} {w : World} {R : Ending → World → Prop} (h : token_scanner_number_lc.wp Tryd.prog (retQ Tryd.prog [.cell 6 32, .tmp 7] R) (QM [a0, a1, a2]) w) : Calls Tryd.prog Qm ⟨[a0, a1, a2]⟩ w R :=
  Qb Tryd.func31 QV (by kernel_rfl) (by kernel_rfl) h

/- 32 -/
def Q2d : List GO := [qk 4 (.bool false)]
def Q2c : List GO := [qm 5 0, qm 6 1, ⟨none, .call (some 7) 54 [(.tmp 5), (.tmp 6)]⟩, qm 4 7]
def strings_HasPrefix_lc : LC := (.seq (.ops Q2d) (.seq (.ops Q2c) .ret))
@[reducible] def Q2I : FuncId := 32
theorem Q1U : lowF Tryd.prog Tryd.f32 = some strings_HasPrefix_lc := by kernel_rfl
theorem Q2e {a0 a1 : Value} {w : World} {R : Ending → World → Prop} (h : strings_HasPrefix_lc.wp Tryd.prog (retQ Tryd.prog [.tmp 4] R) (QM [a0, a1]) w) : Calls Tryd.prog Q2I ⟨[a0, a1]⟩ w R :=
  Qb Tryd.func32 Q1U (by kernel_rfl) (by kernel_rfl) h

/- 33 -/
@[reducible] def strings_IndexByte : FuncId := 33
/- 35 -/
def Q2g : List GO := [qk 4 (.string ⟨#[]⟩)]
def Q2f : List GO := [qm 5 0, qm 6 1, ⟨none, .call (some 7) 58 [(.tmp 5), (.tmp 6)]⟩, qm 4 7]
def strconv_FormatInt_lc : LC := (.seq (.ops Q2g) (.seq (.ops Q2f) .ret))
@[reducible] def Q2J : FuncId := 35
theorem Q1V : lowF Tryd.prog Tryd.f35 = some strconv_FormatInt_lc := by kernel_rfl
theorem Q2h {a0 a1 : Value} {w : World} {R : Ending → World → Prop} (h : strconv_FormatInt_lc.wp Tryd.prog (retQ Tryd.prog [.tmp 4] R) (QM [a0, a1]) w) : Calls Tryd.prog Q2J ⟨[a0, a1]⟩ w R :=
  Qb Tryd.func35 Q1V (by kernel_rfl) (by kernel_rfl) h

/- 54 -/
def QB : List GO := [qk 4 (.bool false)]
def QA : List GO := [qm 5 0, ⟨none, .slen 6 (.tmp 5)⟩, qm 7 1, ⟨none, .slen 8 (.tmp 7)⟩, qt 9 .geq 3 6 8, qm 10 9, qg 10 true (qm 11 0), qg 10 true (qm 12 1), ⟨some (10, true), .slen 13 (.tmp 12)⟩, ⟨some (10, true), .ssub 14 (.tmp 11) none (some (.tmp 13))⟩, qg 10 true (qm 15 1), qg 10 true (qt 16 .eql 9 14 15), ⟨none, .pick 17 (.tmp 10) (.tmp 16) (.const (.bool false))⟩, qm 4 17]
def internal_stringslite_HasPrefix_lc : LC := (.seq (.ops QB) (.seq (.ops QA) .ret))
@[reducible] def QJ : FuncId := 54
theorem Qx : lowF Tryd.prog Tryd.f54 = some internal_stringslite_HasPrefix_lc := by kernel_rfl
theorem QC {a0 a1 : Value} {w : World} {R : Ending → World → Prop} (h : internal_stringslite_HasPrefix_lc.wp Tryd.prog (retQ Tryd.prog [.tmp 4] R) (QM [a0, a1]) w) : Calls Tryd.prog QJ ⟨[a0, a1]⟩ w R :=
  Qb Tryd.func54 Qx (by kernel_rfl) (by kernel_rfl) h

/- 55 -/
end Go.Proofs.YtjecflbbcnocdaaDoor
namespace Go.Proofs.YtjecflbbcnocdaaDoor
open Go.Lir
set_option maxRecDepth 100000
theorem el_T23 : Q3d Tryd.prog 23 = some (32, 4, 40, [(.int .i64 0), (.string ⟨#[]⟩), (.bool false), (.int .i64 0)]) := by kernel_rfl
theorem u_T23 : ∃ e2, Tryd.prog.underlying 23 = some (.slice e2) := ⟨32, by kernel_rfl⟩
end Go.Proofs.YtjecflbbcnocdaaDoor
namespace Go.Lir
set_option linter.unusedVariables false
mutual
/-- typeSize -/
def Ty.size : Ty → Int → Int
  | .mk _ _ l, left => Tys.size l (left - 1)
def Tys.size : List Ty → Int → Int
  | [], left => left
  | x :: l, left => if 0 ≤ left then Tys.size l (x.size left) else left
end
theorem Tys.size_neg : ∀ (l : List Ty) {left : Int}, left < 0 → Tys.size l left = left
  | [], _, _ => by simp [Tys.size]
  | x :: l, left, h => by rw [Tys.size, if_neg (by omega)]
mutual
/-- deep -/
def Ty.deepB : Ty → Int → Bool
  | .mk _ _ l, left => if left < 0 then false else Tys.deepB l (left - 1)
def Tys.deepB : List Ty → Int → Bool
  | [], _ => true
  | x :: l, left => x.deepB left && Tys.deepB l left
end
mutual
/-- DeepOf -/
def Ty.depth : Ty → Int → Int
  | .mk _ _ l, most => Tys.depth l most 0
def Tys.depth : List Ty → Int → Int → Int
  | [], _, n => n
  | x :: l, most, n => if n ≤ most then (if most = 0 then 1 else Tys.depth l most (if n < 1 + x.depth (most - 1) then 1 + x.depth (most - 1) else n)) else n
end
mutual
theorem Ty.depth_iff : ∀ (t : Ty) {most : Int}, 0 ≤ most → (t.depth most ≤ most ↔ t.deepB most = true)
  | .mk _ _ l, most, h => by
    rw [Ty.depth, Ty.deepB, if_neg (by omega), Tys.depth_iff l h]
    exact ⟨fun h => h.2, fun h2 => ⟨h, h2⟩⟩
theorem Tys.depth_iff : ∀ (l : List Ty) {most n : Int}, 0 ≤ most → (Tys.depth l most n ≤ most ↔ n ≤ most ∧ Tys.deepB l (most - 1) = true)
  | [], most, n, h => by rw [Tys.depth, Tys.deepB]; simp
  | x :: l, most, n, h => by
    rw [Tys.depth, Tys.deepB]
    by_cases hn : n ≤ most
    · rw [if_pos hn]
      by_cases h0 : most = 0
      · rw [if_pos h0]
        have : x.deepB (most - 1) = false := by obtain ⟨k, r, l2⟩ := x; rw [Ty.deepB, if_pos (by omega)]
        rw [this]; simp; omega
      · rw [if_neg h0, Tys.depth_iff l h]
        have := Ty.depth_iff x (most := most - 1) (by omega)
        rw [Bool.and_eq_true, ← this]
        constructor
        · rintro ⟨h1, h2⟩; split at h1 <;> exact ⟨by omega, by omega, h2⟩
        · rintro ⟨h1, h2, h3⟩; refine ⟨?_, h3⟩; split <;> omega
    · rw [if_neg hn]
      exact ⟨fun h => absurd h hn, fun h => h.1⟩
end
mutual
/-- Same -/
def Ty.same : Ty → Ty → Bool
  | .mk k r l, .mk k2 r2 l2 => decide (k = k2) && decide (r = r2) && Tys.same l l2
def Tys.same : List Ty → List Ty → Bool
  | [], [] => true
  | x :: l, y :: m => x.same y && Tys.same l m
  | [], _ :: _ => false
  | _ :: _, [] => false
end
mutual
theorem Ty.same_iff : ∀ (t u : Ty), t.same u = true ↔ t = u
  | .mk k r l, .mk k2 r2 l2 => by
    rw [Ty.same, Bool.and_eq_true, Bool.and_eq_true, Tys.same_iff l l2]
    simp only [decide_eq_true_eq, Ty.mk.injEq, and_assoc]
theorem Tys.same_iff : ∀ (l m : List Ty), Tys.same l m = true ↔ l = m
  | [], [] => by simp [Tys.same]
  | x :: l, y :: m => by rw [Tys.same, Bool.and_eq_true, Ty.same_iff x y, Tys.same_iff l m]; simp
  | [], _ :: _ => by simp [Tys.same]
  | _ :: _, [] => by simp [Tys.same]
end
instance : DecidableEq Ty := fun t u => decidable_of_iff _ (Ty.same_iff t u)
mutual
/-- wrong, typeFault -/
def Ty.wrong (fields : Nat) : Ty → Int → Int
  | .mk k r l, regs =>
    if k < 1 ∨ 4 < k then 3 else if k = 1 ∧ r ≠ 0 ∨ k ≠ 3 ∧ 0 < l.length then 4 else if fields < l.length then 2 else if k ≠ 1 ∧ (r < 0 ∨ regs ≤ r) then 1 else Tys.wrong fields l regs
def Tys.wrong (fields : Nat) : List Ty → Int → Int
  | [], _ => 0
  | x :: l, regs => if x.wrong fields regs ≠ 0 then x.wrong fields regs else Tys.wrong fields l regs
end
mutual
/-- Rename -/
def Ty.ren : Ty → List Int → Option Ty
  | .mk k r l, to => if k ≠ 1 ∧ (r < 0 ∨ (to.length : Int) ≤ r ∨ to.getD r.toNat 0 < 0) then none else
    match Tys.ren l to with
    | none => none
    | some m => some (.mk k (if k ≠ 1 then to.getD r.toNat 0 else r) m)
def Tys.ren : List Ty → List Int → Option (List Ty)
  | [], _ => some []
  | x :: l, to => match x.ren to with
    | none => none
    | some y => match Tys.ren l to with
      | none => none
      | some m => some (y :: m)
end
mutual
/-- Two renamings one behind the other are one. -/
theorem Ty.ren_ren {f g h : List Int} (hfg : ∀ i : Nat, i < f.length → 0 ≤ f.getD i 0 ∧ f.getD i 0 < g.length ∧ 0 ≤ g.getD (f.getD i 0).toNat 0 ∧ i < h.length ∧ h.getD i 0 = g.getD (f.getD i 0).toNat 0) :
    ∀ (t u : Ty), t.ren f = some u → ∃ v, u.ren g = some v ∧ t.ren h = some v
  | .mk k r l, u, ht => by
    rw [Ty.ren] at ht
    split at ht
    · cases ht
    · rename_i hc
      cases hl : Tys.ren l f with
      | none => rw [hl] at ht; cases ht
      | some m =>
        rw [hl] at ht
        simp only [Option.some.injEq] at ht
        obtain ⟨m2, h1, h2⟩ := Tys.ren_ren hfg l m hl
        subst ht
        by_cases hk : k = 1
        · refine ⟨.mk k r m2, ?_, ?_⟩
          · rw [Ty.ren, if_neg (by omega), h1]; simp [hk]
          · rw [Ty.ren, if_neg (by omega), h2]; simp [hk]
        · have := hfg r.toNat (by omega)
          refine ⟨.mk k (g.getD (f.getD r.toNat 0).toNat 0) m2, ?_, ?_⟩
          · rw [Ty.ren, if_pos hk, if_neg (by omega), h1]; simp [hk]
          · rw [Ty.ren, if_neg (by omega), h2]; simp only [if_pos hk, this.2.2.2.2]
theorem Tys.ren_ren {f g h : List Int} (hfg : ∀ i : Nat, i < f.length → 0 ≤ f.getD i 0 ∧ f.getD i 0 < g.length ∧ 0 ≤ g.getD (f.getD i 0).toNat 0 ∧ i < h.length ∧ h.getD i 0 = g.getD (f.getD i 0).toNat 0) :
    ∀ (t u : List Ty), Tys.ren t f = some u → ∃ v, Tys.ren u g = some v ∧ Tys.ren t h = some v
  | [], u, ht => by rw [Tys.ren] at ht; cases ht; exact ⟨[], by rw [Tys.ren], by rw [Tys.ren]⟩
  | x :: l, u, ht => by
    rw [Tys.ren] at ht
    cases hx : x.ren f with
    | none => rw [hx] at ht; cases ht
    | some y =>
      rw [hx] at ht
      cases hl : Tys.ren l f with
      | none => rw [hl] at ht; cases ht
      | some m =>
        rw [hl] at ht
        simp only [Option.some.injEq] at ht
        subst ht
        obtain ⟨y2, a1, a2⟩ := Ty.ren_ren hfg x y hx
        obtain ⟨m2, b1, b2⟩ := Tys.ren_ren hfg l m hl
        exact ⟨y2 :: m2, by rw [Tys.ren, a1, b1], by rw [Tys.ren, a2, b2]⟩
end
mutual
/-- What is renamed is as right as it was, if the renaming stays below the number of regions. -/
theorem Ty.ren_wrong {fields : Nat} {f : List Int} (hf : ∀ i : Nat, i < f.length → 0 ≤ f.getD i 0 ∧ f.getD i 0 < f.length) : ∀ (t u : Ty), t.ren f = some u → u.wrong fields f.length = t.wrong fields f.length
  | .mk k r l, u, ht => by
    rw [Ty.ren] at ht
    split at ht
    · cases ht
    · rename_i hc
      cases hl : Tys.ren l f with
      | none => rw [hl] at ht; cases ht
      | some m =>
        rw [hl] at ht
        simp only [Option.some.injEq] at ht
        subst ht
        obtain ⟨h1, h2⟩ := Tys.ren_wrong (fields := fields) hf l m hl
        by_cases hk : k = 1
        · rw [Ty.wrong, Ty.wrong, h1, h2]; simp [hk]
        · have := hf r.toNat (by omega)
          rw [Ty.wrong, Ty.wrong, h1, h2]
          simp only [if_pos hk]
          rw [if_neg (show ¬ (k ≠ 1 ∧ (f.getD r.toNat 0 < 0 ∨ (f.length : Int) ≤ f.getD r.toNat 0)) by omega), if_neg (show ¬ (k ≠ 1 ∧ (r < 0 ∨ (f.length : Int) ≤ r)) by omega)]
          simp [hk]
theorem Tys.ren_wrong {fields : Nat} {f : List Int} (hf : ∀ i : Nat, i < f.length → 0 ≤ f.getD i 0 ∧ f.getD i 0 < f.length) : ∀ (t u : List Ty), Tys.ren t f = some u → u.length = t.length ∧ Tys.wrong fields u f.length = Tys.wrong fields t f.length
  | [], u, ht => by rw [Tys.ren] at ht; cases ht; exact ⟨rfl, rfl⟩
  | x :: l, u, ht => by
    rw [Tys.ren] at ht
    cases hx : x.ren f with
    | none => rw [hx] at ht; cases ht
    | some y =>
      rw [hx] at ht
      cases hl : Tys.ren l f with
      | none => rw [hl] at ht; cases ht
      | some m =>
        rw [hl] at ht
        simp only [Option.some.injEq] at ht
        subst ht
        obtain ⟨h1, h2⟩ := Tys.ren_wrong (fields := fields) hf l m hl
        exact ⟨by simp [h1], by rw [Tys.wrong, Tys.wrong, Ty.ren_wrong hf x y hx, h2]⟩
end
mutual
/-- What cannot be renamed is wrong. -/
theorem Ty.ren_none {fields : Nat} {f : List Int} (hf : ∀ i : Nat, i < f.length → 0 ≤ f.getD i 0) : ∀ (t : Ty), t.ren f = none → t.wrong fields f.length ≠ 0
  | .mk k r l, ht => by
    rw [Ty.wrong]
    rw [Ty.ren] at ht
    split
    · decide
    · split
      · decide
      · split
        · decide
        · split
          · decide
          · rename_i h1 h2 h3 h4
            have hc : ¬ (k ≠ 1 ∧ (r < 0 ∨ (f.length : Int) ≤ r ∨ f.getD r.toNat 0 < 0)) := by
              rintro ⟨a, b⟩
              have := hf r.toNat
              omega
            rw [if_neg hc] at ht
            cases hl : Tys.ren l f with
            | none => exact Tys.ren_none hf l hl
            | some m => rw [hl] at ht; cases ht
theorem Tys.ren_none {fields : Nat} {f : List Int} (hf : ∀ i : Nat, i < f.length → 0 ≤ f.getD i 0) : ∀ (t : List Ty), Tys.ren t f = none → Tys.wrong fields t f.length ≠ 0
  | [], ht => by rw [Tys.ren] at ht; cases ht
  | x :: l, ht => by
    rw [Tys.ren] at ht
    rw [Tys.wrong]
    split
    · rename_i h; exact h
    · rename_i h
      cases hx : x.ren f with
      | none => exact absurd hx (fun hx => h (Ty.ren_none hf x hx))
      | some y =>
        rw [hx] at ht
        cases hl : Tys.ren l f with
        | none => exact Tys.ren_none hf l hl
        | some m => rw [hl] at ht; cases ht
end
mutual
theorem Ty.ren_deep {f : List Int} : ∀ (t u : Ty) (left : Int), t.ren f = some u → u.deepB left = t.deepB left
  | .mk k r l, u, left, ht => by
    rw [Ty.ren] at ht
    split at ht
    · cases ht
    · cases hl : Tys.ren l f with
      | none => rw [hl] at ht; cases ht
      | some m =>
        rw [hl] at ht
        simp only [Option.some.injEq] at ht
        subst ht
        rw [Ty.deepB, Ty.deepB, Tys.ren_deep l m (left - 1) hl]
theorem Tys.ren_deep {f : List Int} : ∀ (t u : List Ty) (left : Int), Tys.ren t f = some u → Tys.deepB u left = Tys.deepB t left
  | [], u, _, ht => by rw [Tys.ren] at ht; cases ht; rfl
  | x :: l, u, left, ht => by
    rw [Tys.ren] at ht
    cases hx : x.ren f with
    | none => rw [hx] at ht; cases ht
    | some y =>
      rw [hx] at ht
      cases hl : Tys.ren l f with
      | none => rw [hl] at ht; cases ht
      | some m =>
        rw [hl] at ht
        simp only [Option.some.injEq] at ht
        subst ht
        rw [Tys.deepB, Tys.deepB, Ty.ren_deep x y left hx, Tys.ren_deep l m left hl]
end
mutual
/-- The renaming that leaves all as it is. -/
theorem Ty.ren_id {f : List Int} (hf : ∀ i : Nat, i < f.length → f.getD i 0 = i) : ∀ (t u : Ty), t.ren f = some u → u = t
  | .mk k r l, u, ht => by
    rw [Ty.ren] at ht
    split at ht
    · cases ht
    · rename_i hc
      cases hl : Tys.ren l f with
      | none => rw [hl] at ht; cases ht
      | some m =>
        rw [hl] at ht
        simp only [Option.some.injEq] at ht
        subst ht
        rw [Tys.ren_id hf l m hl]
        by_cases hk : k = 1
        · simp [hk]
        · have := hf r.toNat (by omega)
          rw [if_pos hk, this, Int.toNat_of_nonneg (by omega)]
theorem Tys.ren_id {f : List Int} (hf : ∀ i : Nat, i < f.length → f.getD i 0 = i) : ∀ (t u : List Ty), Tys.ren t f = some u → u = t
  | [], u, ht => by rw [Tys.ren] at ht; cases ht; rfl
  | x :: l, u, ht => by
    rw [Tys.ren] at ht
    cases hx : x.ren f with
    | none => rw [hx] at ht; cases ht
    | some y =>
      rw [hx] at ht
      cases hl : Tys.ren l f with
      | none => rw [hl] at ht; cases ht
      | some m =>
        rw [hl] at ht
        simp only [Option.some.injEq] at ht
        subst ht
        rw [Ty.ren_id hf x y hx, Tys.ren_id hf l m hl]
end
/-- By the parts. -/
theorem Ty.ind {p : Ty → Prop} (h : ∀ k r l, (∀ x ∈ l, p x) → p (.mk k r l)) : ∀ t, p t
  | .mk k r l => h k r l fun x hx => Ty.ind h x
termination_by t => SizeOf.sizeOf t
decreasing_by
  have := List.sizeOf_lt_of_mem hx
  simp only [Ty.mk.sizeOf_spec]
  omega
mutual
theorem Ty.size_rng : ∀ (t : Ty) {left : Int}, 0 ≤ left → -1 ≤ t.size left ∧ t.size left < left
  | .mk _ _ l, left, h => by
    rw [Ty.size]
    have := Tys.size_rng l (left := left - 1) (by omega)
    omega
theorem Tys.size_rng : ∀ (l : List Ty) {left : Int}, -1 ≤ left → -1 ≤ Tys.size l left ∧ Tys.size l left ≤ left
  | [], left, h => by rw [Tys.size]; omega
  | x :: l, left, h => by
    rw [Tys.size]
    split
    · rename_i h0
      have h1 := Ty.size_rng x h0
      have h2 := Tys.size_rng l (left := x.size left) h1.1
      omega
    · omega
end
mutual
theorem Ty.size_mono : ∀ (t : Ty) {a b : Int}, a ≤ b → -1 ≤ a → t.size a ≤ t.size b
  | .mk _ _ l, a, b, h, ha => by
    rw [Ty.size, Ty.size]
    by_cases h0 : 0 ≤ a
    · exact Tys.size_mono l (by omega) (by omega)
    · rw [Tys.size_neg l (by omega)]
      by_cases hb : 0 ≤ b
      · have := Tys.size_rng l (left := b - 1) (by omega); omega
      · rw [Tys.size_neg l (by omega)]; omega
theorem Tys.size_mono : ∀ (l : List Ty) {a b : Int}, a ≤ b → -1 ≤ a → Tys.size l a ≤ Tys.size l b
  | [], a, b, h, _ => by rw [Tys.size, Tys.size]; exact h
  | x :: l, a, b, h, ha => by
    by_cases h0 : 0 ≤ a
    · rw [Tys.size, Tys.size, if_pos h0, if_pos (by omega)]
      exact Tys.size_mono l (Ty.size_mono x h ha) (Ty.size_rng x h0).1
    · rw [Tys.size_neg _ (by omega)]
      have := Tys.size_rng (x :: l) (left := b) (by omega); omega
end
/-- What is not too great has few parts, and none of them is too great. -/
theorem Tys.size_len : ∀ (l : List Ty) {left : Int}, 0 ≤ Tys.size l left → -1 ≤ left → (l.length : Int) ≤ left ∧ ∀ x ∈ l, 0 ≤ x.size left
  | [], left, h, _ => by rw [Tys.size] at h; simp; exact h
  | x :: l, left, h, hl => by
    rw [Tys.size] at h
    split at h
    · rename_i h0
      have h1 := Ty.size_rng x h0
      have h2 := Tys.size_len l h h1.1
      have h3 := Tys.size_rng l (left := x.size left) h1.1
      refine ⟨by simp only [List.length_cons]; omega, fun y hy => ?_⟩
      rcases List.mem_cons.1 hy with rfl | hy
      · omega
      · exact Int.le_trans (h2.2 y hy) (Ty.size_mono y (by omega) h1.1)
    · omega
/-- Check, TypeFault -/
def Ty.fault (t : Ty) (regs : Int) : Int := if t.deepB 4 = false then 19 else t.wrong 8 regs
mutual
theorem Ty.depth_rng : ∀ (t : Ty) {most : Int}, 0 ≤ most → 0 ≤ t.depth most ∧ t.depth most ≤ most + 1
  | .mk _ _ l, most, h => by
    rw [Ty.depth]
    exact Tys.depth_rng l h (by omega) (by omega)
theorem Tys.depth_rng : ∀ (l : List Ty) {most n : Int}, 0 ≤ most → 0 ≤ n → n ≤ most + 1 → 0 ≤ Tys.depth l most n ∧ Tys.depth l most n ≤ most + 1
  | [], most, n, _, h1, h2 => by rw [Tys.depth]; omega
  | x :: l, most, n, h, h1, h2 => by
    rw [Tys.depth]
    split
    · split
      · omega
      · have := Ty.depth_rng x (most := most - 1) (by omega)
        exact Tys.depth_rng l h (by split <;> omega) (by split <;> omega)
    · omega
end
/-- No list of parts is long. -/
inductive Ty.Short : Ty → Prop where
  | mk {k r : Int} {l : List Ty} : l.length ≤ 100000 → (∀ x ∈ l, x.Short) → Ty.Short (.mk k r l)
theorem Ty.Short.parts {k r : Int} {l : List Ty} (h : (Ty.mk k r l).Short) : l.length ≤ 100000 ∧ ∀ x ∈ l, x.Short := by
  cases h with | mk h1 h2 => exact ⟨h1, h2⟩
theorem Ty.short_of_size : ∀ (t : Ty) {n : Int}, n ≤ 100000 → 0 ≤ n → 0 ≤ t.size n → t.Short := by
  intro t
  induction t using Ty.ind with
  | h k r l ih =>
    intro n h1 h0 h
    rw [Ty.size] at h
    obtain ⟨h2, h3⟩ := Tys.size_len l h (by omega)
    refine .mk (by omega) fun x hx => ?_
    have hp := h3 x hx
    have hl := List.length_pos_of_mem hx
    exact ih x hx (n := n - 1) (by omega) (by omega) hp
/-- GreatType, greatTypes -/
def Ty.great (t : Ty) : Bool := decide (t.size 2000 < 0)
def Tys.great (l : List Ty) : Bool := decide (200 < l.length) || l.any Ty.great
theorem Ty.short_of_great {t : Ty} (h : t.great = false) : t.Short := Ty.short_of_size t (n := 2000) (by omega) (by omega) (by unfold Ty.great at h; simp at h; exact h)
theorem Tys.short_of_great {l : List Ty} (h : Tys.great l = false) : l.length ≤ 200 ∧ ∀ x ∈ l, x.Short := by
  unfold Tys.great at h
  rw [Bool.or_eq_false_iff] at h
  refine ⟨by have := of_decide_eq_false h.1; omega, fun x hx => Ty.short_of_great ?_⟩
  cases hg : x.great with
  | false => rfl
  | true => have := List.any_eq_true.2 ⟨x, hx, hg⟩; rw [h.2] at this; cases this
end Go.Lir
namespace Go.Lir
structure Ins where
  op : Int
  a : Int
  b : Int
  c : Int
  k : Int
  n : Int
  regs : List Int
  args : List Int
structure To where
  block : Int
  regs : List Int
  args : List Int
structure Tail where
  op : Int
  a : Int
  yes : To
  no : To
  args : List Int
structure Block where
  regs : Int
  params : List Ty
  code : List Ins
  fin : Tail
deriving instance DecidableEq for Ins
deriving instance DecidableEq for To
deriving instance DecidableEq for Tail
deriving instance DecidableEq for Block
structure Fun where
  regs : Int
  params : List Ty
  results : List Ty
  blocks : List Block
structure Module where
  funcs : List Fun
deriving instance DecidableEq for Fun
deriving instance DecidableEq for Module

/-! ### no list is long -/
def Ins.Short (x : Ins) : Prop := x.regs.length ≤ 100000 ∧ x.args.length ≤ 100000
def To.Short (x : To) : Prop := x.regs.length ≤ 100000 ∧ x.args.length ≤ 100000
def Tail.Short (x : Tail) : Prop := x.yes.Short ∧ x.no.Short ∧ x.args.length ≤ 100000
def Tys.Short (l : List Ty) : Prop := l.length ≤ 100000 ∧ ∀ t ∈ l, t.Short
def Block.Short (x : Block) : Prop := Tys.Short x.params ∧ x.code.length ≤ 100000 ∧ (∀ i ∈ x.code, i.Short) ∧ x.fin.Short
def Fun.Short (x : Fun) : Prop := Tys.Short x.params ∧ Tys.Short x.results ∧ x.blocks.length ≤ 100000 ∧ ∀ b ∈ x.blocks, b.Short
def Module.Short (x : Module) : Prop := x.funcs.length ≤ 100000 ∧ ∀ f ∈ x.funcs, f.Short
theorem all_snoc {α : Type} {l : List α} {p : α → Prop} {j : Nat} {x : α} (h : ∀ y ∈ l.take j, p y) (hx : l[j]? = some x) (hp : p x) : ∀ y ∈ l.take (j + 1), p y := by
  intro y hy
  rw [List.take_add_one, hx] at hy
  rcases List.mem_append.1 hy with hy | hy
  · exact h y hy
  · simp at hy; subst hy; exact hp
def insR : Rep Ins where
  es := 8
  pos := by decide
  R := fun H K cs x => ∃ vr va, cs = [.int .i64 x.op, .int .i64 x.a, .int .i64 x.b, .int .i64 x.c, .int .i64 x.k, .int .i64 x.n, vr, va] ∧ intR.SR H K vr x.regs ∧ intR.SR H K va x.args
  len := by rintro _ _ _ _ ⟨vr, va, rfl, _⟩; rfl
  one := by
    rintro _ _ _ _ ⟨vr, va, rfl, h1, h2⟩ u hu
    simp at hu
    rcases hu with rfl | rfl | rfl | rfl | rfl | rfl | rfl | rfl <;> first | rfl | exact h1.oneC | exact h2.oneC
  turn := by rintro _ _ _ _ _ _ ⟨vr, va, rfl, h1, h2⟩ hs; exact ⟨vr, va, rfl, h1.turn hs, h2.turn hs⟩
def toR : Rep To where
  es := 3
  pos := by decide
  R := fun H K cs x => ∃ vr va, cs = [.int .i64 x.block, vr, va] ∧ intR.SR H K vr x.regs ∧ intR.SR H K va x.args
  len := by rintro _ _ _ _ ⟨vr, va, rfl, _⟩; rfl
  one := by
    rintro _ _ _ _ ⟨vr, va, rfl, h1, h2⟩ u hu
    simp at hu
    rcases hu with rfl | rfl | rfl <;> first | rfl | exact h1.oneC | exact h2.oneC
  turn := by rintro _ _ _ _ _ _ ⟨vr, va, rfl, h1, h2⟩ hs; exact ⟨vr, va, rfl, h1.turn hs, h2.turn hs⟩
def endR : Rep Tail where
  es := 9
  pos := by decide
  R := fun H K cs x => ∃ v1 v2 v3 v4 v5, cs = [.int .i64 x.op, .int .i64 x.a, .int .i64 x.yes.block, v1, v2, .int .i64 x.no.block, v3, v4, v5] ∧ intR.SR H K v1 x.yes.regs ∧ intR.SR H K v2 x.yes.args ∧ intR.SR H K v3 x.no.regs ∧ intR.SR H K v4 x.no.args ∧ intR.SR H K v5 x.args
  len := by rintro _ _ _ _ ⟨_, _, _, _, _, rfl, _⟩; rfl
  one := by
    rintro _ _ _ _ ⟨_, _, _, _, _, rfl, h1, h2, h3, h4, h5⟩ u hu
    simp at hu
    rcases hu with rfl | rfl | rfl | rfl | rfl | rfl | rfl | rfl | rfl <;> first | rfl | exact h1.oneC | exact h2.oneC | exact h3.oneC | exact h4.oneC | exact h5.oneC
  turn := by rintro _ _ _ _ _ _ ⟨_, _, _, _, _, rfl, h1, h2, h3, h4, h5⟩ hs; exact ⟨_, _, _, _, _, rfl, h1.turn hs, h2.turn hs, h3.turn hs, h4.turn hs, h5.turn hs⟩
def blockR : Rep Block where
  es := 12
  pos := by decide
  R := fun H K cs x => ∃ vp vc ce, cs = .int .i64 x.regs :: vp :: vc :: ce ∧ tyR.SR H K vp x.params ∧ insR.SR H K vc x.code ∧ endR.R H K ce x.fin
  len := by rintro _ _ _ _ ⟨_, _, ce, rfl, _, _, h⟩; have := endR.len h; simp [this, endR]
  one := by
    rintro _ _ _ _ ⟨_, _, ce, rfl, h1, h2, h3⟩ u hu
    simp at hu
    rcases hu with rfl | rfl | rfl | hu
    · rfl
    · exact h1.oneC
    · exact h2.oneC
    · exact endR.one h3 u hu
  turn := by rintro _ _ _ _ _ _ ⟨_, _, _, rfl, h1, h2, h3⟩ hs; exact ⟨_, _, _, rfl, h1.turn hs, h2.turn hs, endR.turn h3 hs⟩
def funcR : Rep Fun where
  es := 4
  pos := by decide
  R := fun H K cs x => ∃ vp vr vb, cs = [.int .i64 x.regs, vp, vr, vb] ∧ tyR.SR H K vp x.params ∧ tyR.SR H K vr x.results ∧ blockR.SR H K vb x.blocks
  len := by rintro _ _ _ _ ⟨_, _, _, rfl, _⟩; rfl
  one := by
    rintro _ _ _ _ ⟨_, _, _, rfl, h1, h2, h3⟩ u hu
    simp at hu
    rcases hu with rfl | rfl | rfl | rfl <;> first | rfl | exact h1.oneC | exact h2.oneC | exact h3.oneC
  turn := by rintro _ _ _ _ _ _ ⟨_, _, _, rfl, h1, h2, h3⟩ hs; exact ⟨_, _, _, rfl, h1.turn hs, h2.turn hs, h3.turn hs⟩
theorem Q6y {c : Cx} {cs : List Value} {x : Fun} (h : funcR.at c cs x) : ∃ vp vr vb, cs = [.int .i64 x.regs, vp, vr, vb] ∧ tyR.sl c vp x.params ∧ tyR.sl c vr x.results ∧ blockR.sl c vb x.blocks := h
/-! ### codecs -/
section
variable {P : Program} {T : TypeId}
/-- A field as a kind of data. -/
theorem Cod.Of.part {α : Type} {r : Rep α} (c : Cod.Of P T r) {H : Heap} {cs : List Value} {x : α} (h : c.cod.rd H cs x) : r.R H (· < H.size) cs x := c.rd _ _ _ h
def Cod.Of.to {TI TL : TypeId} (ci : Cod.Of P TI intR) (cl : Cod.Of P TL intR.list) (h0 : fieldAt P T 0 = some (0, 1, TI)) (h1 : fieldAt P T 1 = some (1, 1, TL)) (h2 : fieldAt P T 2 = some (2, 1, TL)) (hT : P.cellsOf T = 3) : Cod.Of P T toR :=
  Cod.of (Fld.cod (Fld.more ci.cod h0 (Fld.more cl.cod h1 (Fld.more cl.cod h2 Fld.none))) h0 3 hT) toR rfl fun H cs x h => by
    obtain ⟨hl, g0, g1, g2, _⟩ := h
    match cs, hl with
    | [a, b, c], _ =>
      have e0 : [a] = [_] := ci.part g0
      obtain ⟨v1, e1, s1⟩ := cl.part g1
      obtain ⟨v2, e2, s2⟩ := cl.part g2
      replace e1 : [b] = [v1] := e1
      replace e2 : [c] = [v2] := e2
      simp only [List.cons.injEq, and_true] at e0 e1 e2
      subst e0 e1 e2
      exact ⟨⟨x.1, x.2.1, x.2.2.1⟩, b, c, rfl, s1, s2⟩
def Cod.Of.block {TI TL TC TE : TypeId} (ci : Cod.Of P TI intR) (cl : Cod.Of P TL tyR.list) (cc : Cod.Of P TC insR.list) (ce : Cod.Of P TE endR) (h0 : fieldAt P T 0 = some (0, 1, TI)) (h1 : fieldAt P T 1 = some (1, 1, TL)) (h2 : fieldAt P T 2 = some (2, 1, TC)) (h3 : fieldAt P T 3 = some (3, 9, TE)) (hT : P.cellsOf T = 12) : Cod.Of P T blockR :=
  Cod.of (Fld.cod (Fld.more ci.cod h0 (Fld.more cl.cod h1 (Fld.more cc.cod h2 (Fld.more ce.cod h3 Fld.none)))) h0 12 hT) blockR rfl fun H cs x h => by
    obtain ⟨hl, g0, g1, g2, g3, _⟩ := h
    match cs, hl with
    | [a0, a1, a2, a3, a4, a5, a6, a7, a8, a9, a10, a11], _ =>
      have e0 : [a0] = [_] := ci.part g0
      obtain ⟨v1, e1, s1⟩ := cl.part g1
      obtain ⟨v2, e2, s2⟩ := cc.part g2
      have s3 := ce.part g3
      replace e1 : [a1] = _ := e1
      replace e2 : [a2] = _ := e2
      replace s3 : endR.R H (· < H.size) [a3, a4, a5, a6, a7, a8, a9, a10, a11] x.2.2.2.1 := s3
      simp only [List.cons.injEq, and_true] at e0 e1 e2
      subst e0 e1 e2
      exact ⟨⟨x.1, x.2.1, x.2.2.1, x.2.2.2.1⟩, _, _, _, rfl, s1, s2, s3⟩
def Cod.Of.func {TI TL TB : TypeId} (ci : Cod.Of P TI intR) (cl : Cod.Of P TL tyR.list) (cb : Cod.Of P TB blockR.list) (h0 : fieldAt P T 0 = some (0, 1, TI)) (h1 : fieldAt P T 1 = some (1, 1, TL)) (h2 : fieldAt P T 2 = some (2, 1, TL)) (h3 : fieldAt P T 3 = some (3, 1, TB)) (hT : P.cellsOf T = 4) : Cod.Of P T funcR :=
  Cod.of (Fld.cod (Fld.more ci.cod h0 (Fld.more cl.cod h1 (Fld.more cl.cod h2 (Fld.more cb.cod h3 Fld.none)))) h0 4 hT) funcR rfl fun H cs x h => by
    obtain ⟨hl, g0, g1, g2, g3, _⟩ := h
    match cs, hl with
    | [a0, a1, a2, a3], _ =>
      have e0 : [a0] = [_] := ci.part g0
      obtain ⟨v1, e1, s1⟩ := cl.part g1
      obtain ⟨v2, e2, s2⟩ := cl.part g2
      obtain ⟨v3, e3, s3⟩ := cb.part g3
      replace e1 : [a1] = _ := e1
      replace e2 : [a2] = _ := e2
      replace e3 : [a3] = _ := e3
      simp only [List.cons.injEq, and_true] at e0 e1 e2 e3
      subst e0 e1 e2 e3
      exact ⟨⟨x.1, x.2.1, x.2.2.1, x.2.2.2.1⟩, _, _, _, rfl, s1, s2, s3⟩
end
end Go.Lir
namespace Go.Lir
set_option linter.unusedVariables false
abbrev Flt := Int × Int
/-- The first fault. -/
def orF (a b : Flt) : Flt := if a.1 = 0 ∧ b.1 ≠ 0 then b else a
def mkF (c at' : Int) : Flt := if c = 0 then (0, 0) else (c, at')
/-- Two codes at one place: the first that is not 0. -/
def orC (a b : Int) : Int := if a ≠ 0 then a else b
/-! which fields an instruction has -/
def fA (op : Int) : Bool := decide (op = 2 ∨ op = 4 ∨ op = 5 ∨ op = 6 ∨ op = 7 ∨ op = 8 ∨ op = 9 ∨ op = 10 ∨ op = 11 ∨ op = 13)
def fB (op : Int) : Bool := decide (op = 2 ∨ op = 7 ∨ op = 8 ∨ op = 9 ∨ op = 10)
def fC (op : Int) : Bool := decide (op = 10)
def fK (op : Int) : Bool := decide (op = 2 ∨ op = 6 ∨ op = 7 ∨ op = 14)
def fN (op : Int) : Bool := decide (op = 1)
def fG (op : Int) : Bool := decide (op = 14)
def fR (op : Int) : Bool := decide (op = 5 ∨ op = 14)
/-- A field that the kind has not is not 0. -/
def Ins.odd (x : Ins) : Prop := (fA x.op = false ∧ x.a ≠ 0) ∨ (fB x.op = false ∧ x.b ≠ 0) ∨ (fC x.op = false ∧ x.c ≠ 0) ∨ (fK x.op = false ∧ x.k ≠ 0) ∨ (fN x.op = false ∧ x.n ≠ 0) ∨ (fG x.op = false ∧ 0 < x.regs.length) ∨ (fR x.op = false ∧ 0 < x.args.length)
instance (x : Ins) : Decidable x.odd := by unfold Ins.odd; infer_instance
/-- What stands behind the form, kind by kind. -/
def insKind (n : Nat) (x : Ins) : Int :=
  if x.op = 2 then (if x.k < 1 ∨ 9 < x.k then 1 else 0)
  else if x.op = 5 then (if 8 < x.args.length then 2 else 0)
  else if x.op = 6 ∨ x.op = 7 then (if x.k < 0 ∨ 8 ≤ x.k then 1 else 0)
  else if x.op = 14 then (if x.k < 0 ∨ (n : Int) ≤ x.k then 1 else if 6 < x.regs.length ∨ 8 < x.args.length then 2 else 0)
  else 0
def insForm (n : Nat) (x : Ins) : Int := if x.op < 1 ∨ 14 < x.op then 3 else if x.odd then 4 else insKind n x
def toForm (n : Nat) (t : To) (is : Bool) : Int :=
  if is = false then (if t.block ≠ 0 ∨ 0 < t.regs.length ∨ 0 < t.args.length then 4 else 0)
  else if t.block < 0 ∨ (n : Int) ≤ t.block then 1 else if 16 < t.regs.length ∨ 8 < t.args.length then 2 else 0
def endForm (n : Nat) (e : Tail) : Int :=
  if e.op < 1 ∨ 3 < e.op then 3
  else if e.op ≠ 2 ∧ e.a ≠ 0 ∨ e.op ≠ 3 ∧ 0 < e.args.length then 4
  else if 8 < e.args.length then 2
  else orC (toForm n e.yes (decide (e.op ≠ 3))) (toForm n e.no (decide (e.op = 2)))
def Q60 (regs : Int) : List Ty → Int
  | [] => 0
  | t :: l => orC (t.fault regs) (Q60 regs l)
def Q28 (l : List Ty) (regs : Int) : Int := if 8 < l.length then 2 else Q60 regs l
def atFunc (f : Nat) : Int := f * 10000 + 9999
def atBlock (f b : Nat) : Int := f * 10000 + b * 100 + 90
def atEnd (f b : Nat) : Int := f * 10000 + b * 100 + 91
def atIns (f b i : Nat) : Int := f * 10000 + b * 100 + i
/-- The instructions from the i-th on. -/
def Q4X (n f b : Nat) : Nat → List Ins → Flt
  | _, [] => (0, 0)
  | i, x :: l => orF (mkF (insForm n x) (atIns f b i)) (Q4X n f b (i + 1) l)
def Q6C (x : Fun) (b : Nat) (y : Block) : Int :=
  if y.regs < x.regs ∨ 16 < y.regs then 1
  else if Q28 y.params y.regs ≠ 0 then Q28 y.params y.regs
  else if b = 0 ∧ (y.regs ≠ x.regs ∨ y.params ≠ x.params) then 9
  else if 40 < y.code.length then 2 else 0
def Q5U (n f : Nat) (x : Fun) (b : Nat) (y : Block) : Flt := orF (mkF (Q6C x b y) (atBlock f b)) (orF (Q4X n f b 0 y.code) (mkF (endForm x.blocks.length y.fin) (atEnd f b)))
def Q3R (n f : Nat) (x : Fun) : Nat → List Block → Flt
  | _, [] => (0, 0)
  | b, y :: l => orF (Q5U n f x b y) (Q3R n f x (b + 1) l)
def funHead (f : Nat) (x : Fun) : Int :=
  if x.regs < 0 ∨ 6 < x.regs then 1
  else if Q28 x.params x.regs ≠ 0 then Q28 x.params x.regs
  else if Q28 x.results x.regs ≠ 0 then Q28 x.results x.regs
  else if x.blocks.length < 1 ∨ 12 < x.blocks.length then 2
  else if f = 0 ∧ (0 < x.regs ∨ 0 < x.params.length ∨ ∃ t ∈ x.results, t.kind ≠ 1) then 18 else 0
def funFault (n f : Nat) (x : Fun) : Flt := orF (mkF (funHead f x) (atFunc f)) (Q3R n f x 0 x.blocks)
def Q4V (n : Nat) : Nat → List Fun → Flt
  | _, [] => (0, 0)
  | f, x :: l => orF (funFault n f x) (Q4V n (f + 1) l)
def Module.fault (m : Module) : Flt := orF (mkF (if m.funcs.length < 1 ∨ 8 < m.funcs.length then 2 else 0) (-1)) (Q4V m.funcs.length 0 m.funcs)
/-! has -/
end Go.Lir
namespace Go.Lir
set_option linter.unusedVariables false
def Q1e (c : UInt8) : Bool := decide (97 ≤ c.toNat ∧ c.toNat ≤ 122)
def Qi (c : UInt8) : Bool := decide (48 ≤ c.toNat ∧ c.toNat ≤ 57)
def Q5M (c : UInt8) : Bool := decide (c ∈ [(40 : UInt8), 41, 123, 125, 60, 62, 44, 59])
/-- A number's text, read. -/
def Q4B (t : List UInt8) : Option Int := match Lib.parseIntB 64 t with
  | .ok n => if Lib.itoa n = t then some n else none
  | _ => none
abbrev TokR := Except Int (List UInt8 × Option Int)
/-- 8: a number that is none. -/
def numT (t : List UInt8) : TokR := match Q4B t with
  | some n => .ok (t, some n)
  | none => .error 8
/-- The token that stands at the beginning: its text, its number; 6: none. -/
def tok1 : List UInt8 → TokR
  | [] => .error 6
  | c :: r =>
    if Q1e c = true then .ok ((c :: r).takeWhile Q1e, none)
    else if Qi c = true then numT ((c :: r).takeWhile Qi)
    else if c = 45 then match r with
      | [] => .error 6
      | d :: r' => if d = 62 then .ok ([45, 62], none) else if Qi d = true then numT (45 :: (d :: r').takeWhile Qi) else .error 6
    else if Q5M c = true then .ok ([c], none) else .error 6
theorem Q19 {c : UInt8} {r : List UInt8} (h : Q1e c = true) : tok1 (c :: r) = .ok ((c :: r).takeWhile Q1e, none) := by
  rw [tok1.eq_def]; dsimp only; rw [if_pos h]
theorem Qy {c : UInt8} {r : List UInt8} (h0 : ¬ Q1e c = true) (h : Qi c = true) : tok1 (c :: r) = numT ((c :: r).takeWhile Qi) := by
  rw [tok1.eq_def]; dsimp only; rw [if_neg h0, if_pos h]
theorem Q3t {r : List UInt8} : tok1 (45 :: 62 :: r) = .ok ([45, 62], none) := by
  rw [tok1.eq_def]; dsimp only; rw [if_neg (by decide), if_neg (by decide), if_pos rfl, if_pos rfl]
theorem Q18 {d : UInt8} {r : List UInt8} (h0 : ¬ d = 62) (h : Qi d = true) : tok1 (45 :: d :: r) = numT (45 :: (d :: r).takeWhile Qi) := by
  rw [tok1.eq_def]; dsimp only; rw [if_neg (by decide), if_neg (by decide), if_pos rfl, if_neg h0, if_pos h]
theorem tok1_min {d : UInt8} {r : List UInt8} (h0 : ¬ d = 62) (h : ¬ Qi d = true) : tok1 (45 :: d :: r) = .error 6 := by
  rw [tok1.eq_def]; dsimp only; rw [if_neg (by decide), if_neg (by decide), if_pos rfl, if_neg h0, if_neg h]
theorem tok1_one : tok1 [45] = .error 6 := by
  rw [tok1.eq_def]; dsimp only; rw [if_neg (by decide), if_neg (by decide), if_pos rfl]
theorem Q4s {c : UInt8} {r : List UInt8} (h0 : ¬ Q1e c = true) (h1 : ¬ Qi c = true) (h2 : ¬ c = 45) (h : Q5M c = true) : tok1 (c :: r) = .ok ([c], none) := by
  rw [tok1.eq_def]; dsimp only; rw [if_neg h0, if_neg h1, if_neg h2, if_pos h]
theorem Q5m {c : UInt8} {r : List UInt8} (h0 : ¬ Q1e c = true) (h1 : ¬ Qi c = true) (h2 : ¬ c = 45) (h : ¬ Q5M c = true) : tok1 (c :: r) = .error 6 := by
  rw [tok1.eq_def]; dsimp only; rw [if_neg h0, if_neg h1, if_neg h2, if_neg h]
/-- What stands between tokens, left away; true: within a remark. -/
def skip : Bool → List UInt8 → List UInt8
  | _, [] => []
  | true, c :: r => if c = 10 then skip false r else skip true r
  | false, c :: r => if c = 10 ∨ c = 32 ∨ c = 9 ∨ c = 13 then skip false r else if c = 35 then skip true r else c :: r
structure Tok where
  at_ : Nat
  text : List UInt8
  num : Option Int
def Qt (n : Nat) : Nat → List UInt8 → List Tok → Except Flt (List Tok)
  | 0, _, acc => .ok acc
  | k + 1, l, acc => match l with
    | [] => .ok acc
    | c :: r => match tok1 (c :: r) with
      | .error e => .error (e, (n : Int) - (c :: r).length)
      | .ok (t, m) => Qt n k (skip false ((c :: r).drop t.length)) (acc ++ [⟨n - (c :: r).length, t, m⟩])
/-- Scan -/
def scan (s : List UInt8) : Except Flt (List Tok) := if 40000 < s.length then .error (2, 40000) else Qt s.length (s.length + 1) (skip false s) []
theorem Q27 : ∀ (b : Bool) (l : List UInt8), (skip b l).length ≤ l.length
  | _, [] => by cases ‹Bool› <;> simp [skip]
  | true, c :: r => by
    have h1 := Q27 true r
    have h2 := Q27 false r
    rw [skip]; split <;> simp only [List.length_cons] <;> omega
  | false, c :: r => by
    have h1 := Q27 true r
    have h2 := Q27 false r
    rw [skip]; split
    · simp only [List.length_cons]; omega
    · split <;> simp only [List.length_cons] <;> omega
theorem Q3s {l : List UInt8} {t : List UInt8} {m : Option Int} (h : tok1 l = .ok (t, m)) : 0 < t.length ∧ t.length ≤ l.length := by
  have hn : ∀ {x : List UInt8} {t : List UInt8} {m : Option Int}, numT x = .ok (t, m) → t = x := by
    intro x t m h
    unfold numT at h
    split at h
    · cases h; rfl
    · cases h
  have hw : ∀ (p : UInt8 → Bool) (x : List UInt8), (x.takeWhile p).length ≤ x.length := fun p x => (List.takeWhile_prefix p).length_le
  match l, h with
  | c :: r, h =>
    rw [tok1.eq_def] at h
    dsimp only at h
    split at h
    · rename_i hc
      cases h
      exact ⟨by rw [List.takeWhile_cons, if_pos hc]; simp, hw _ _⟩
    · split at h
      · rename_i hc
        have := hn h; subst this
        exact ⟨by rw [List.takeWhile_cons, if_pos hc]; simp, hw _ _⟩
      · split at h
        · split at h
          · cases h
          · rename_i d r'
            split at h
            · cases h; simp
            · split at h
              · have := hn h; subst this
                have := hw Qi (d :: r')
                simp only [List.length_cons] at this ⊢
                omega
              · cases h
        · split at h
          · cases h; simp
          · cases h
theorem Qr {p : UInt8 → Bool} : ∀ {l : List UInt8} {c : UInt8} {r : List UInt8}, (∀ x ∈ l, p x = true) → p c = false → (l ++ c :: r).takeWhile p = l
  | [], c, r, _, hc => by rw [List.nil_append, List.takeWhile_cons, hc]; rfl
  | x :: l, c, r, h, hc => by
    rw [List.cons_append, List.takeWhile_cons, if_pos (h x (List.mem_cons_self ..)), Qr (fun y hy => h y (List.mem_cons_of_mem _ hy)) hc]
theorem QN {p : UInt8 → Bool} : ∀ {l : List UInt8}, ∀ x ∈ l.takeWhile p, p x = true
  | [], x, h => by simp at h
  | y :: l, x, h => by
    rw [List.takeWhile_cons] at h
    split at h
    · rename_i hy
      rcases List.mem_cons.1 h with rfl | h
      · exact hy
      · exact QN x h
    · simp at h
/-- A token's text is that token, if a blank stands behind it. -/
theorem Q46 {l : List UInt8} {t : List UInt8} {m : Option Int} (h : tok1 l = .ok (t, m)) (r2 : List UInt8) : tok1 (t ++ 32 :: r2) = .ok (t, m) := by
  have hd32 : Qi 32 = false := by decide
  have hl32 : Q1e 32 = false := by decide
  have hn : ∀ {x : List UInt8} {t : List UInt8} {m : Option Int}, numT x = .ok (t, m) → t = x := by
    intro x t m h
    unfold numT at h
    split at h
    · cases h; rfl
    · cases h
  match l, h with
  | c :: r, h =>
    rw [tok1.eq_def] at h
    dsimp only at h
    split at h
    · rename_i hc
      cases h
      rw [List.takeWhile_cons, if_pos hc, List.cons_append, Q19 hc, ← List.cons_append, Qr _ hl32]
      intro x hx
      rcases List.mem_cons.1 hx with rfl | hx
      · exact hc
      · exact QN x hx
    · rename_i hc0
      split at h
      · rename_i hc
        have h9 := hn h; subst h9
        have e : (c :: r).takeWhile Qi = c :: r.takeWhile Qi := by rw [List.takeWhile_cons, if_pos hc]
        have e2 : ((c :: r).takeWhile Qi ++ 32 :: r2).takeWhile Qi = (c :: r).takeWhile Qi := Qr QN hd32
        rw [e] at h e2 ⊢
        rw [List.cons_append] at e2 ⊢
        rw [Qy hc0 hc, e2]
        exact h
      · rename_i hc1
        split at h
        · rename_i hc2
          subst hc2
          split at h
          · cases h
          · rename_i d r'
            split at h
            · rename_i hd
              cases h
              rfl
            · rename_i hd0
              split at h
              · rename_i hd
                have h9 := hn h; subst h9
                have e : (d :: r').takeWhile Qi = d :: r'.takeWhile Qi := by rw [List.takeWhile_cons, if_pos hd]
                have e2 : ((d :: r').takeWhile Qi ++ 32 :: r2).takeWhile Qi = (d :: r').takeWhile Qi := Qr QN hd32
                rw [e] at h e2 ⊢
                rw [List.cons_append] at e2
                rw [List.cons_append, List.cons_append, Q18 hd0 hd, e2]
                exact h
              · cases h
        · rename_i hc2
          split at h
          · rename_i hc3
            cases h
            rw [List.cons_append, List.nil_append, Q4s hc0 hc1 hc2 hc3]
          · cases h
/-- A token begins with no blank. -/
theorem Q62 {l : List UInt8} {t : List UInt8} {m : Option Int} (h : tok1 l = .ok (t, m)) (r2 : List UInt8) : skip false (t ++ r2) = t ++ r2 := by
  have hlen := Q3s h
  have h2 := Q46 h []
  match t, hlen, h2 with
  | c :: t', _, h2 =>
    rw [List.cons_append] at h2 ⊢
    have hc : ¬ (c = 10 ∨ c = 32 ∨ c = 9 ∨ c = 13 ∨ c = 35) := by
      have hno : ∀ c : UInt8, c = 10 ∨ c = 32 ∨ c = 9 ∨ c = 13 ∨ c = 35 → Q1e c = false ∧ Qi c = false ∧ c ≠ 45 ∧ Q5M c = false := by
        rintro c (rfl | rfl | rfl | rfl | rfl) <;> decide
      intro hc
      obtain ⟨h3, h4, h5, h6⟩ := hno c hc
      rw [Q5m (by rw [h3]; decide) (by rw [h4]; decide) h5 (by rw [h6]; decide)] at h2
      cases h2
    rw [skip, if_neg (fun h => hc (by rcases h with h | h | h | h <;> simp [h])), if_neg (fun h => hc (by simp [h]))]
/-- The texts, with blanks and remarks between them. -/
def Qj : List Tok → List UInt8
  | [] => []
  | t :: l => t.text ++ [32, 35, 32, 45, 10] ++ Qj l
def Tok.good (t : Tok) : Prop := ∃ l, tok1 l = .ok (t.text, t.num)
theorem Q48 {n : Nat} : ∀ {k : Nat} {l : List UInt8} {acc res : List Tok}, Qt n k l acc = .ok res → (∀ t ∈ acc, t.good) → ∀ t ∈ res, t.good
  | 0, l, acc, res, h, ha => by rw [Qt] at h; cases h; exact ha
  | k + 1, [], acc, res, h, ha => by rw [Qt] at h; cases h; exact ha
  | k + 1, c :: r, acc, res, h, ha => by
    rw [Qt] at h
    split at h
    · cases h
    · rename_i t m he
      refine Q48 h ?_
      intro x hx
      rcases List.mem_append.1 hx with hx | hx
      · exact ha x hx
      · simp at hx; subst hx; exact ⟨_, he⟩
/-- The same but for the place. -/
def Tok.like (a b : Tok) : Prop := a.text = b.text ∧ a.num = b.num
theorem Q4K : ∀ (l : List Tok), (∀ t ∈ l, t.good) → skip false (Qj l) = Qj l
  | [], _ => rfl
  | t :: l, h => by
    obtain ⟨x, hx⟩ := h t (List.mem_cons_self ..)
    rw [Qj, List.append_assoc]
    exact Q62 hx _
theorem Q4M {n : Nat} : ∀ (l : List Tok) (k : Nat) (acc : List Tok), (∀ t ∈ l, t.good) → l.length < k → ∃ res, Qt n k (Qj l) acc = .ok (acc ++ res) ∧ res.length = l.length ∧ ∀ (i : Nat) (a b : Tok), res[i]? = some a → l[i]? = some b → a.like b
  | [], k, acc, _, hk => by
    cases k with
    | zero => omega
    | succ k => exact ⟨[], by rw [Qj, Qt, List.append_nil], rfl, by simp⟩
  | t :: l, 0, acc, _, hk => by omega
  | t :: l, k + 1, acc, h, hk => by
    obtain ⟨x, hx⟩ := h t (List.mem_cons_self ..)
    have hlen := Q3s hx
    have e1 : Qj (t :: l) = t.text ++ 32 :: ([35, 32, 45, 10] ++ Qj l) := by rw [Qj, List.append_assoc]; rfl
    have h1 := Q46 hx ([35, 32, 45, 10] ++ Qj l)
    rw [← e1] at h1
    obtain ⟨c, r, hcr⟩ : ∃ c r, Qj (t :: l) = c :: r := by
      cases hb : Qj (t :: l) with
      | nil => rw [hb] at e1; cases ht : t.text <;> rw [ht] at e1 <;> simp at e1
      | cons c r => exact ⟨c, r, rfl⟩
    have hdrop : (c :: r).drop t.text.length = [32, 35, 32, 45, 10] ++ Qj l := by
      rw [← hcr, e1, List.drop_left]; rfl
    obtain ⟨res, g1, g2, g3⟩ := Q4M l k (acc ++ [⟨n - (c :: r).length, t.text, t.num⟩]) (fun y hy => h y (List.mem_cons_of_mem _ hy)) (by simp at hk; omega)
    refine ⟨⟨n - (c :: r).length, t.text, t.num⟩ :: res, ?_, by simp [g2], ?_⟩
    · rw [hcr] at h1 ⊢
      rw [Qt, h1]
      dsimp only
      rw [hdrop]
      have hs : skip false ([32, 35, 32, 45, 10] ++ Qj l) = Qj l := by
        have := Q4K l (fun y hy => h y (List.mem_cons_of_mem _ hy))
        simpa [skip] using this
      rw [hs, g1, List.append_assoc]; rfl
    · intro i a b ha hb
      cases i with
      | zero =>
        simp only [List.getElem?_cons_zero, Option.some.injEq] at ha hb
        subst ha hb
        exact ⟨rfl, rfl⟩
      | succ i =>
        rw [List.getElem?_cons_succ] at ha hb
        exact g3 i a b ha hb
end Go.Lir
namespace Go.Lir
section
variable {P : Program} {l : List GO} {Q : QT} {ρ : Env} {w : World} {a : List UInt8}
theorem Q2G (a : List UInt8) : (⟨a.toArray⟩ : ByteArray).size = a.length := by rw [Lib.size_eq]
theorem tx_get (a : List UInt8) (i : Nat) : (⟨a.toArray⟩ : ByteArray)[i]? = a[i]? := by
  by_cases h : i < a.length
  · rw [List.getElem?_eq_getElem h, getElem?_pos _ _ (by rw [Q2G]; exact h)]
    rfl
  · rw [List.getElem?_eq_none (by omega), getElem?_neg _ _ (by rw [Q2G]; exact h)]
theorem Q5D (a : List UInt8) (i j : Nat) : (⟨a.toArray⟩ : ByteArray).extract i j = ⟨((a.take j).drop i).toArray⟩ := by
  apply ByteArray.ext
  apply Array.ext'
  simp [ByteArray.data_extract, List.drop_take]
theorem Q1a {d : Nat} {x : Operand} (hx : ρ.ev x = .string ⟨a.toArray⟩) (h : Q0 P l Q (upd ρ d (.int .i64 a.length)) w) : Q0 P (⟨none, .slen d x⟩ :: l) Q ρ w := s_slen hx (by rw [Q2G]; exact h)
theorem Q4u {d m : Nat} {x i : Operand} {k : IntKind} {b : UInt8} (hx : ρ.ev x = .string ⟨a.toArray⟩) (hi : ρ.ev i = .int k (m : Int)) (hb : a[m]? = some b) (h : Q0 P l Q (upd ρ d (.int .u8 b.toNat)) w) : Q0 P (⟨none, .sidx d x i⟩ :: l) Q ρ w :=
  s_sidx hx hi (by omega) (by rw [Int.toNat_natCast, tx_get]; exact hb) h
theorem Q4t {d l' h' : Nat} {x : Operand} {lo hi : Option Operand} (hx : ρ.ev x = .string ⟨a.toArray⟩) (hh : bnd ρ a.length hi h') (hl : bnd ρ 0 lo l') (h2 : h' ≤ a.length) (h3 : l' ≤ h')
    (h : Q0 P l Q (upd ρ d (.string ⟨((a.take h').drop l').toArray⟩)) w) : Q0 P (⟨none, .ssub d x lo hi⟩ :: l) Q ρ w :=
  ⟨_, l', h', hx, by rw [Q2G]; exact hh, hl, by rw [Q2G]; exact h2, h3, by rw [Q5D]; exact h⟩
theorem Q6d {d T : Nat} {x y : Operand} {a b : List UInt8} (hx : ρ.ev x = .string ⟨a.toArray⟩) (hy : ρ.ev y = .string ⟨b.toArray⟩)
    (h : Q0 P l Q (upd ρ d (.bool (decide (a ≠ b)))) w) : Q0 P (⟨none, .bin d .neq T x y⟩ :: l) Q ρ w :=
  ⟨_, fun w0 => by
    rw [hx, hy]
    have e : ∀ c : List UInt8, (⟨c.toArray⟩ : ByteArray).toList = c := fun c => Lib.toList_data _
    have e2 : (a != b) = decide (a ≠ b) := by by_cases h : a = b <;> simp [h]
    have e3 : (a == b) = decide (a = b) := by by_cases h : a = b <;> simp [h]
    simp [eqGuard, binOp, Op.stringOp, e, e2, e3], h⟩
/-- A number that lies in memory: for measures. -/
def Q6A (w : World) (b j : Nat) : Int := match w.cell? ⟨b, j, none⟩ with
  | some (.int _ n) => n
  | _ => 0
theorem Q2b {c : Cx} {L : List Res} {T b j i : Nat} {cs : List Value} {k : IntKind} {n : Int} (hS : St c w L) (hi : nth L i = some (blk b T cs)) (hj : cs[j]? = some (.int k n)) : Q6A w b j = n := by
  unfold Q6A; rw [(hS.blkAt hi).cell hj]
/-- A call of a function that was handed in. -/
theorem s_callf {d : Nat} {x : Operand} {xs : List Operand} {f : FuncId} {args : List Value} {S : Value → World → Prop} (hx : ρ.ev x = .func (.func f) #[] #[]) (hf : Q3N P f = true) (hxs : xs.map ρ.ev = args) (hc : Rets P f args w S)
    (h : ∀ v w', S v w' → Q0 P l Q (upd ρ d v) w') : Q0 P (⟨none, .callv (some d) x xs⟩ :: l) Q ρ w := by
  unfold Q3N at hf
  rw [Option.any_eq_true] at hf
  obtain ⟨fn, h1, h2⟩ := hf
  rw [Bool.and_eq_true, Bool.not_eq_true'] at h2
  refine s_callv (cap := []) hx h1 h2.1 h2.2 (by rw [hxs, List.append_nil]) hc ?_
  rintro e w' ⟨v, rfl, hv⟩
  exact h v w' hv
end
end Go.Lir
namespace Go.Proofs.YtjecflbbcnocdaaDoor
open Go.Lir
set_option maxHeartbeats 1000000
attribute [local irreducible] LC.wp Q0 Qw QF retQ Q2o LO.wp Ql Calls
set_option linter.unusedSimpArgs false
set_option linter.unusedVariables false
variable {cx : Cx} {w : World} {L : List Res}
theorem Q5r {c : UInt8} (hS : St cx w L) : Rets Tryd.prog Q3b [.int .u8 c.toNat] w fun u w' => u = .bool (Q1e c) ∧ St cx w' L := by
  all_goals refine Q3B ?_
  all_goals (unfold token_letter_lc; refine Q3 ?_; refine Q6 ?_; refine zm ?_; refine zn ?_; refine Q3 ?_; refine Q6 ?_; refine zm ?_)
  all_goals (first | (refine zgeqt ?_) | (refine zgeqf ?_) | (refine Q4v rfl rfl (fun hc => ?_) (fun hc => ?_)))
  all_goals (refine zm ?_; (first | refine s_gn rfl rfl ?_ | (refine s_gy rfl ?_; refine zm ?_)))
  all_goals (first | refine s_gn rfl rfl ?_ | (refine s_gy rfl ?_; (first | (refine zleqt ?_) | (refine zleqf ?_) | (refine Q6f rfl rfl (fun hc => ?_) (fun hc => ?_)))))
  all_goals ((first | (refine zpt ?_) | (refine zpf ?_)); refine zm ?_; refine zn ?_; refine zr ?_; refine zf ?_; exact ⟨_, rfl, (by unfold Q1e; first | rw [decide_eq_true (by omega)] | rw [decide_eq_false (by omega)]), hS.sp⟩)
theorem Q5i {c : UInt8} (hS : St cx w L) : Rets Tryd.prog Q3D [.int .u8 c.toNat] w fun u w' => u = .bool (Qi c) ∧ St cx w' L := by
  all_goals refine Q3W ?_
  all_goals (unfold token_digit_lc; refine Q3 ?_; refine Q6 ?_; refine zm ?_; refine zn ?_; refine Q3 ?_; refine Q6 ?_; refine zm ?_)
  all_goals (first | (refine zgeqt ?_) | (refine zgeqf ?_) | (refine Q4v rfl rfl (fun hc => ?_) (fun hc => ?_)))
  all_goals (refine zm ?_; (first | refine s_gn rfl rfl ?_ | (refine s_gy rfl ?_; refine zm ?_)))
  all_goals (first | refine s_gn rfl rfl ?_ | (refine s_gy rfl ?_; (first | (refine zleqt ?_) | (refine zleqf ?_) | (refine Q6f rfl rfl (fun hc => ?_) (fun hc => ?_)))))
  all_goals ((first | (refine zpt ?_) | (refine zpf ?_)); refine zm ?_; refine zn ?_; refine zr ?_; refine zf ?_; exact ⟨_, rfl, (by unfold Qi; first | rw [decide_eq_true (by omega)] | rw [decide_eq_false (by omega)]), hS.sp⟩)
end Go.Proofs.YtjecflbbcnocdaaDoor
namespace Go.Lir
section
variable {P : Program} {l : List GO} {Q : QT} {ρ : Env} {w : World} {c : Cx} {L : List Res} {v : Value}
theorem Q6e {d T : Nat} {x y : Operand} {a b : List UInt8} (hx : ρ.ev x = .string ⟨a.toArray⟩) (hy : ρ.ev y = .string ⟨b.toArray⟩) (hl : a.length + b.length ≤ 9223372036854775807)
    (h : Q0 P l Q (upd ρ d (.string ⟨(a ++ b).toArray⟩)) w) : Q0 P (⟨none, .bin d .add T x y⟩ :: l) Q ρ w :=
  ⟨_, fun w0 => by
    rw [hx, hy]
    have := run_string_add_sum (P := P) w0 (⟨a.toArray⟩ : ByteArray) ⟨b.toArray⟩ (by simpa [ByteArray.size] using hl)
    rw [ByteArray.mk_append_mk] at this
    simpa [eqGuard, binOp] using this, h⟩
theorem s_seql {d T : Nat} {x y : Operand} {a b : List UInt8} (hx : ρ.ev x = .string ⟨a.toArray⟩) (hy : ρ.ev y = .string ⟨b.toArray⟩)
    (h : Q0 P l Q (upd ρ d (.bool (decide (a = b)))) w) : Q0 P (⟨none, .bin d .eql T x y⟩ :: l) Q ρ w :=
  ⟨_, fun w0 => by
    rw [hx, hy]
    have e : ∀ c : List UInt8, (⟨c.toArray⟩ : ByteArray).toList = c := fun c => Lib.toList_data _
    have e2 : (a == b) = decide (a = b) := by by_cases h : a = b <;> simp [h]
    simp [eqGuard, binOp, Op.stringOp, e, e2], h⟩
theorem Q5u {w w' : World} (h : Go.RowKit.Below w.heap.size w w') : Fr NF w w' := ⟨h.os, h.tape, h.output, h.size, fun b hb _ => h.block b hb⟩
theorem grow_fr (w : World) (k : Nat) (os : Array Obj) : Fr NF w (Go.Sort.grow (w.drewN k) os) :=
  ⟨rfl, rfl, rfl, by simp [Go.Sort.grow], fun b hb _ => by simp only [Go.Sort.grow, World.heap_drewN]; rw [Array.getElem?_append_left hb]⟩
/-- The table lies in what is only read. -/
def TabK (P : Program) (c : Cx) (name : String) (k : IntKind) (zs : List Int) : Prop := ∃ g, c.K g ∧ ∀ w : World, w.heap[g]? = c.H0[g]? → Lib.TabIs P w name k zs
theorem TabK.up {name : String} {k : IntKind} {zs : List Int} {c' : Cx} (h : TabK P c name k zs) (hle : c.Le c') : TabK P c' name k zs := by
  obtain ⟨g, h1, h2⟩ := h
  exact ⟨g, (hle.K g h1).1, fun w hw => h2 w (hw.trans (hle.K g h1).2)⟩
theorem TabK.now {name : String} {k : IntKind} {zs : List Int} (h : TabK P c name k zs) (hS : St c w L) : Lib.TabIs P w name k zs := by
  obtain ⟨g, h1, h2⟩ := h
  exact h2 w (hS.1.same g h1)
theorem TabK.top {name : String} {k : IntKind} {zs : List Int} (h : Lib.TabIs P w name k zs) : TabK P (Cx.top w) name k zs := by
  unfold Lib.TabIs World.var? at h
  cases hg : P.globalNamed name with
  | none => simp [hg] at h
  | some g =>
    simp only [hg, Option.bind_some] at h
    have hlt : g < w.heap.size := by
      rcases Nat.lt_or_ge g w.heap.size with h' | h'
      · exact h'
      · rw [Array.getElem?_eq_none h'] at h; simp at h
    refine ⟨g, hlt, fun w' hw' => ?_⟩
    have hw2 : w'.heap[g]? = w.heap[g]? := hw'
    unfold Lib.TabIs World.var?
    simp only [hg, Option.bind_some]
    rw [hw2]; exact h
end
end Go.Lir
namespace Go.Proofs.YtjecflbbcnocdaaDoor
open Go.Lir
set_option maxHeartbeats 1000000
attribute [local irreducible] LC.wp Q0 Qw QF retQ Q2o LO.wp Ql Calls
set_option linter.unusedSimpArgs false
set_option linter.unusedVariables false
theorem pi_nil (n : Int) : Lib.parseIntB 64 [] ≠ .ok n := fun h => by cases h
theorem pi_cases (t : List UInt8) : (∃ n, Lib.parseIntB 64 t = .ok n) ∨ Lib.parseIntB 64 t = .range ∨ Lib.parseIntB 64 t = Lib.parseIntB 64 [] := by
  cases h : Lib.parseIntB 64 t with
  | ok n => exact .inl ⟨n, rfl⟩
  | range => exact .inr (.inl rfl)
  | _ => exact .inr (.inr rfl)
attribute [local irreducible] Lib.itoa Lib.parseIntB
variable {cx : Cx} {w : World} {L : List Res}
/-- The table of powers of ten lies in what is only read. -/
abbrev PowT (c : Cx) : Prop := TabK Tryd.prog c "internal/strconv.uint64pow10" .u64 Lib.pow10Tab
/-- An error of the library's lies in what is only read. -/
def ErrV (c : Cx) (g : Nat) : Prop := c.K g ∧ ∀ w : World, w.heap[g]? = c.H0[g]? → ∃ ev, w.cell? ⟨g, 0, none⟩ = some ev ∧ (ev = .nilIface ∨ ∃ te pe, ev = .iface te pe)
theorem ErrV.up {c c' : Cx} {g : Nat} (h : ErrV c g) (hle : c.Le c') : ErrV c' g := ⟨(hle.K g h.1).1, fun w hw => h.2 w (hw.trans (hle.K g h.1).2)⟩
theorem ErrV.now {c : Cx} {g : Nat} (h : ErrV c g) (hS : St c w L) : ∃ ev, w.cell? ⟨g, 0, none⟩ = some ev ∧ (ev = .nilIface ∨ ∃ te pe, ev = .iface te pe) := h.2 w (hS.1.same g h.1)
/-- What the numbers' texts need. -/
structure NumK (c : Cx) : Prop where
  pow : PowT c
  syn : ErrV c 1
  rng : ErrV c 2
theorem NumK.up {c c' : Cx} (h : NumK c) (hle : c.Le c') : NumK c' := ⟨h.pow.up hle, h.syn.up hle, h.rng.up hle⟩
theorem bytes_fr (w : World) (T : TypeId) (t : ByteArray) : Fr NF w (Lib.bytesWorld w T t) :=
  ⟨rfl, rfl, rfl, by rw [Lib.bytesWorld_size]; omega, fun b hb _ => Lib.bytesWorld_at_old w T t b hb⟩
theorem ifmt_c {n : Int} (h0 : -9223372036854775808 ≤ n) (h1 : n ≤ 9223372036854775807) (hT : NumK cx) (hS : St cx w L) :
    Rets Tryd.prog 58 [.int .i64 n, .int .i64 10] w fun u w' => u = .string ⟨(Lib.itoa n).toArray⟩ ∧ St cx w' L := by
  refine Calls.mono (Tryd.internal_strconv_FormatInt_10 n h0 h1 w (hT.pow.now hS)) ?_
  rintro e w' ⟨rfl, k, os, rfl⟩
  exact ⟨_, rfl, rfl, hS.fr0 (grow_fr w k os)⟩
/-- A number's text, read: the number, or an error. -/
theorem parse_c {t : List UInt8} (ht : t.length ≤ 100000) (hT : NumK cx) (hS : St cx w L) :
    Rets Tryd.prog 34 [.string ⟨t.toArray⟩, .int .i64 10, .int .i64 64] w fun u w' => (∃ n, Lib.parseIntB 64 t = .ok n ∧ u = .tuple #[.int .i64 n, .nilIface] ∧ St cx w' L) ∨ ((∀ n, Lib.parseIntB 64 t ≠ .ok n) ∧ ∃ n T p, u = .tuple #[.int .i64 n, .iface T p] ∧ oneC p = true ∧ St cx w' L) := by
  have hsz : (⟨t.toArray⟩ : ByteArray).size = t.length := Q2G t
  rcases pi_cases t with ⟨n, h⟩ | h | h
  · refine Calls.mono (Tryd.strconv_ParseInt_10_at64_ok ⟨t.toArray⟩ (by omega) n h w) ?_
    rintro e w' ⟨rfl, h2⟩
    refine ⟨_, rfl, .inl ⟨n, h, rfl, ?_⟩⟩
    rcases h2 with rfl | ⟨s, rfl⟩
    · exact hS
    · exact hS.fr0 (bytes_fr w _ s)
  · obtain ⟨ev, h1, h2⟩ := hT.rng.now hS
    refine Calls.mono (Tryd.strconv_ParseInt_10_at64_range ⟨t.toArray⟩ (by omega) h ev w h1 h2) ?_
    rintro e w' ⟨N, rfl, _, _, hb⟩
    exact ⟨_, rfl, .inr ⟨fun n hn => (by rw [h] at hn; cases hn), _, _, _, rfl, rfl, hS.fr0 (Q5u hb)⟩⟩
  · obtain ⟨ev, h1, h2⟩ := hT.syn.now hS
    refine Calls.mono (Tryd.strconv_ParseInt_10_at64_syntax ⟨t.toArray⟩ (by omega) h ev w h1 h2) ?_
    rintro e w' ⟨N, rfl, _, _, hb⟩
    exact ⟨_, rfl, .inr ⟨fun n hn => pi_nil n (h.symm.trans hn), _, _, _, rfl, rfl, hS.fr0 (Q5u hb)⟩⟩
theorem fmt_c {n : Int} (h0 : -9223372036854775808 ≤ n) (h1 : n ≤ 9223372036854775807) (hT : NumK cx) (hS : St cx w L) :
    Rets Tryd.prog 35 [.int .i64 n, .int .i64 10] w fun u w' => u = .string ⟨(Lib.itoa n).toArray⟩ ∧ St cx w' L := by
  all_goals refine Q2h ?_
  all_goals (unfold strconv_FormatInt_lc; refine Q3 ?_; refine Q6 ?_; refine zm ?_; refine zn ?_; refine Q3 ?_; refine Q6 ?_; refine zm ?_; refine zm ?_; refine zR2 (c := ifmt_c h0 h1 hT hS) (h := ?_); rintro v1 w1 ⟨rfl, hS⟩; refine zm ?_; refine zn ?_; refine zr ?_; refine zf ?_; exact ⟨_, rfl, rfl, hS.sp⟩)
theorem iby_c {s : List UInt8} {c : UInt8} (hS : St cx w L) : Rets Tryd.prog 33 [.string ⟨s.toArray⟩, .int .u8 c.toNat] w fun u w' => u = .int .i64 (Lib.indexByte s c) ∧ St cx w' L := by
  refine Calls.mono (Tryd.strings_IndexByte ⟨s.toArray⟩ c.toNat w) ?_
  rintro e w' ⟨rfl, rfl⟩
  refine ⟨_, rfl, ?_, hS⟩
  rw [Int.toNat_natCast]
  simp
theorem ihp_c {s p : List UInt8} (hl : s.length ≤ 100000) (hS : St cx w L) : Rets Tryd.prog 54 [.string ⟨s.toArray⟩, .string ⟨p.toArray⟩] w fun u w' => u = .bool (decide (s.take p.length = p)) ∧ St cx w' L := by
  all_goals refine QC ?_
  all_goals (unfold internal_stringslite_HasPrefix_lc; refine Q3 ?_; refine Q6 ?_; refine zm ?_; refine zn ?_; refine Q3 ?_; refine Q6 ?_; refine zm ?_; refine Q1a rfl ?_; refine zm ?_; refine Q1a rfl ?_)
  all_goals (first | (refine zgeqt ?_) | (refine zgeqf ?_) | (refine Q4v rfl rfl (fun hc => ?_) (fun hc => ?_)))
  all_goals (refine zm ?_; (first | refine s_gn rfl rfl ?_ | (refine s_gy rfl ?_; refine zm ?_)); (first | refine s_gn rfl rfl ?_ | (refine s_gy rfl ?_; refine zm ?_)); (first | refine s_gn rfl rfl ?_ | (refine s_gy rfl ?_; refine Q1a rfl ?_)); (first | refine s_gn rfl rfl ?_ | (refine s_gy rfl ?_; refine Q4t rfl (h' := p.length) ⟨_, rfl⟩ rfl (by omega) (by omega) ?_; rw [List.drop_zero])); (first | refine s_gn rfl rfl ?_ | (refine s_gy rfl ?_; refine zm ?_)); (first | refine s_gn rfl rfl ?_ | (refine s_gy rfl ?_; refine s_seql rfl rfl ?_)); (first | (refine zpt ?_) | (refine zpf ?_)); refine zm ?_; refine zn ?_; refine zr ?_; refine zf ?_; (first | exact ⟨_, rfl, rfl, hS.sp⟩ | exact ⟨_, rfl, (by rw [decide_eq_false]; intro h; have h9 := congrArg List.length h; rw [List.length_take] at h9; omega), hS.sp⟩))
theorem hp_c {s p : List UInt8} (hl : s.length ≤ 100000) (hS : St cx w L) : Rets Tryd.prog 32 [.string ⟨s.toArray⟩, .string ⟨p.toArray⟩] w fun u w' => u = .bool (decide (s.take p.length = p)) ∧ St cx w' L := by
  all_goals refine Q2e ?_
  all_goals (unfold strings_HasPrefix_lc; refine Q3 ?_; refine Q6 ?_; refine zm ?_; refine zn ?_; refine Q3 ?_; refine Q6 ?_; refine zm ?_; refine zm ?_; refine zR2 (c := ihp_c hl hS) (h := ?_); rintro v1 w1 ⟨rfl, hS⟩; refine zm ?_; refine zn ?_; refine zr ?_; refine zf ?_; exact ⟨_, rfl, rfl, hS.sp⟩)
end Go.Proofs.YtjecflbbcnocdaaDoor
namespace Go.Lir
section
variable {c : UInt8} {r l : List UInt8} {rem : Bool} {src : List UInt8} {i at0 : Nat}
theorem skip_nil : skip rem [] = [] := by cases rem <;> rfl
theorem skip_nl (h : c.toNat = 10) : skip rem (c :: r) = skip false r := by
  obtain rfl : c = 10 := UInt8.toNat_inj.1 h
  cases rem
  · rw [skip, if_pos (.inl rfl)]
  · rw [skip, if_pos rfl]
theorem skip_rem (h : c.toNat ≠ 10) : skip true (c :: r) = skip true r := by
  rw [skip, if_neg (by rintro rfl; exact h rfl)]
theorem skip_bl (h : c.toNat = 32 ∨ c.toNat = 9 ∨ c.toNat = 13) : skip false (c :: r) = skip false r := by
  rw [skip, if_pos (by rcases h with h | h | h; exact .inr (.inl (UInt8.toNat_inj.1 h)); exact .inr (.inr (.inl (UInt8.toNat_inj.1 h))); exact .inr (.inr (.inr (UInt8.toNat_inj.1 h))))]
theorem Q64 (h : c.toNat = 35) : skip false (c :: r) = skip true r := by
  obtain rfl : c = 35 := UInt8.toNat_inj.1 h
  rw [skip, if_neg (by decide), if_pos rfl]
theorem Q63 (h0 : c.toNat ≠ 10) (h1 : c.toNat ≠ 32) (h2 : c.toNat ≠ 9) (h3 : c.toNat ≠ 13) (h4 : c.toNat ≠ 35) : skip false (c :: r) = c :: r := by
  rw [skip, if_neg, if_neg (fun h : c = 35 => h4 (by rw [h]; rfl))]
  rintro (h | h | h | h) <;> subst h
  · exact h0 rfl
  · exact h1 rfl
  · exact h2 rfl
  · exact h3 rfl
theorem Q2w {p : UInt8 → Bool} : ∀ {l : List UInt8}, (∀ x ∈ l, p x = true) → l.takeWhile p = l
  | [], _ => rfl
  | x :: l, h => by rw [List.takeWhile_cons, if_pos (h x (List.mem_cons_self ..)), Q2w fun y hy => h y (List.mem_cons_of_mem _ hy)]
/-- So many that pass. -/
theorem Q5X {p : UInt8 → Bool} {k : Nat} (h : ∀ x ∈ (src.drop at0).take k, p x = true) (hk : at0 + k ≤ src.length) (hs : ∀ x, src[at0 + k]? = some x → p x = false) : (src.take (at0 + k)).drop at0 = (src.drop at0).takeWhile p ∧ k = ((src.drop at0).takeWhile p).length := by
  have e : (src.take (at0 + k)).drop at0 = (src.drop at0).take k := by rw [List.drop_take]; congr 1; omega
  have hlen : ((src.drop at0).take k).length = k := by rw [List.length_take, List.length_drop]; omega
  have e2 : (src.drop at0).takeWhile p = (src.drop at0).take k := by
    obtain ⟨A, hA⟩ : ∃ A, (src.drop at0).take k = A := ⟨_, rfl⟩
    have e3 : src.drop at0 = A ++ src.drop (at0 + k) := by rw [← hA, ← List.drop_drop, List.take_append_drop]
    rw [hA] at h ⊢
    rw [e3]
    rcases Nat.lt_or_ge (at0 + k) src.length with h2 | h2
    · obtain ⟨x, hx⟩ : ∃ x, src[at0 + k]? = some x := ⟨_, List.getElem?_eq_getElem h2⟩
      rw [Qa hx, Qr h (hs x hx)]
    · rw [List.drop_of_length_le h2, List.append_nil]
      exact Q2w h
  rw [e, e2, hlen]
  exact ⟨rfl, rfl⟩
theorem Q5C {p : UInt8 → Bool} {k : Nat} {x : UInt8} (h : ∀ x ∈ (src.drop at0).take k, p x = true) (hx : src[at0 + k]? = some x) (hp : p x = true) : ∀ x ∈ (src.drop at0).take (k + 1), p x = true :=
  all_snoc h (by rw [List.getElem?_drop]; exact hx) hp
end
end Go.Lir
namespace Go.Proofs.YtjecflbbcnocdaaDoor
open Go.Lir
set_option maxHeartbeats 1000000
attribute [local irreducible] LC.wp Q0 Qw QF retQ Q2o LO.wp Ql Calls
set_option linter.unusedSimpArgs false
set_option linter.unusedVariables false
attribute [local irreducible] skip
variable {cx : Cx} {w : World} {L : List Res}
@[reducible] def scn (sb : Nat) (src : List UInt8) (i : Nat) : Res := blk sb 44 [.string ⟨src.toArray⟩, .int .i64 (i : Int)]
theorem Q6D {src : List UInt8} {sb at0 : Nat} (hl : src.length ≤ 100000) (ha : at0 ≤ src.length) (hS : St cx w (scn sb src at0 :: L)) : Rets Tryd.prog Q5 [.pointer (some ⟨sb, 0, none⟩)] w fun u w' => ∃ at1, u = .tuple #[] ∧ at0 ≤ at1 ∧ at1 ≤ src.length ∧ src.drop at1 = skip false (src.drop at0) ∧ St cx w' (scn sb src at1 :: L) := by
  all_goals refine Q1F ?_
  all_goals (unfold token_scanner_blank_lc; refine Q3 ?_; refine Q6 ?_; refine zm ?_; refine zn ?_; refine QK ?_)
  refine zo [0] (fun A ρ' w' => ∃ (rem : Bool) (i : Nat) (qc : Value), Has ρ' A ∧ Has ρ' [(2, .bool rem), (3, qc)] ∧ (at0 ≤ i) ∧ (i ≤ src.length) ∧ (skip false (src.drop at0) = skip rem (src.drop i)) ∧ St cx w' (scn sb src i :: L)) (fun _ w' => (src.length - Q6A w' sb 1).toNat) ?_ ?_
  · exact ⟨false, at0, _, zh, zh, (by omega), (by omega), rfl, hS.sp⟩
  rintro ρ w1 ⟨rem, i, qc, hA, hρ, hi0, hi, hd, hS⟩; obtain ⟨ρ, rfl⟩ := env2 hA hρ; have hm0 := Q2b (j := 1) hS (i := 0) rfl rfl
  unfold QE
  all_goals (refine Q3 ?_; refine Q3 ?_; refine zD [(0, none), (1, none), (2, none), (3, none), (4, none), (5, none), (6, none), (7, none), (8, none), (9, some none)] ?_; have hS := hS.drew; refine zm ?_; refine Qk rfl ?_; refine Q8 rfl ?_; refine zl hS ?_; refine zm ?_; refine Qk rfl ?_; refine Q8 rfl ?_; refine zl hS ?_; refine Q1a rfl ?_)
  all_goals (first | (refine zlsst ?_) | (refine zlssf ?_) | (refine Q54 rfl rfl (fun hc => ?_) (fun hc => ?_)))
  all_goals (refine zn ?_)
  all_goals
    first
    | (refine Qh rfl ?_ -- Q5 c0
       all_goals (refine zex ?_)
       all_goals (refine q_end0 ?_; exact ⟨_, rfl, i, rfl, hi0, hi, (by rw [hd, List.drop_of_length_le (by omega), skip_nil]), hS.sp⟩))
    | (refine Qg rfl ?_ -- Q5 c0
       all_goals (refine zsk ?_)
       refine zM [0] (fun A ρ' w' => ∃ (rem2 : Bool), Has ρ' A ∧ Has ρ' [(2, .bool rem2)] ∧ (skip false (src.drop at0) = skip rem2 (src.drop (i + 1))) ∧ St cx w' (scn sb src i :: L)) ?_ ?_
       · skip
         all_goals (refine QK ?_; refine Q3 ?_; obtain ⟨c, hc9⟩ : ∃ x, src[i]? = some x := ⟨_, List.getElem?_eq_getElem (by omega)⟩; rw [Qa hc9] at hd; refine zD [(0, none), (1, none), (2, none), (3, none), (4, none), (5, none), (6, none), (7, none), (8, none), (9, some none)] ?_; have hS := hS.drew; refine zm ?_; refine Qk rfl ?_; refine Q8 rfl ?_; refine zl hS ?_; refine zm ?_; refine Qk rfl ?_; refine Q8 rfl ?_; refine zl hS ?_; refine Q4u rfl rfl hc9 ?_; refine zm ?_; refine zn ?_; refine QK ?_; refine Q3 ?_; refine Q6 ?_; refine zm ?_)
         all_goals (first | (refine Q5A ?_) | (refine Q5B ?_) | (refine Q2M rfl rfl (fun hc => ?_) (fun hc => ?_)))
         all_goals (refine zm ?_; refine zn ?_)
         all_goals
           first
           | (refine Qg rfl ?_ -- Q5 c1
              all_goals (refine Q6 ?_; refine zm ?_)
              all_goals refine zn ?_)
           | (refine Qh rfl ?_ -- Q5 c1
              all_goals (refine Q3 ?_)
              all_goals (cases rem)
              all_goals (refine Q6 ?_; refine zm ?_; refine zm ?_; (first | refine s_gn rfl rfl ?_ | (refine s_gy rfl ?_; refine zm ?_)))
              all_goals (first | refine s_gn rfl rfl ?_ | (refine s_gy rfl ?_; (first | (refine Q5A ?_) | (refine Q5B ?_) | (refine Q2M rfl rfl (fun hc => ?_) (fun hc => ?_)))))
              all_goals ((first | (refine zpt ?_) | (refine zpf ?_)); refine zm ?_; (first | refine s_gn rfl rfl ?_ | (refine s_gy rfl ?_; refine zm ?_)))
              all_goals (first | refine s_gn rfl rfl ?_ | (refine s_gy rfl ?_; (first | (refine Q5A ?_) | (refine Q5B ?_) | (refine Q2M rfl rfl (fun hc => ?_) (fun hc => ?_)))))
              all_goals ((first | (refine zpt ?_) | (refine zpf ?_)); refine zm ?_; (first | refine s_gn rfl rfl ?_ | (refine s_gy rfl ?_; refine zm ?_)))
              all_goals (first | refine s_gn rfl rfl ?_ | (refine s_gy rfl ?_; (first | (refine Q5A ?_) | (refine Q5B ?_) | (refine Q2M rfl rfl (fun hc => ?_) (fun hc => ?_)))))
              all_goals ((first | (refine zpt ?_) | (refine zpf ?_)); refine zm ?_; refine zn ?_)
              all_goals
                first
                | (refine Qg rfl ?_ -- Q5 c2
                   all_goals refine zsk ?_)
                | (refine Qh rfl ?_ -- Q5 c2
                   all_goals (refine Q3 ?_; refine Q6 ?_; refine zm ?_)
                   all_goals (first | (refine Q5A ?_) | (refine Q5B ?_) | (refine Q2M rfl rfl (fun hc => ?_) (fun hc => ?_)))
                   all_goals (refine zm ?_; refine zn ?_)
                   all_goals
                     first
                     | (refine Qg rfl ?_ -- Q5 c3
                        all_goals (refine Q6 ?_; refine zm ?_)
                        all_goals refine zn ?_)
                     | (refine Qh rfl ?_ -- Q5 c3
                        all_goals (refine zr ?_; refine q_ret0 ?_)
                        all_goals (exact ⟨_, rfl, i, rfl, hi0, hi, (by rw [hd, Q63 (by omega) (by omega) (by omega) (by omega) (by omega), ← Qa hc9]), hS.sp⟩))))
         all_goals ((first | (exact ⟨false, zh, zh, hd.trans (skip_nl (by omega)), hS.sp⟩) | (exact ⟨true, zh, zh, hd.trans (skip_rem (by omega)), hS.sp⟩) | (exact ⟨false, zh, zh, hd.trans (skip_bl (by omega)), hS.sp⟩) | (exact ⟨true, zh, zh, hd.trans (Q64 (by omega)), hS.sp⟩)))
       rintro ρ w1 ⟨rem2, hA, hρ, hd2, hS⟩; obtain ⟨ρ, rfl⟩ := env2 hA hρ
       all_goals (refine Q6 ?_; refine zm ?_; refine Qk rfl ?_; refine Q8 rfl ?_; refine zl hS ?_; refine zad ?_; refine Qk rfl ?_; refine Q8 rfl ?_; refine zst hS ?_; intro w1 hS; have hS := hS.ns; refine zn ?_)
       all_goals (exact ⟨⟨rem2, i + 1, _, zh, zh, (by omega), (by omega), hd2, hS.sp⟩, by rw [hm0, Q2b (j := 1) hS (i := 0) rfl rfl]; omega⟩))
theorem Q5Y {src : List UInt8} {sb at0 g : Nat} {p : UInt8 → Bool} (hg : Q3N Tryd.prog g = true) (hp : ∀ (c : UInt8) {cx : Cx} {w : World} {L : List Res}, St cx w L → Rets Tryd.prog g [.int .u8 c.toNat] w fun u w' => u = .bool (p c) ∧ St cx w' L) (hl : src.length ≤ 100000) (ha : at0 ≤ src.length) (hS : St cx w (scn sb src at0 :: L)) :
    Rets Tryd.prog Qn [.pointer (some ⟨sb, 0, none⟩), .func (.func g) #[] #[]] w fun u w' => u = .string ⟨((src.drop at0).takeWhile p).toArray⟩ ∧ St cx w' (scn sb src (at0 + ((src.drop at0).takeWhile p).length) :: L) := by
  all_goals refine Q1l ?_
  all_goals (unfold token_scanner_while_lc; refine Q3 ?_; refine Q6 ?_; refine zm ?_; refine zn ?_; refine Q3 ?_; refine Q6 ?_; refine zm ?_; refine Qk rfl ?_; refine Q8 rfl ?_; refine zl hS ?_; refine zm ?_; refine zn ?_; refine Q3 ?_; refine QK ?_)
  refine zo [0, 1, 5] (fun A ρ' w' => ∃ (k : Nat), Has ρ' A ∧ Has ρ' [] ∧ (at0 + k ≤ src.length) ∧ (∀ x ∈ (src.drop at0).take k, p x = true) ∧ St cx w' (scn sb src (at0 + k) :: L)) (fun _ w' => (src.length - Q6A w' sb 1).toNat) ?_ ?_
  · exact ⟨0, zh, zh, (by omega), (fun x hx => by simp at hx), hS.sp⟩
  rintro ρ w1 ⟨k, hA, hρ, hk, hall, hS⟩; obtain ⟨ρ, rfl⟩ := env2 hA hρ; have hm0 := Q2b (j := 1) hS (i := 0) rfl rfl
  unfold QD
  all_goals (refine Q3 ?_; refine Q3 ?_; refine zD [(0, none), (1, none), (2, none), (3, none), (4, none), (5, none), (6, none), (7, none), (8, none), (9, none), (10, none), (11, none), (12, none), (13, none), (14, none), (15, none), (16, none), (17, none), (18, none), (19, none), (20, none), (21, some none), (22, some none)] ?_; have hS := hS.drew; refine zm ?_; refine Qk rfl ?_; refine Q8 rfl ?_; refine zl hS ?_; refine zm ?_; refine Qk rfl ?_; refine Q8 rfl ?_; refine zl hS ?_; refine Q1a rfl ?_)
  all_goals (first | (refine zlsst ?_) | (refine zlssf ?_) | (refine Q54 rfl rfl (fun hc => ?_) (fun hc => ?_)))
  all_goals (refine zm ?_; (first | refine s_gn rfl rfl ?_ | (refine s_gy rfl ?_; refine zm ?_)); (first | refine s_gn rfl rfl ?_ | (refine s_gy rfl ?_; refine zm ?_)); (first | refine s_gn rfl rfl ?_ | (refine s_gy rfl ?_; refine Qk rfl ?_)); (first | refine s_gn rfl rfl ?_ | (refine s_gy rfl ?_; refine Q8 rfl ?_)); (first | refine s_gn rfl rfl ?_ | (refine s_gy rfl ?_; refine zl hS ?_)); (first | refine s_gn rfl rfl ?_ | (refine s_gy rfl ?_; refine zm ?_)); (first | refine s_gn rfl rfl ?_ | (refine s_gy rfl ?_; refine Qk rfl ?_)); (first | refine s_gn rfl rfl ?_ | (refine s_gy rfl ?_; refine Q8 rfl ?_)); (first | refine s_gn rfl rfl ?_ | (refine s_gy rfl ?_; refine zl hS ?_)); (first | refine s_gn rfl rfl ?_ | (refine s_gy rfl ?_; obtain ⟨c, hc9⟩ : ∃ x, src[at0 + k]? = some x := ⟨_, List.getElem?_eq_getElem (by omega)⟩; refine Q4u rfl rfl hc9 ?_)))
  all_goals (first | refine s_gn rfl rfl ?_ | (refine s_gy rfl ?_; refine s_callf rfl hg rfl (hp c hS) ?_; rintro v1 w1 ⟨rfl, hS⟩; cases hq : p c))
  all_goals ((first | (refine zpt ?_) | (refine zpf ?_)); refine zn ?_)
  all_goals
    first
    | (refine Qg rfl ?_ -- Qn c0
       all_goals (refine zsk ?_; refine QK ?_; refine Q6 ?_; refine zm ?_; refine Qk rfl ?_; refine Q8 rfl ?_; refine zl hS ?_; refine zad ?_; refine Qk rfl ?_; refine Q8 rfl ?_; refine zst hS ?_; intro w1 hS; have hS := hS.ns; refine zn ?_)
       all_goals (exact ⟨⟨k + 1, zh, zh, (by omega), Q5C hall hc9 hq, hS.sp⟩, by rw [hm0, Q2b (j := 1) hS (i := 0) rfl rfl]; omega⟩))
    | (refine Qh rfl ?_ -- Qn c0
       all_goals (refine zex ?_)
       all_goals (have hw := Q5X hall hk (by intro x hx; first | (rw [List.getElem?_eq_none (by omega)] at hx; cases hx) | (obtain rfl : c = x := Option.some.inj (hc9.symm.trans hx); exact hq)))
       all_goals (refine Q3 ?_; refine zD [(0, none), (1, none), (2, none), (3, none), (4, none), (5, none), (6, none), (7, none), (8, none), (9, none), (10, some none)] ?_; have hS := hS.drew; refine zm ?_; refine Qk rfl ?_; refine Q8 rfl ?_; refine zl hS ?_; refine zm ?_; refine zm ?_; refine Qk rfl ?_; refine Q8 rfl ?_; refine zl hS ?_; refine Q4t rfl (l' := at0) (h' := at0 + k) ⟨_, rfl⟩ ⟨_, rfl⟩ (by omega) (by omega) ?_; rw [hw.1]; refine zm ?_; refine zn ?_; refine zr ?_; refine zf ?_)
       all_goals (exact ⟨_, rfl, rfl, (by rw [← hw.2]; exact hS.sp)⟩))
end Go.Proofs.YtjecflbbcnocdaaDoor
namespace Go.Proofs.YtjecflbbcnocdaaDoor
open Go.Lir
set_option maxHeartbeats 1000000
attribute [local irreducible] LC.wp Q0 Qw QF retQ Q2o LO.wp Ql Calls
set_option linter.unusedSimpArgs false
set_option linter.unusedVariables false
attribute [local irreducible] skip Lib.itoa Lib.parseIntB tok1
variable {cx : Cx} {w : World} {L : List Res}
abbrev tokV (a : Int) (t : List UInt8) (m : Option Int) : Value := .agg ⟨[.int .i64 a, .string ⟨t.toArray⟩, .bool m.isSome, .int .i64 (m.getD 0)]⟩
theorem Q6r {t : List UInt8} (h : ∀ n, Lib.parseIntB 64 t ≠ .ok n) : Q4B t = none := by
  unfold Q4B
  split
  · rename_i n hn; exact absurd hn (h n)
  · rfl
theorem Q6q {t : List UInt8} {n : Int} (h : Lib.parseIntB 64 t = .ok n) : Q4B t = if Lib.itoa n = t then some n else none := by
  unfold Q4B; rw [h]
theorem Q5p {src pre : List UInt8} {sb at0 : Nat} {a : Int} (hT : NumK cx) (hl : src.length ≤ 50000) (hpre : pre.length ≤ 1) (ha : at0 ≤ src.length) (hS : St cx w (scn sb src at0 :: L)) :
    Rets Tryd.prog Qm [.pointer (some ⟨sb, 0, none⟩), .int .i64 a, .string ⟨pre.toArray⟩] w fun u w' => ((∃ n, Q4B (pre ++ (src.drop at0).takeWhile Qi) = some n ∧ u = .tuple #[tokV a (pre ++ (src.drop at0).takeWhile Qi) (some n), .int .i64 0]) ∨ (Q4B (pre ++ (src.drop at0).takeWhile Qi) = none ∧ u = .tuple #[tokV 0 [] none, .int .i64 8])) ∧ St cx w' (scn sb src (at0 + ((src.drop at0).takeWhile Qi).length) :: L) := by
  have hw : ((src.drop at0).takeWhile Qi).length ≤ 50000 := by
    have h1 := (List.takeWhile_prefix (l := src.drop at0) Qi).length_le
    rw [List.length_drop] at h1; omega
  obtain ⟨t, ht⟩ : ∃ t, pre ++ (src.drop at0).takeWhile Qi = t := ⟨_, rfl⟩
  have htl : t.length ≤ 50001 := by rw [← ht, List.length_append]; omega
  rw [ht]
  all_goals refine Q16 ?_
  all_goals (unfold token_scanner_number_lc; refine Q3 ?_; refine Q6 ?_; refine Q1b hS ?_; intro p6 w1 hS; refine zm ?_; refine zn ?_; refine Q3 ?_; refine Q6 ?_; refine zm ?_; refine zm ?_; have hS : St cx _ (scn sb src at0 :: _) := hS.mv1; refine zR2 (c := Q5Y (g := 30) (p := Qi) (by kernel_rfl) (fun c {_ _ _} h => Q5i h) (by omega) ha hS) (h := ?_); rintro v1 w1 ⟨rfl, hS⟩; refine Q6e rfl rfl (by omega) ?_; rw [ht]; refine zm ?_; refine zn ?_; refine Q3 ?_; refine Q6 ?_; refine zm ?_)
  all_goals (refine zR3 (c := parse_c (by omega) hT hS) (h := ?_); rintro v1 w1 (⟨n, hn, rfl, hS⟩ | ⟨hno, n, T, p, rfl, hp, hS⟩))
  all_goals (refine zm ?_; refine Q2x rfl rfl ?_; refine Q2x rfl rfl ?_; refine zm ?_; refine zm ?_; refine zn ?_; refine Q3 ?_; refine Q3 ?_; refine Q6 ?_; refine zm ?_; (first | refine s_inil_t Tryd.underlying77 rfl ?_ | refine s_inil_f Tryd.underlying77 rfl ?_); refine zm ?_; (first | refine s_gn rfl rfl ?_ | (refine s_gy rfl ?_; refine zm ?_)); (first | refine s_gn rfl rfl ?_ | (refine s_gy rfl ?_; have hb9 := Lib.parseIntB_bounds hn; refine zR2 (c := fmt_c (by omega) (by omega) hT hS) (h := ?_); rintro v1 w1 ⟨rfl, hS⟩)); (first | refine s_gn rfl rfl ?_ | (refine s_gy rfl ?_; refine zm ?_)))
  all_goals (first | refine s_gn rfl rfl ?_ | (refine s_gy rfl ?_; refine Q6d rfl rfl ?_; cases hq : decide (Lib.itoa n ≠ t)))
  all_goals ((first | (refine zpt ?_) | (refine zpf ?_)); refine zn ?_)
  all_goals
    first
    | (refine Qg rfl ?_ -- Qm c0
       all_goals (refine Q3 ?_; refine Q6 ?_; refine zb0 [_, _, _, _] ?_; refine zsn hS ?_; intro w1 hS; have hS := hS.ns; refine zm ?_; refine zn ?_; refine zr ?_; refine Q1X vw (Qo (n := 4) (by kernel_rfl) (by kernel_rfl) (hS.blkAt fd) (by rfl) (by rfl)) vw ?_)
       all_goals ((first | exact ⟨_, rfl, .inr ⟨Q6r hno, rfl⟩, hS.sp⟩ | exact ⟨_, rfl, .inr ⟨by rw [Q6q hn, if_neg (of_decide_eq_true hq)], rfl⟩, hS.sp⟩)))
    | (refine Qh rfl ?_ -- Qm c0
       all_goals refine zsk ?_)
  all_goals (refine Q3 ?_; refine Q6 ?_; refine zm ?_; refine zm ?_; refine zm ?_; refine zb4 [_, _, _, _] ?_; refine zsn hS ?_; intro w1 hS; have hS := hS.ns; refine zm ?_; refine zn ?_; refine zr ?_; refine Q1X vw (Qo (n := 4) (by kernel_rfl) (by kernel_rfl) (hS.blkAt fd) (by rfl) (by rfl)) vw ?_; (first | exact ⟨_, rfl, .inr ⟨Q6r hno, rfl⟩, hS.sp⟩ | exact ⟨_, rfl, .inr ⟨by rw [Q6q hn, if_neg (of_decide_eq_true hq)], rfl⟩, hS.sp⟩ | exact ⟨_, rfl, .inl ⟨n, by rw [Q6q hn, if_pos (Classical.not_not.1 (of_decide_eq_false hq))], rfl⟩, hS.sp⟩))
abbrev signs : List UInt8 := [40, 41, 123, 125, 60, 62, 44, 59, 45]
theorem Q65 (c : UInt8) (h : c.toNat ≠ 45) : (0 ≤ Lib.indexByte signs c ↔ Q5M c = true) := by
  have hall : ∀ p : Fin 256, p.val ≠ 45 → (decide (0 ≤ Lib.indexByte signs (UInt8.ofNat p.val)) = Q5M (UInt8.ofNat p.val)) := by decide +kernel
  have h1 := hall ⟨c.toNat, c.toNat_lt⟩ h
  simp only [UInt8.ofNat_toNat] at h1
  rw [← h1, decide_eq_true_iff]
theorem Q21 {t : List UInt8} {n : Int} (h : Q4B t = some n) : numT t = .ok (t, some n) := by unfold numT; rw [h]
theorem Q22 {t : List UInt8} (h : Q4B t = none) : numT t = .error 8 := by unfold numT; rw [h]
theorem Q9 {b : Bool} (h : b = false) : ¬ b = true := by rw [h]; exact Bool.false_ne_true
theorem Q5w {l : List UInt8} (h : l.take 2 = [45, 62]) : l = 45 :: 62 :: l.drop 2 := by
  conv => lhs; rw [← List.take_append_drop 2 l, h]
  rfl
theorem eq45 {c : UInt8} (h : c.toNat = 45) : c = 45 := UInt8.toNat_inj.1 h
theorem ne45 {c : UInt8} (h : c.toNat ≠ 45) : ¬ c = 45 := fun e => h (by rw [e]; rfl)
theorem Q5S {d : UInt8} (h : Qi d = true) : ¬ d = 62 := by rintro rfl; exact absurd h (by decide)
theorem min62 {l r : List UInt8} {d : UInt8} (h : decide (l.take ([45, 62] : List UInt8).length = [45, 62]) = false) (hl : l = 45 :: d :: r) : ¬ d = 62 := by
  rintro rfl
  exact absurd (by rw [hl]; rfl) (of_decide_eq_false h)
theorem Q6G {sb at0 : Nat} {src l : List UInt8} (h : St cx w (scn sb src (at0 + 1 + l.length) :: L)) : St cx w (scn sb src (at0 + (45 :: l).length) :: L) := by
  rw [List.length_cons, show at0 + (l.length + 1) = at0 + 1 + l.length by omega]; exact h
/-- What the reading of the next one gives back. -/
def NextS (cx : Cx) (L : List Res) (sb : Nat) (src : List UInt8) (at0 : Nat) (u : Value) (w' : World) : Prop :=
  (∃ t m, tok1 (src.drop at0) = .ok (t, m) ∧ u = .tuple #[tokV at0 t m, .int .i64 0] ∧ St cx w' (scn sb src (at0 + t.length) :: L)) ∨ (∃ e at1, tok1 (src.drop at0) = .error e ∧ e ≠ 0 ∧ u = .tuple #[tokV 0 [] none, .int .i64 e] ∧ St cx w' (scn sb src at1 :: L))
theorem next_c {src : List UInt8} {sb at0 : Nat} (hT : NumK cx) (hl : src.length ≤ 50000) (ha : at0 < src.length) (hS : St cx w (scn sb src at0 :: L)) :
    Rets Tryd.prog Q4 [.pointer (some ⟨sb, 0, none⟩)] w fun u w' => NextS cx L sb src at0 u w' := by
  obtain ⟨c, hc9⟩ : ∃ x, src[at0]? = some x := ⟨_, List.getElem?_eq_getElem ha⟩
  have hdc := Qa hc9
  all_goals refine Q1S ?_
  all_goals (unfold token_scanner_next_lc; refine Q3 ?_; refine Q6 ?_; refine Q1b hS ?_; intro p2 w1 hS; refine zm ?_; refine zn ?_; refine Q3 ?_; refine Q6 ?_; refine zm ?_; refine Qk rfl ?_; refine Q8 rfl ?_; refine zl hS ?_; refine zm ?_; refine zn ?_; refine Q3 ?_; refine Q3 ?_; refine Q6 ?_; refine zm ?_; refine Qk rfl ?_; refine Q8 rfl ?_; refine zl hS ?_; refine zm ?_; refine Q4u rfl rfl hc9 ?_; refine zm ?_; refine zn ?_; refine QK ?_; refine Q3 ?_; refine Q6 ?_; refine zm ?_)
  all_goals (refine zR1 (c := Q5r hS) (h := ?_); rintro v1 w1 ⟨rfl, hS⟩; cases hq0 : Q1e c)
  all_goals (refine zm ?_; refine zn ?_)
  all_goals
    first
    | (refine Qg rfl ?_ -- Q4 c0
       all_goals (refine Q3 ?_; refine Q6 ?_; refine zm ?_; refine zm ?_; have hS : St cx _ (scn sb src at0 :: _) := hS.mv1; refine zR2 (c := Q5Y (g := 28) (p := Q1e) (by kernel_rfl) (fun c {_ _ _} h => Q5r h) (by omega) (by omega) hS) (h := ?_); rintro v1 w1 ⟨rfl, hS⟩; refine zb2 [_, _, _, _] ?_; refine zsn hS ?_; intro w1 hS; have hS := hS.ns; refine zm ?_; refine zn ?_; refine zr ?_; refine Q1X vw (Qo (n := 4) (by kernel_rfl) (by kernel_rfl) (hS.blkAt fd) (by rfl) (by rfl)) vw ?_)
       all_goals (exact ⟨_, rfl, .inl ⟨(src.drop at0).takeWhile Q1e, none, by rw [hdc, Q19 hq0], rfl, hS.sp⟩⟩))
    | (refine Qh rfl ?_ -- Q4 c0
       all_goals (refine Q3 ?_; refine Q6 ?_; refine zm ?_)
       all_goals (refine zR1 (c := Q5i hS) (h := ?_); rintro v1 w1 ⟨rfl, hS⟩; cases hq1 : Qi c)
       all_goals (refine zm ?_; refine zn ?_)
       all_goals
         first
         | (refine Qh rfl ?_ -- Q4 c1
            all_goals (refine Q3 ?_; refine Q6 ?_; refine zm ?_; refine Qk rfl ?_; refine Q8 rfl ?_; refine zl hS ?_; refine zm ?_; refine Q4t rfl (l' := at0) (h' := src.length) rfl ⟨_, rfl⟩ (by omega) (by omega) ?_; rw [List.take_length])
            all_goals (refine zR2 (c := hp_c (p := [45, 62]) (by rw [List.length_drop]; omega) hS) (h := ?_); rintro v1 w1 ⟨rfl, hS⟩; cases hq2 : decide ((src.drop at0).take ([45, 62] : List UInt8).length = [45, 62]))
            all_goals (refine zm ?_; refine zn ?_)
            all_goals
              first
              | (refine Qh rfl ?_ -- Q4 c2
                 all_goals (refine Q3 ?_; refine Q6 ?_; refine zm ?_)
                 all_goals (first | (refine Q5A ?_) | (refine Q5B ?_) | (refine Q2M rfl rfl (fun hc => ?_) (fun hc => ?_)))
                 all_goals (refine zm ?_; (first | refine s_gn rfl rfl ?_ | (refine s_gy rfl ?_; refine zm ?_)); (first | refine s_gn rfl rfl ?_ | (refine s_gy rfl ?_; refine zad ?_)); (first | refine s_gn rfl rfl ?_ | (refine s_gy rfl ?_; refine zm ?_)); (first | refine s_gn rfl rfl ?_ | (refine s_gy rfl ?_; refine Qk rfl ?_)); (first | refine s_gn rfl rfl ?_ | (refine s_gy rfl ?_; refine Q8 rfl ?_)); (first | refine s_gn rfl rfl ?_ | (refine s_gy rfl ?_; refine zl hS ?_)); (first | refine s_gn rfl rfl ?_ | (refine s_gy rfl ?_; refine Q1a rfl ?_)))
                 all_goals (first | refine s_gn rfl rfl ?_ | (refine s_gy rfl ?_; (first | (refine zlsst ?_) | (refine zlssf ?_) | (refine Q54 rfl rfl (fun hc => ?_) (fun hc => ?_)))))
                 all_goals ((first | (refine zpt ?_) | (refine zpf ?_)); refine zm ?_; (first | refine s_gn rfl rfl ?_ | (refine s_gy rfl ?_; refine zm ?_)); (first | refine s_gn rfl rfl ?_ | (refine s_gy rfl ?_; refine Qk rfl ?_)); (first | refine s_gn rfl rfl ?_ | (refine s_gy rfl ?_; refine Q8 rfl ?_)); (first | refine s_gn rfl rfl ?_ | (refine s_gy rfl ?_; refine zl hS ?_)); (first | refine s_gn rfl rfl ?_ | (refine s_gy rfl ?_; refine zm ?_)); (first | refine s_gn rfl rfl ?_ | (refine s_gy rfl ?_; refine zad ?_)); (first | refine s_gn rfl rfl ?_ | (refine s_gy rfl ?_; obtain ⟨d, hd9⟩ : ∃ x, src[at0 + 1]? = some x := ⟨_, List.getElem?_eq_getElem (by omega)⟩; refine Q4u (m := at0 + 1) rfl rfl hd9 ?_)))
                 all_goals (first | refine s_gn rfl rfl ?_ | (refine s_gy rfl ?_; refine zR1 (c := Q5i hS) (h := ?_); rintro v1 w1 ⟨rfl, hS⟩; cases hq3 : Qi d))
                 all_goals ((first | (refine zpt ?_) | (refine zpf ?_)); refine zm ?_; refine zn ?_)
                 all_goals
                   first
                   | (refine Qh rfl ?_ -- Q4 c3
                      all_goals (refine Q3 ?_; refine Q6 ?_; refine zm ?_)
                      all_goals (first | (refine Q5x ?_) | (refine Q5y ?_))
                      all_goals (refine zm ?_; (first | refine s_gn rfl rfl ?_ | (refine s_gy rfl ?_; refine zm ?_)); (first | refine s_gn rfl rfl ?_ | (refine s_gy rfl ?_; refine zR2 (c := iby_c (s := signs) hS) (h := ?_); rintro v1 w1 ⟨rfl, hS⟩; have hsi := Q65 c (by omega))))
                      all_goals (first | refine s_gn rfl rfl ?_ | (refine s_gy rfl ?_; (first | (refine zgeqt ?_) | (refine zgeqf ?_) | (refine Q4v rfl rfl (fun hc => ?_) (fun hc => ?_)))))
                      all_goals ((first | (refine zpt ?_) | (refine zpf ?_)); refine zm ?_; refine zn ?_)
                      all_goals
                        first
                        | (refine Qh rfl ?_ -- Q4 c4
                           all_goals refine zsk ?_)
                        | (refine Qg rfl ?_ -- Q4 c4
                           all_goals (refine Q3 ?_; refine Q6 ?_; refine zm ?_; refine Qk rfl ?_; refine Q8 rfl ?_; refine zl hS ?_; refine zad ?_; refine Qk rfl ?_; refine Q8 rfl ?_; refine zst hS ?_; intro w1 hS; have hS := hS.ns; refine zn ?_; refine Q3 ?_; refine Q6 ?_; refine zm ?_; refine zm ?_; refine Qk rfl ?_; refine Q8 rfl ?_; refine zl hS ?_; refine zm ?_; refine zm ?_; refine zad ?_; refine Q4t rfl (l' := at0) (h' := at0 + 1) ⟨_, rfl⟩ ⟨_, rfl⟩ (by omega) (by omega) ?_; rw [show (src.take (at0 + 1)).drop at0 = [c] by rw [Q4J hc9, List.drop_left' (by rw [List.length_take]; omega)]]; refine zb2 [_, _, _, _] ?_; refine zsn hS ?_; intro w1 hS; have hS := hS.ns; refine zm ?_; refine zn ?_; refine zr ?_; refine Q1X vw (Qo (n := 4) (by kernel_rfl) (by kernel_rfl) (hS.blkAt fd) (by rfl) (by rfl)) vw ?_)
                           all_goals ((first | exact ⟨_, rfl, .inl ⟨(src.drop at0).takeWhile Q1e, none, by rw [hdc, Q19 hq0], rfl, hS.sp⟩⟩ | exact ⟨_, rfl, .inl ⟨(src.drop at0).takeWhile Qi, some n, by rw [hdc, Qy (Q9 hq0) hq1, ← hdc, Q21 hn], rfl, hS.sp⟩⟩ | exact ⟨_, rfl, .inr ⟨8, _, by rw [hdc, Qy (Q9 hq0) hq1, ← hdc, Q22 hn], by decide, rfl, hS.sp⟩⟩ | exact ⟨_, rfl, .inl ⟨[45, 62], none, by rw [Q5w (of_decide_eq_true hq2), Q3t], rfl, hS.sp⟩⟩ | exact ⟨_, rfl, .inl ⟨45 :: (src.drop (at0 + 1)).takeWhile Qi, some n, by rw [hdc, eq45 (c := c) (by omega), Qa hd9, Q18 (Q5S hq3) hq3, ← Qa hd9, Q21 (t := 45 :: _) hn], rfl, Q6G hS.sp⟩⟩ | exact ⟨_, rfl, .inr ⟨8, _, by rw [hdc, eq45 (c := c) (by omega), Qa hd9, Q18 (Q5S hq3) hq3, ← Qa hd9, Q22 (t := 45 :: _) hn], by decide, rfl, hS.sp⟩⟩ | exact ⟨_, rfl, .inl ⟨[c], none, by rw [hdc, Q4s (Q9 hq0) (Q9 hq1) (ne45 (by omega)) (hsi.1 (by omega))], rfl, hS.sp⟩⟩))))
                   | (refine Qg rfl ?_ -- Q4 c3
                      all_goals (refine Q3 ?_; refine Q6 ?_; refine zm ?_; refine Qk rfl ?_; refine Q8 rfl ?_; refine zl hS ?_; refine zad ?_; refine Qk rfl ?_; refine Q8 rfl ?_; refine zst hS ?_; intro w1 hS; have hS := hS.ns; refine zn ?_; refine Q3 ?_; refine Q6 ?_; refine zm ?_; refine zm ?_)
                      all_goals (have hS : St cx _ (scn sb src (at0 + 1) :: blk p2 32 [.int .i64 0, .string ⟨#[]⟩, .bool false, .int .i64 0] :: L) := hS.sp; refine zR3 (c := Q5p (pre := [45]) hT hl (by simp) (by omega) hS) (h := ?_); rintro v1 w1 ⟨⟨n, hn, rfl⟩ | ⟨hn, rfl⟩, hS⟩ <;> rw [List.singleton_append] at hn)
                      all_goals (refine Q2x rfl rfl ?_; refine Q2x rfl rfl ?_; refine zsn hS ?_; intro w1 hS; have hS := hS.ns; refine zm ?_; refine zn ?_; refine zr ?_; refine Q1X vw (Qo (n := 4) (by kernel_rfl) (by kernel_rfl) (hS.blkAt fd) (by rfl) (by rfl)) vw ?_)
                      all_goals ((first | exact ⟨_, rfl, .inl ⟨(src.drop at0).takeWhile Q1e, none, by rw [hdc, Q19 hq0], rfl, hS.sp⟩⟩ | exact ⟨_, rfl, .inl ⟨(src.drop at0).takeWhile Qi, some n, by rw [hdc, Qy (Q9 hq0) hq1, ← hdc, Q21 hn], rfl, hS.sp⟩⟩ | exact ⟨_, rfl, .inr ⟨8, _, by rw [hdc, Qy (Q9 hq0) hq1, ← hdc, Q22 hn], by decide, rfl, hS.sp⟩⟩ | exact ⟨_, rfl, .inl ⟨[45, 62], none, by rw [Q5w (of_decide_eq_true hq2), Q3t], rfl, hS.sp⟩⟩ | exact ⟨_, rfl, .inl ⟨45 :: (src.drop (at0 + 1)).takeWhile Qi, some n, by rw [hdc, eq45 (c := c) (by omega), Qa hd9, Q18 (Q5S hq3) hq3, ← Qa hd9, Q21 (t := 45 :: _) hn], rfl, Q6G hS.sp⟩⟩ | exact ⟨_, rfl, .inr ⟨8, _, by rw [hdc, eq45 (c := c) (by omega), Qa hd9, Q18 (Q5S hq3) hq3, ← Qa hd9, Q22 (t := 45 :: _) hn], by decide, rfl, hS.sp⟩⟩))))
              | (refine Qg rfl ?_ -- Q4 c2
                 all_goals (refine Q3 ?_; refine Q6 ?_; refine zm ?_; refine Qk rfl ?_; refine Q8 rfl ?_; refine zl hS ?_; refine zad ?_; refine Qk rfl ?_; refine Q8 rfl ?_; refine zst hS ?_; intro w1 hS; have hS := hS.ns; refine zn ?_; refine Q3 ?_; refine Q6 ?_; refine zm ?_; refine zb2 [_, _, _, _] ?_; refine zsn hS ?_; intro w1 hS; have hS := hS.ns; refine zm ?_; refine zn ?_; refine zr ?_; refine Q1X vw (Qo (n := 4) (by kernel_rfl) (by kernel_rfl) (hS.blkAt fd) (by rfl) (by rfl)) vw ?_)
                 all_goals ((first | exact ⟨_, rfl, .inl ⟨(src.drop at0).takeWhile Q1e, none, by rw [hdc, Q19 hq0], rfl, hS.sp⟩⟩ | exact ⟨_, rfl, .inl ⟨(src.drop at0).takeWhile Qi, some n, by rw [hdc, Qy (Q9 hq0) hq1, ← hdc, Q21 hn], rfl, hS.sp⟩⟩ | exact ⟨_, rfl, .inr ⟨8, _, by rw [hdc, Qy (Q9 hq0) hq1, ← hdc, Q22 hn], by decide, rfl, hS.sp⟩⟩ | exact ⟨_, rfl, .inl ⟨[45, 62], none, by rw [Q5w (of_decide_eq_true hq2), Q3t], rfl, hS.sp⟩⟩))))
         | (refine Qg rfl ?_ -- Q4 c1
            all_goals (refine Q3 ?_; refine Q6 ?_; refine zm ?_; refine zm ?_)
            all_goals (have hS : St cx _ (scn sb src at0 :: _) := hS.mv1; refine zR3 (c := Q5p (pre := []) hT hl (by simp) (by omega) hS) (h := ?_); rintro v1 w1 ⟨⟨n, hn, rfl⟩ | ⟨hn, rfl⟩, hS⟩ <;> rw [List.nil_append] at hn)
            all_goals (refine Q2x rfl rfl ?_; refine Q2x rfl rfl ?_; refine zsn hS ?_; intro w1 hS; have hS := hS.ns; refine zm ?_; refine zn ?_; refine zr ?_; refine Q1X vw (Qo (n := 4) (by kernel_rfl) (by kernel_rfl) (hS.blkAt fd) (by rfl) (by rfl)) vw ?_)
            all_goals ((first | exact ⟨_, rfl, .inl ⟨(src.drop at0).takeWhile Q1e, none, by rw [hdc, Q19 hq0], rfl, hS.sp⟩⟩ | exact ⟨_, rfl, .inl ⟨(src.drop at0).takeWhile Qi, some n, by rw [hdc, Qy (Q9 hq0) hq1, ← hdc, Q21 hn], rfl, hS.sp⟩⟩ | exact ⟨_, rfl, .inr ⟨8, _, by rw [hdc, Qy (Q9 hq0) hq1, ← hdc, Q22 hn], by decide, rfl, hS.sp⟩⟩))))
  all_goals (refine Q3 ?_; refine Q6 ?_; refine zb0 [_, _, _, _] ?_; refine zsn hS ?_; intro w1 hS; have hS := hS.ns; refine zm ?_; refine zn ?_; refine zr ?_; refine Q1X vw (Qo (n := 4) (by kernel_rfl) (by kernel_rfl) (hS.blkAt fd) (by rfl) (by rfl)) vw ?_)
  all_goals ((first | exact ⟨_, rfl, .inl ⟨(src.drop at0).takeWhile Q1e, none, by rw [hdc, Q19 hq0], rfl, hS.sp⟩⟩ | exact ⟨_, rfl, .inl ⟨(src.drop at0).takeWhile Qi, some n, by rw [hdc, Qy (Q9 hq0) hq1, ← hdc, Q21 hn], rfl, hS.sp⟩⟩ | exact ⟨_, rfl, .inr ⟨8, _, by rw [hdc, Qy (Q9 hq0) hq1, ← hdc, Q22 hn], by decide, rfl, hS.sp⟩⟩ | exact ⟨_, rfl, .inl ⟨[45, 62], none, by rw [Q5w (of_decide_eq_true hq2), Q3t], rfl, hS.sp⟩⟩ | exact ⟨_, rfl, .inl ⟨45 :: (src.drop (at0 + 1)).takeWhile Qi, some n, by rw [hdc, eq45 (c := c) (by omega), Qa hd9, Q18 (Q5S hq3) hq3, ← Qa hd9, Q21 (t := 45 :: _) hn], rfl, Q6G hS.sp⟩⟩ | exact ⟨_, rfl, .inr ⟨8, _, by rw [hdc, eq45 (c := c) (by omega), Qa hd9, Q18 (Q5S hq3) hq3, ← Qa hd9, Q22 (t := 45 :: _) hn], by decide, rfl, hS.sp⟩⟩ | exact ⟨_, rfl, .inl ⟨[c], none, by rw [hdc, Q4s (Q9 hq0) (Q9 hq1) (ne45 (by omega)) (hsi.1 (by omega))], rfl, hS.sp⟩⟩ | exact ⟨_, rfl, .inr ⟨6, _, by rw [hdc, Q5m (Q9 hq0) (Q9 hq1) (ne45 (by omega)) (fun h9 => absurd (hsi.2 h9) (by omega))], by decide, rfl, hS.sp⟩⟩ | exact ⟨_, rfl, .inr ⟨6, _, by rw [hdc, eq45 (c := c) (by omega), List.drop_eq_nil_of_le (by omega), tok1_one], by decide, rfl, hS.sp⟩⟩ | exact ⟨_, rfl, .inr ⟨6, _, by rw [hdc, eq45 (c := c) (by omega), Qa hd9, tok1_min (min62 hq2 (by rw [hdc, eq45 (c := c) (by omega), Qa hd9])) (Q9 hq3)], by decide, rfl, hS.sp⟩⟩))
end Go.Proofs.YtjecflbbcnocdaaDoor
namespace Go.Lir
def tokR : Rep Tok where
  es := 4
  pos := by decide
  R := fun _ _ cs t => cs = [.int .i64 t.at_, .string ⟨t.text.toArray⟩, .bool t.num.isSome, .int .i64 (t.num.getD 0)]
  len := by rintro _ _ _ _ rfl; rfl
  one := by
    rintro _ _ _ t rfl u hu
    simp at hu
    rcases hu with rfl | rfl | rfl | rfl <;> rfl
  turn := fun h _ => h
theorem QH {c : Cx} {cs : List Value} {t : Tok} (h : tokR.at c cs t) : cs = [.int .i64 t.at_, .string ⟨t.text.toArray⟩, .bool t.num.isSome, .int .i64 (t.num.getD 0)] := h
section
variable {src t : List UInt8} {m : Option Int} {e : Int} {k i n : Nat} {out : List Tok}
theorem Q3F (h : 40000 < src.length) : scan src = .error (2, 40000) := by unfold scan; rw [if_pos h]
theorem scan_few (h : ¬ 40000 < src.length) (hi : src.drop i = skip false src) : scan src = Qt src.length (src.length + 1) (src.drop i) [] := by unfold scan; rw [if_neg h, hi]
theorem scanL_ok (hi : i < src.length) (h : tok1 (src.drop i) = .ok (t, m)) : Qt src.length (k + 1) (src.drop i) out = Qt src.length k (skip false (src.drop (i + t.length))) (out ++ [⟨i, t, m⟩]) := by
  obtain ⟨c, hc⟩ : ∃ x, src[i]? = some x := ⟨_, List.getElem?_eq_getElem hi⟩
  have hd := Qa hc
  rw [← List.drop_drop]
  have hl : src.length - (src.drop i).length = i := by rw [List.length_drop]; omega
  revert h hl
  rw [hd]
  intro h hl
  rw [Qt, h]
  dsimp only
  rw [hl]
theorem Q4O (hi : i < src.length) (h : tok1 (src.drop i) = .error e) : Qt src.length (k + 1) (src.drop i) out = .error (e, (i : Int)) := by
  obtain ⟨c, hc⟩ : ∃ x, src[i]? = some x := ⟨_, List.getElem?_eq_getElem hi⟩
  have hd := Qa hc
  have hl : (src.length : Int) - (src.drop i).length = i := by rw [List.length_drop]; omega
  revert h hl
  rw [hd]
  intro h hl
  rw [Qt, h]
  dsimp only
  rw [hl]
theorem Q69 (hi : src.length ≤ i) : Qt src.length k (src.drop i) out = .ok out := by
  rw [List.drop_of_length_le hi]; cases k <;> rfl
theorem Q68 {i2 : Nat} (hd : scan src = Qt src.length (k + 1) (src.drop i) out) (hi : i < src.length) (h : tok1 (src.drop i) = .ok (t, m)) (h2 : src.drop i2 = skip false (src.drop (i + t.length))) : scan src = Qt src.length k (src.drop i2) (out ++ [⟨i, t, m⟩]) := by
  rw [hd, scanL_ok hi h, h2]
theorem tok1_fit (hi : i < src.length) (h : tok1 (src.drop i) = .ok (t, m)) : 0 < t.length ∧ i + t.length ≤ src.length := by
  have := Q3s h
  rw [List.length_drop] at this
  omega
end
end Go.Lir
namespace Go.Proofs.YtjecflbbcnocdaaDoor
open Go.Lir
set_option maxHeartbeats 1000000
attribute [local irreducible] LC.wp Q0 Qw QF retQ Q2o LO.wp Ql Calls
set_option linter.unusedSimpArgs false
set_option linter.unusedVariables false
attribute [local irreducible] skip Qt scan tok1
variable {cx : Cx} {w : World} {L : List Res}
/-- What a scan gives back. -/
def ScanS (cx : Cx) (L : List Res) (src : List UInt8) (u : Value) (w' : World) : Prop :=
  (∃ l c' v, scan src = .ok l ∧ cx.Le c' ∧ u = .tuple #[v, .agg ⟨[.int .i64 0, .int .i64 0]⟩] ∧ tokR.sl c' v l ∧ St c' w' L) ∨ (∃ e n, scan src = .error (e, n) ∧ u = .tuple #[.slice none 0 0, .agg ⟨[.int .i64 e, .int .i64 n]⟩] ∧ St cx w' L)
theorem scan_c {src : List UInt8} (hT : NumK cx) (hl : src.length ≤ 100000) (hS : St cx w L) :
    Rets Tryd.prog Qv [.string ⟨src.toArray⟩] w fun u w' => ScanS cx L src u w' := by
  have hle := St.refl hS
  all_goals refine Q4r ?_
  all_goals (unfold token_Scan_lc; refine Q3 ?_; refine Q6 ?_; refine zm ?_; refine Q1b hS ?_; intro p3 w1 hS; refine zn ?_; refine Q3 ?_; refine Q3 ?_; refine Q6 ?_; refine zm ?_; refine Q1a rfl ?_)
  all_goals (first | (refine zgtrt ?_) | (refine zgtrf ?_) | (refine Q6g rfl rfl (fun hc => ?_) (fun hc => ?_)))
  all_goals (refine zn ?_)
  all_goals
    first
    | (refine Qg rfl ?_ -- Qv c0
       all_goals (refine Q3 ?_; refine Q6 ?_; refine zb2 [_, _] ?_; refine zm ?_; refine zsn hS ?_; intro w1 hS; have hS := hS.ns; refine zn ?_; refine zr ?_; refine Q59 vw vw (Qo (n := 2) (by kernel_rfl) (by kernel_rfl) (hS.blkAt fd) (by rfl) (by rfl)) ?_)
       all_goals (exact ⟨_, rfl, .inr ⟨2, 40000, Q3F (by omega), rfl, hS.sp⟩⟩))
    | (refine Qh rfl ?_ -- Qv c0
       all_goals refine zsk ?_)
  all_goals (refine Q3 ?_; refine Q6 ?_; refine zm ?_; refine zb1 [_, _] ?_; refine zb hS ?_; intro p15 w1 hS; refine zm ?_; refine zn ?_; refine Q3 ?_; refine Q6 ?_; refine zm ?_; refine zn ?_; refine Q3 ?_; refine Q3 ?_; refine Q6 ?_; refine zm ?_; have hS : St cx _ (scn p15 src 0 :: blk p3 25 [.int .i64 0, .int .i64 0] :: L) := hS.sp; refine zR1 (c := Q6D (by omega) (by omega) hS) (h := ?_); rintro v1 w1 ⟨at1, rfl, h01, h02, h03, hS⟩; refine zn ?_; refine QK ?_)
  refine zo [0, 3, 4] (fun A ρ' w' => ∃ (k i : Nat) (out : List Tok) (vb : Value) (cb : List (List Value)) (q6 q8 q7 : Value), Has ρ' A ∧ Has ρ' [(5, vb), (6, q6), (7, q7), (8, q8)] ∧ (i ≤ src.length) ∧ (src.length - i < k) ∧ (scan src = Qt src.length k (src.drop i) out) ∧ (out.length ≤ i) ∧ (tokR.ls cx cb out) ∧ (oneC vb = true) ∧ St cx w' (scn p15 src i :: sl 32 4 vb cb :: blk p3 25 [.int .i64 0, .int .i64 0] :: L)) (fun _ w' => (src.length - Q6A w' p15 1).toNat) ?_ ?_
  · exact ⟨src.length + 1, at1, [], .slice none 0 0, [], _, _, _, zh, zh, (by omega), (by omega), scan_few (by omega) (by rw [h03]; rfl), (by omega), Rep.LR.nil _ _ _, rfl, by have hS := hS.nil (T := 32) (es := 4); exact hS.sp⟩
  rintro ρ w1 ⟨k, i, out, vb, cb, q6, q8, q7, hA, hρ, hi, hk, hd, hol, hlb, hvb, hS⟩; obtain ⟨ρ, rfl⟩ := env2 hA hρ; have hm0 := Q2b (j := 1) hS (i := 0) rfl rfl
  unfold Q2v
  all_goals (refine Q3 ?_; refine Q3 ?_; refine Q6 ?_; refine zm ?_; refine Qk rfl ?_; refine Q8 rfl ?_; refine zl hS ?_; refine zm ?_; refine Q1a rfl ?_; refine Q2K rfl rfl ?_; refine zn ?_)
  refine Q4w rfl (fun hc => ?_) (fun hc => ?_)
  · skip
    all_goals (refine zsk ?_; refine Q3 ?_; refine QK ?_; refine Q3 ?_; refine Q6 ?_; refine zm ?_; refine Qk rfl ?_; refine Q8 rfl ?_; refine zl hS ?_; refine zm ?_; refine zn ?_; refine Q3 ?_; refine Q6 ?_; refine zm ?_)
    all_goals (have hS : St cx _ (scn p15 src i :: _) := hS; refine zR1 (c := next_c hT (by omega) (by omega) hS) (h := ?_); rintro v1 w1 (⟨t, m, ht, rfl, hS⟩ | ⟨e, at9, ht, he, rfl, hS⟩))
    all_goals (refine zm ?_; refine Q2x rfl rfl ?_; refine Q2x rfl rfl ?_; refine Q1b hS ?_; intro p7 w1 hS; refine zsn hS ?_; intro w1 hS; have hS := hS.ns; refine zm ?_; refine zn ?_; refine Q3 ?_; refine Q3 ?_; refine Q6 ?_; refine zm ?_)
    all_goals (first | (refine Q5x ?_) | (refine Q5y ?_))
    all_goals (refine zn ?_)
    all_goals
      first
      | (refine Qh rfl ?_ -- Qv c2
         all_goals refine zsk ?_)
      | (refine Qg rfl ?_ -- Qv c2
         all_goals (refine Q3 ?_; refine Q6 ?_; refine zm ?_; refine zm ?_; refine zb2 [_, _] ?_; refine zm ?_; refine zsn hS ?_; intro w1 hS; have hS := hS.ns; refine zn ?_; refine zr ?_; refine Q59 vw vw (Qo (n := 2) (by kernel_rfl) (by kernel_rfl) (hS.blkAt fd) (by rfl) (by rfl)) ?_)
         all_goals ((first | exact ⟨_, rfl, .inr ⟨2, 40000, Q3F (by omega), rfl, hS.sp⟩⟩ | exact ⟨_, rfl, .inr ⟨e, i, by rw [hd, show k = k - 1 + 1 by omega, Q4O (by omega) ht], rfl, hS.sp⟩⟩)))
    all_goals (have hf9 := tok1_fit (by omega) ht; have hd9 : tokR.at cx [.int .i64 (i : Int), .string ⟨t.toArray⟩, .bool m.isSome, .int .i64 (m.getD 0)] (⟨i, t, m⟩ : Tok) := rfl; refine Q6 ?_; refine zm ?_; refine zv hS ?_; refine zB1 hS [_, _, _, _] ?_; intro b1 w1 hS; refine za el_T23 u_T23 hS ?_; intro vp1 w1 css1 hls1 hv1 hS; have hS := hS.ns; refine zm ?_; refine zn ?_; refine Q6 ?_; refine zm ?_; have hS : St cx _ (scn p15 src (i + t.length) :: sl 32 4 vp1 css1 :: blk p3 25 [.int .i64 0, .int .i64 0] :: L) := hS.sp; refine zR1 (c := Q6D (by omega) (by omega) hS) (h := ?_); rintro v1 w1 ⟨at2, rfl, h11, h12, h13, hS⟩; refine zn ?_; exact ⟨⟨k - 1, at2, out ++ [⟨i, t, m⟩], _, _, _, _, _, zh, zh, (by omega), (by omega), Q68 (by rw [show k - 1 + 1 = k by omega]; exact hd) (by omega) ht h13, (by first | omega | assumption | rfl | (simp; done) | (simp; omega)), by assumption, by assumption, hS.sp⟩, by rw [hm0, Q2b (j := 1) hS (i := 0) rfl rfl]; omega⟩)
  · skip
    all_goals (refine zex ?_; obtain ⟨c2, hle2, hS2, hk2⟩ := St.freezeL (r := tokR) (hS.out (r := sl 32 4 vb cb) fd) hlb rfl (by omega); clear hS; have hS := hS2; simp only [List.eraseIdx_cons_zero, List.eraseIdx_cons_succ] at hS; refine Q3 ?_; refine Q6 ?_; refine zm ?_; refine zb0 [_, _] ?_; refine zm ?_; refine zsn hS ?_; intro w1 hS; have hS := hS.ns; refine zn ?_; refine zr ?_; refine Q59 vw vw (Qo (n := 2) (by kernel_rfl) (by kernel_rfl) (hS.blkAt fd) (by rfl) (by rfl)) ?_; (first | exact ⟨_, rfl, .inr ⟨2, 40000, Q3F (by omega), rfl, hS.sp⟩⟩ | exact ⟨_, rfl, .inr ⟨e, i, by rw [hd, show k = k - 1 + 1 by omega, Q4O (by omega) ht], rfl, hS.sp⟩⟩ | exact ⟨_, rfl, .inl ⟨out, c2, vb, by rw [hd, Q69 (by omega)], hle2, rfl, hk2, hS.sp⟩⟩))
end Go.Proofs.YtjecflbbcnocdaaDoor
namespace Go.Proofs.YtjecflbbcnocdaaDoor
open Go.Lir
set_option maxHeartbeats 1000000
attribute [local irreducible] LC.wp Q0 Qw QF retQ Q2o LO.wp Ql Calls
set_option linter.unusedSimpArgs false
set_option linter.unusedVariables false
attribute [local irreducible] skip Qt scan tok1
variable {cx : Cx} {w : World} {L : List Res}
section
variable {src : List UInt8} {i i2 : Nat} {p : UInt8 → Bool} {c d : UInt8} {r : List UInt8}
end
end Go.Proofs.YtjecflbbcnocdaaDoor
namespace Go.Lir
def begunS : List UInt8 := [106, 117, 109, 112, 32, 45, 49, 32, 60, 62, 59, 35, 32, 120]
/-- What a scan gives: the tokens, the fault. -/
def QG (src : List UInt8) : List Tok × Flt := match scan src with
  | .ok l => (l, (0, 0))
  | .error f => ([], f)
theorem Q5V : QG begunS = ([⟨0, [106, 117, 109, 112], none⟩, ⟨5, [45, 49], some (-1)⟩, ⟨8, [60], none⟩, ⟨9, [62], none⟩, ⟨10, [59], none⟩], (0, 0)) := by kernel_rfl
theorem tok1_err {l : List UInt8} {e : Int} (h : tok1 l = .error e) : e = 6 ∨ e = 8 := by
  have hn : ∀ {x : List UInt8} {e : Int}, numT x = .error e → e = 8 := by
    intro x e h
    unfold numT at h
    split at h
    · cases h
    · cases h; rfl
  match l, h with
  | [], h => rw [tok1.eq_def] at h; cases h; exact .inl rfl
  | c :: r, h =>
    rw [tok1.eq_def] at h
    dsimp only at h
    split at h
    · cases h
    · split at h
      · exact .inr (hn h)
      · split at h
        · split at h
          · cases h; exact .inl rfl
          · split at h
            · cases h
            · split at h
              · exact .inr (hn h)
              · cases h; exact .inl rfl
        · split at h
          · cases h
          · cases h; exact .inl rfl
theorem Q4N {n : Nat} : ∀ {k : Nat} {l : List UInt8} {acc : List Tok} {f : Flt}, Qt n k l acc = .error f → f.1 ≠ 0
  | 0, l, acc, f, h => by rw [Qt] at h; cases h
  | k + 1, [], acc, f, h => by rw [Qt] at h; cases h
  | k + 1, c :: r, acc, f, h => by
    rw [Qt] at h
    split at h
    · rename_i e he
      cases h
      rcases tok1_err he with rfl | rfl
      · exact (by decide : (6 : Int) ≠ 0)
      · exact (by decide : (8 : Int) ≠ 0)
    · exact Q4N h
theorem scan_err {src : List UInt8} {f : Flt} (h : scan src = .error f) : f.1 ≠ 0 := by
  unfold scan at h
  split at h
  · cases h; decide
  · exact Q4N h
theorem Q2S : ∀ (l : List Tok) (t : Tok), Qj (l ++ [t]) = Qj l ++ (t.text ++ [32, 35, 32, 45, 10])
  | [], t => by rw [List.nil_append, Qj, Qj, Qj, List.append_nil, List.nil_append]
  | x :: l, t => by rw [List.cons_append, Qj, Q2S l t, Qj]; simp only [List.append_assoc]
theorem Q47 {n : Nat} : ∀ {k : Nat} {l : List UInt8} {acc res : List Tok}, Qt n k l acc = .ok res → (Qj res).length ≤ (Qj acc).length + 6 * l.length
  | 0, l, acc, res, h => by rw [Qt] at h; cases h; omega
  | k + 1, [], acc, res, h => by rw [Qt] at h; cases h; omega
  | k + 1, c :: r, acc, res, h => by
    rw [Qt] at h
    split at h
    · cases h
    · rename_i t m ht
      have h1 := Q47 h
      have h2 := Q3s ht
      have h3 := Q27 false ((c :: r).drop t.length)
      rw [Q2S, List.length_append, List.length_append] at h1
      rw [List.length_drop] at h3
      simp only [List.length_cons, List.length_nil] at h1 h2 h3 ⊢
      omega
theorem Q3S : ∀ (l : List Tok), l.length ≤ (Qj l).length
  | [] => by simp [Qj]
  | t :: l => by
    have := Q3S l
    rw [Qj]
    simp only [List.length_append, List.length_cons, List.length_nil]
    omega
/-- The texts of tokens are the same tokens again. -/
theorem Q6F {src : List UInt8} {l : List Tok} {f : Flt} (h : QG src = (l, f)) (hf : f.1 = 0) (hs : src.length ≤ 3000) :
    (Qj l).length ≤ 18000 ∧ ∃ res, QG (Qj l) = (res, (0, 0)) ∧ res.length = l.length ∧ ∀ (i : Nat) (a b : Tok), res[i]? = some a → l[i]? = some b → a.text = b.text ∧ a.num = b.num := by
  have hok : scan src = .ok l := by
    unfold QG at h
    split at h
    · rename_i hl; cases h; exact hl
    · rename_i hl; cases h; exact absurd hf (scan_err hl)
  have hok2 := hok
  unfold scan at hok
  rw [if_neg (by omega)] at hok
  have hg := Q48 hok (by simp)
  have h1 := Q47 hok
  have h2 := Q27 false src
  have h3 : (Qj ([] : List Tok)).length = 0 := rfl
  have h4 : (Qj l).length ≤ 18000 := by omega
  refine ⟨h4, ?_⟩
  obtain ⟨res, g1, g2, g3⟩ := Q4M (n := (Qj l).length) l ((Qj l).length + 1) [] hg (by have := Q3S l; omega)
  refine ⟨res, ?_, g2, g3⟩
  have e : scan (Qj l) = .ok res := by
    unfold scan
    rw [if_neg (by omega), Q4K l hg, g1, List.nil_append]
  unfold QG
  rw [e]
theorem res_err {src : List UInt8} {l : List Tok} {f : Flt} (h : QG src = (l, f)) (hf : f.1 ≠ 0) : l = [] := by
  unfold QG at h
  split at h
  · cases h; exact absurd rfl hf
  · cases h; rfl
end Go.Lir
namespace Go.Lir
section
variable {P : Program} {l : List GO} {Q : QT} {ρ : Env} {w : World}
end
end Go.Lir
namespace Go.Lir
section
variable {P : Program} {l : List GO} {Q : QT} {ρ : Env} {w : World}
end
end Go.Lir
namespace Go.Proofs.YtjecflbbcnocdaaDoor
open Go.Lir
set_option maxHeartbeats 1000000
attribute [local irreducible] LC.wp Q0 Qw QF retQ Q2o LO.wp Ql Calls
set_option linter.unusedSimpArgs false
set_option linter.unusedVariables false
attribute [local irreducible] skip Qt scan tok1 QG Qj
variable {cx : Cx} {w : World} {L : List Res}
theorem ScanS.pair {src : List UInt8} {u : Value} {w' : World} {l : List Tok} {f : Flt} (hr : QG src = (l, f)) (h : ScanS cx L src u w') : ∃ c' v, cx.Le c' ∧ u = .tuple #[v, .agg ⟨[.int .i64 f.1, .int .i64 f.2]⟩] ∧ tokR.sl c' v l ∧ St c' w' L := by
  unfold QG at hr
  rcases h with ⟨l', c', v, h1, h2, h3, h4, h5⟩ | ⟨e, n, h1, h2, h3⟩
  · rw [h1] at hr; cases hr; exact ⟨c', v, h2, h3, h4, h5⟩
  · rw [h1] at hr; cases hr; exact ⟨cx, _, St.refl h3, h2, Rep.SR.nil _ _ _, h3⟩
theorem Q67 {src : List UInt8} {l : List Tok} {f : Flt} (hr : QG src = (l, f)) (hT : NumK cx) (hl : src.length ≤ 100000) (hS : St cx w L) :
    Rets Tryd.prog Qv [.string ⟨src.toArray⟩] w fun u w' => ∃ c' a n, cx.Le c' ∧ u = .tuple #[.slice a l.length n, .agg ⟨[.int .i64 f.1, .int .i64 f.2]⟩] ∧ tokR.sl c' (.slice a l.length n) l ∧ St c' w' L :=
  Rets.mono (scan_c hT hl hS) fun _ _ h => by
    obtain ⟨c', v, h1, h2, h3, h4⟩ := h.pair hr
    obtain ⟨a, n, rfl⟩ := Rep.SR.shape h3
    exact ⟨c', a, n, h1, h2, h3, h4⟩
theorem scan_b (hT : NumK cx) (hS : St cx w L) : Rets Tryd.prog Qv [.string ⟨begunS.toArray⟩] w fun u w' => ∃ c' a n, cx.Le c' ∧ u = .tuple #[.slice a 5 n, .agg ⟨[.int .i64 0, .int .i64 0]⟩] ∧ tokR.sl c' (.slice a 5 n) [⟨0, [106, 117, 109, 112], none⟩, ⟨5, [45, 49], some (-1)⟩, ⟨8, [60], none⟩, ⟨9, [62], none⟩, ⟨10, [59], none⟩] ∧ St c' w' L :=
  Q67 Q5V hT (by decide) hS
theorem Q4I (hT : NumK cx) (hS : St cx w L) : Rets Tryd.prog Q2m [] w fun u w' => u = .bool true ∧ St cx w' L := by
  all_goals refine Q2W ?_
  all_goals (unfold Law_tokenBegun_lc; refine Q3 ?_; refine Q6 ?_; refine zm ?_; refine zn ?_; refine Q3 ?_; refine Q6 ?_; refine zR1 (c := scan_b hT hS) (h := ?_); rintro v1 w1 ⟨c1, a1, n1, hle1, rfl, hk1, hS⟩; refine zm ?_; refine Q2x rfl rfl ?_; refine Q2x rfl rfl ?_; refine Q1b hS ?_; intro p2 w1 hS; refine zm ?_; refine zsn hS ?_; intro w1 hS; have hS := hS.ns; refine zn ?_; refine Q3 ?_; refine Q6 ?_; refine Q8 rfl ?_; refine zl hS ?_; refine Q2L rfl rfl rfl ?_; refine zm ?_; (first | refine s_gn rfl rfl ?_ | (refine s_gy rfl ?_; refine zm ?_)); (first | refine s_gn rfl rfl ?_ | (refine s_gy rfl ?_; refine zL ?_)); (first | refine s_gn rfl rfl ?_ | (refine s_gy rfl ?_; refine Q2L rfl rfl rfl ?_)); refine zpt ?_; refine zm ?_; (first | refine s_gn rfl rfl ?_ | (refine s_gy rfl ?_; refine zm ?_)))
  all_goals (first | refine s_gn rfl rfl ?_ | (refine s_gy rfl ?_; refine QS (m := 1) rfl rfl hk1 rfl (by decide) ?_; intro b1 o1 cs1 x1 hat1 hx1 he1; cases hx1; obtain rfl := QH he1))
  all_goals ((first | refine s_gn rfl rfl ?_ | (refine s_gy rfl ?_; (first | refine Q8 rfl ?_ | refine Q3G rfl ?_))); (first | refine s_gn rfl rfl ?_ | (refine s_gy rfl ?_; (first | (refine zl hS ?_) | (refine zlk hS ?_) | (refine zlj hS ?_)))); refine zpt ?_; refine zm ?_; (first | refine s_gn rfl rfl ?_ | (refine s_gy rfl ?_; refine zm ?_)))
  all_goals (first | refine s_gn rfl rfl ?_ | (refine s_gy rfl ?_; refine QS (m := 1) rfl rfl hk1 rfl (by decide) ?_; intro b2 o2 cs2 x2 hat2 hx2 he2; cases hx2; obtain rfl := QH he2))
  all_goals ((first | refine s_gn rfl rfl ?_ | (refine s_gy rfl ?_; (first | refine Q8 rfl ?_ | refine Q3G rfl ?_))); (first | refine s_gn rfl rfl ?_ | (refine s_gy rfl ?_; (first | (refine zl hS ?_) | (refine zlk hS ?_) | (refine zlj hS ?_)))); (first | refine s_gn rfl rfl ?_ | (refine s_gy rfl ?_; refine Q2L rfl rfl rfl ?_)); refine zpt ?_; refine zm ?_; (first | refine s_gn rfl rfl ?_ | (refine s_gy rfl ?_; refine zm ?_)))
  all_goals (first | refine s_gn rfl rfl ?_ | (refine s_gy rfl ?_; refine QS (m := 4) rfl rfl hk1 rfl (by decide) ?_; intro b3 o3 cs3 x3 hat3 hx3 he3; cases hx3; obtain rfl := QH he3))
  all_goals ((first | refine s_gn rfl rfl ?_ | (refine s_gy rfl ?_; (first | refine Q8 rfl ?_ | refine Q3G rfl ?_))); (first | refine s_gn rfl rfl ?_ | (refine s_gy rfl ?_; (first | (refine zl hS ?_) | (refine zlk hS ?_)))); (first | refine s_gn rfl rfl ?_ | (refine s_gy rfl ?_; refine Q2L rfl rfl rfl ?_)); refine zpt ?_; refine zm ?_; refine zn ?_; refine zr ?_; refine zf ?_; exact ⟨_, rfl, rfl, St.weak hS.sp hle1⟩)
end Go.Proofs.YtjecflbbcnocdaaDoor
namespace Go.Proofs.YtjecflbbcnocdaaDoor
open Go.Lir
set_option maxHeartbeats 1000000
attribute [local irreducible] LC.wp Q0 Qw QF retQ Q2o LO.wp Ql Calls
set_option linter.unusedSimpArgs false
set_option linter.unusedVariables false
attribute [local irreducible] skip Qt scan tok1 QG
variable {cx : Cx} {w : World} {L : List Res}
theorem Q2R {l : List Tok} {j : Nat} {x : Tok} (h : l[j]? = some x) : Qj (l.take j) ++ (x.text ++ [32, 35, 32, 45, 10]) = Qj (l.take (j + 1)) := by
  rw [Q4J h, Q2S]
theorem Q4e {l : List Tok} (j : Nat) : (Qj (l.take j)).length ≤ (Qj l).length := by
  conv => rhs; rw [← List.take_append_drop j l]
  have : ∀ (a b : List Tok), (Qj a).length ≤ (Qj (a ++ b)).length := by
    intro a b
    induction a with
    | nil => simp [Qj]
    | cons x a ih => rw [List.cons_append, Qj, Qj]; simp only [List.length_append]; omega
  exact this _ _
theorem Q51 (src : List UInt8) (hsz : src.length ≤ 9223372036854775807) (hT : NumK cx) (hS : St cx w L) : Rets Tryd.prog Q7 [.string ⟨src.toArray⟩] w fun u w' => u = .bool true ∧ St cx w' L := by
  obtain ⟨l, f, hr⟩ : ∃ l f, QG src = (l, f) := ⟨_, _, rfl⟩
  have hle := St.refl hS
  all_goals refine Q3r ?_
  all_goals (unfold Law_TokenBack_lc; refine Q3 ?_; refine Q6 ?_; refine zm ?_; refine zn ?_; refine Q3 ?_; refine Q3 ?_; refine Q6 ?_; refine zR0 (c := Q4I hT hS) (h := ?_); rintro v1 w1 ⟨rfl, hS⟩; refine s_not rfl ?_; refine zn ?_)
  all_goals
    first
    | (refine Qg rfl ?_ -- Q7 c0
       all_goals (refine Q3 ?_; refine Q6 ?_; refine zm ?_; refine zn ?_; refine zr ?_; refine zf ?_)
       all_goals (exact ⟨_, rfl, rfl, St.weak hS.sp hle⟩))
    | (refine Qh rfl ?_ -- Q7 c0
       all_goals refine zsk ?_)
  all_goals (refine Q3 ?_; refine Q3 ?_; refine Q6 ?_; refine zm ?_; refine Q1a rfl ?_)
  all_goals (first | (refine zgtrt ?_) | (refine zgtrf ?_) | (refine Q6g rfl rfl (fun hc => ?_) (fun hc => ?_)))
  all_goals (refine zn ?_)
  all_goals
    first
    | (refine Qg rfl ?_ -- Q7 c1
       all_goals (refine Q3 ?_; refine Q6 ?_; refine zm ?_; refine zn ?_; refine zr ?_; refine zf ?_)
       all_goals (exact ⟨_, rfl, rfl, St.weak hS.sp hle⟩))
    | (refine Qh rfl ?_ -- Q7 c1
       all_goals refine zsk ?_)
  all_goals (refine Q3 ?_; refine Q6 ?_; refine zm ?_; refine zR1 (c := Q67 hr hT (by omega) hS) (h := ?_); rintro v1 w1 ⟨c1, a1, n1, hle1, rfl, hk1, hS⟩; have hT1 := hT.up hle1; refine zm ?_; refine Q2x rfl rfl ?_; refine Q2x rfl rfl ?_; refine Q1b hS ?_; intro p4 w1 hS; refine zm ?_; refine zsn hS ?_; intro w1 hS; have hS := hS.ns; refine zn ?_; refine Q3 ?_; refine Q3 ?_; refine Q6 ?_; refine Q8 rfl ?_; refine zl hS ?_)
  all_goals (first | (refine Q5x ?_) | (refine Q5y ?_) | (refine s_neq_s rfl rfl (fun hc => ?_) (fun hc => ?_)))
  all_goals (refine zn ?_)
  all_goals
    first
    | (refine Qg rfl ?_ -- Q7 c2
       all_goals (refine Q3 ?_; refine Q6 ?_; refine zm ?_; refine zL ?_; have h9 := res_err hr (by assumption); refine Q2L rfl rfl (by rw [h9]; rfl) ?_; refine zm ?_; refine zn ?_; refine zr ?_; refine zf ?_)
       all_goals ((first | exact ⟨_, rfl, rfl, St.weak hS.sp hle⟩ | exact ⟨_, rfl, rfl, St.weak hS.sp hle1⟩)))
    | (refine Qh rfl ?_ -- Q7 c2
       all_goals refine zsk ?_)
  all_goals (refine Q3 ?_; obtain ⟨hb9, res, hr2, hrl, hlike⟩ := Q6F hr (by omega) (by omega); have hbl := Q3S l; refine Q6 ?_; refine zm ?_; refine zn ?_; refine Q3 ?_; refine Q3 ?_; refine Q6 ?_; refine zm ?_; refine zn ?_; refine QK ?_)
  refine zoL hS [3] (fun A LL ρ' w' => ∃ (j : Nat), Has ρ' A ∧ Has ρ' [(5, .string ⟨(Qj (l.take j)).toArray⟩), (6, .int .i64 j)] ∧ (j ≤ l.length) ∧ St c1 w' (LL)) (fun ρ' _ => (l.length - iv (ρ' 6)).toNat) ?_ ?_
  · exact ⟨0, zh, zh, (by omega), hS.sp⟩
  rintro ρ w1 ⟨j, hA, hρ, hj, hS⟩; obtain ⟨ρ, rfl⟩ := env2 hA hρ
  unfold QY
  all_goals (refine Q3 ?_; refine Q3 ?_; refine Q6 ?_; refine zm ?_; refine zm ?_; refine zL ?_; refine Q2K rfl rfl ?_; refine zn ?_)
  refine Q4w rfl (fun hc => ?_) (fun hc => ?_)
  · skip
    all_goals (refine zsk ?_; refine Q3 ?_; refine QK ?_; refine Q6 ?_; refine zm ?_; refine zm ?_; refine zm ?_; refine zi ?_; intro b1 o1 cs1 x1 hat1 hx1 he1; (first | (obtain ⟨vp1, vr1, vb1, rfl, hp1, hr1, hb1⟩ := Q6y he1) | (obtain rfl := QH he1)); (first | refine Q8 rfl ?_ | refine Q3G rfl ?_); (first | (refine zl hS ?_) | (refine zlk hS ?_) | (refine zlj hS ?_)); refine Q6e rfl rfl (b := [32, 35, 32, 45, 10]) (by have h8 := Q4e (l := l) (j + 1); rw [← Q2R hx1] at h8; simp only [List.length_append] at h8 ⊢; omega) ?_; refine Q6e rfl rfl (by have h8 := Q4e (l := l) (j + 1); rw [← Q2R hx1] at h8; simp only [List.length_append] at h8 ⊢; omega) ?_; rw [Q2R hx1]; refine zm ?_; refine zn ?_; refine Q6 ?_; refine zm ?_; refine zad ?_; refine zm ?_; refine zn ?_; exact ⟨⟨j + 1, zh, zh, (by omega), hS.sp⟩, Q6s (by omega)⟩)
  · skip
    all_goals (refine zex ?_; refine Q3 ?_; refine Q6 ?_; refine zm ?_; rw [List.take_of_length_le (by omega)]; refine zR1 (c := Q67 hr2 hT1 (by omega) hS) (h := ?_); rintro v1 w1 ⟨c2, a2, n2, hle2, rfl, hk2, hS⟩; have hk1 := Rep.SR.up hk1 hle2; have hle := hle1.trans hle2; refine zm ?_; refine Q2x rfl rfl ?_; refine Q2x rfl rfl ?_; refine Q1b hS ?_; intro p8 w1 hS; refine zm ?_; refine zsn hS ?_; intro w1 hS; have hS := hS.ns; refine zn ?_; refine Q3 ?_; refine Q3 ?_; refine Q6 ?_; refine Q8 rfl ?_; refine zl hS ?_)
    all_goals (first | (refine Q5x ?_) | (refine Q5y ?_))
    all_goals (refine zm ?_; (first | refine s_gn rfl rfl ?_ | (refine s_gy rfl ?_; refine zm ?_)); (first | refine s_gn rfl rfl ?_ | (refine s_gy rfl ?_; refine zL ?_)); (first | refine s_gn rfl rfl ?_ | (refine s_gy rfl ?_; refine zm ?_)); (first | refine s_gn rfl rfl ?_ | (refine s_gy rfl ?_; refine zL ?_)))
    all_goals (first | refine s_gn rfl rfl ?_ | (refine s_gy rfl ?_; (first | (refine Q5x ?_) | (refine Q5y ?_))))
    all_goals ((first | (refine zpt ?_) | (refine zpf ?_)); refine zn ?_)
    all_goals
      first
      | (refine Qg rfl ?_ -- Q7 c4
         all_goals (refine Q3 ?_; refine Q6 ?_; refine zm ?_; refine zn ?_; refine zr ?_; refine zf ?_)
         all_goals (exact ⟨_, rfl, rfl, St.weak hS.sp hle⟩))
      | (refine Qh rfl ?_ -- Q7 c4
         all_goals refine zsk ?_)
    all_goals (refine Q3 ?_; refine Q3 ?_; refine Q6 ?_; refine zm ?_; refine zn ?_; refine QK ?_)
    refine zoL hS [3, 7] (fun A LL ρ' w' => ∃ (i : Nat), Has ρ' A ∧ Has ρ' [(9, .int .i64 i)] ∧ (i ≤ l.length) ∧ St c2 w' (LL)) (fun ρ' _ => (l.length - iv (ρ' 9)).toNat) ?_ ?_
    · exact ⟨0, zh, zh, (by omega), hS.sp⟩
    rintro ρ w1 ⟨i, hA, hρ, hi, hS⟩; obtain ⟨ρ, rfl⟩ := env2 hA hρ
    unfold QX
    all_goals (refine Q3 ?_; refine Q3 ?_; refine Q6 ?_; refine zm ?_; refine zm ?_; refine zL ?_; refine Q2K rfl rfl ?_; refine zn ?_)
    refine Q4w rfl (fun hc => ?_) (fun hc => ?_)
    · skip
      all_goals (refine zsk ?_; refine Q3 ?_; refine QK ?_; refine Q3 ?_; refine zD [(0, none), (1, none), (2, none), (3, none), (4, none), (5, none), (6, none), (7, none), (8, none), (9, none), (10, none), (11, none), (12, none), (13, none), (14, none), (15, none), (16, none), (17, none), (18, none), (19, none), (20, none), (21, none), (22, none), (23, none), (24, none), (25, none), (26, none), (27, none), (28, none), (29, none), (30, none), (31, none), (32, none), (33, none), (34, none), (35, none), (36, some none)] ?_; have hS := hS.drew; refine zm ?_; refine zm ?_; refine QS rfl rfl hk2 rfl (by omega) ?_; intro b2 o2 cs2 x1 hat2 hx1 he2; obtain rfl := QH he2; (first | refine Q8 rfl ?_ | refine Q3G rfl ?_); (first | (refine zl hS ?_) | (refine zlk hS ?_) | (refine zlj hS ?_)); refine zm ?_; refine zm ?_; refine QS rfl rfl hk1 rfl (by omega) ?_; intro b7 o7 cs7 x7 hat7 hx7 he7; have e7 := QH he7; rw [← (hlike i x1 x7 hx1 hx7).1, ← (hlike i x1 x7 hx1 hx7).2] at e7; obtain rfl := e7; (first | refine Q8 rfl ?_ | refine Q3G rfl ?_); (first | (refine zl hS ?_) | (refine zlk hS ?_) | (refine zlj hS ?_)))
      all_goals (refine Q6d rfl rfl ?_; rw [decide_eq_false (p := x1.text ≠ x1.text) (fun h => h rfl)])
      all_goals (refine zm ?_; (first | refine s_gn rfl rfl ?_ | (refine s_gy rfl ?_; refine zm ?_)); (first | refine s_gn rfl rfl ?_ | (refine s_gy rfl ?_; refine zm ?_)); (first | refine s_gn rfl rfl ?_ | (refine s_gy rfl ?_; refine QS rfl rfl hk2 rfl (by omega) ?_; intro b14 o14 cs14 x14 hat14 hx14 he14; obtain rfl : x1 = x14 := Option.some.inj (hx1.symm.trans hx14); obtain rfl := QH he14)); (first | refine s_gn rfl rfl ?_ | (refine s_gy rfl ?_; (first | refine Q8 rfl ?_ | refine Q3G rfl ?_))); (first | refine s_gn rfl rfl ?_ | (refine s_gy rfl ?_; (first | (refine zl hS ?_) | (refine zlk hS ?_) | (refine zlj hS ?_)))); (first | refine s_gn rfl rfl ?_ | (refine s_gy rfl ?_; refine zm ?_)); (first | refine s_gn rfl rfl ?_ | (refine s_gy rfl ?_; refine zm ?_)); (first | refine s_gn rfl rfl ?_ | (refine s_gy rfl ?_; refine QS rfl rfl hk1 rfl (by omega) ?_; intro b19 o19 cs19 x19 hat19 hx19 he19; have e19 := QH he19; rw [← (hlike i x1 x19 hx1 hx19).1, ← (hlike i x1 x19 hx1 hx19).2] at e19; obtain rfl := e19)); (first | refine s_gn rfl rfl ?_ | (refine s_gy rfl ?_; (first | refine Q8 rfl ?_ | refine Q3G rfl ?_))); (first | refine s_gn rfl rfl ?_ | (refine s_gy rfl ?_; (first | (refine zl hS ?_) | (refine zlk hS ?_) | (refine zlj hS ?_)))); (first | refine s_gn rfl rfl ?_ | (refine s_gy rfl ?_; refine s_bne_f (by kernel_rfl) rfl rfl rfl ?_)); (first | (refine zpt ?_) | (refine zpf ?_)); refine zm ?_)
      all_goals ((first | refine s_gn rfl rfl ?_ | (refine s_gy rfl ?_; refine zm ?_)); (first | refine s_gn rfl rfl ?_ | (refine s_gy rfl ?_; refine zm ?_)); (first | refine s_gn rfl rfl ?_ | (refine s_gy rfl ?_; refine QS rfl rfl hk2 rfl (by omega) ?_; intro b27 o27 cs27 x27 hat27 hx27 he27; obtain rfl : x1 = x27 := Option.some.inj (hx1.symm.trans hx27); obtain rfl := QH he27)); (first | refine s_gn rfl rfl ?_ | (refine s_gy rfl ?_; (first | refine Q8 rfl ?_ | refine Q3G rfl ?_))); (first | refine s_gn rfl rfl ?_ | (refine s_gy rfl ?_; (first | (refine zl hS ?_) | (refine zlk hS ?_) | (refine zlj hS ?_)))); (first | refine s_gn rfl rfl ?_ | (refine s_gy rfl ?_; refine zm ?_)); (first | refine s_gn rfl rfl ?_ | (refine s_gy rfl ?_; refine zm ?_)); (first | refine s_gn rfl rfl ?_ | (refine s_gy rfl ?_; refine QS rfl rfl hk1 rfl (by omega) ?_; intro b32 o32 cs32 x32 hat32 hx32 he32; have e32 := QH he32; rw [← (hlike i x1 x32 hx1 hx32).1, ← (hlike i x1 x32 hx1 hx32).2] at e32; obtain rfl := e32)); (first | refine s_gn rfl rfl ?_ | (refine s_gy rfl ?_; (first | refine Q8 rfl ?_ | refine Q3G rfl ?_))); (first | refine s_gn rfl rfl ?_ | (refine s_gy rfl ?_; (first | (refine zl hS ?_) | (refine zlk hS ?_) | (refine zlj hS ?_)))))
      all_goals (first | refine s_gn rfl rfl ?_ | (refine s_gy rfl ?_; (first | (refine Q5x ?_) | (refine Q5y ?_))))
      all_goals ((first | (refine zpt ?_) | (refine zpf ?_)); refine zn ?_)
      all_goals
        first
        | (refine Qg rfl ?_ -- Q7 c6
           all_goals (refine Q3 ?_; refine Q6 ?_; refine zm ?_; refine zn ?_; refine zr ?_; refine zf ?_)
           all_goals (exact ⟨_, rfl, rfl, St.weak hS.sp hle⟩))
        | (refine Qh rfl ?_ -- Q7 c6
           all_goals refine zsk ?_)
      all_goals (refine Q6 ?_; refine zm ?_; refine zad ?_; refine zm ?_; refine zn ?_; exact ⟨⟨i + 1, zh, zh, (by omega), hS.sp⟩, Q6s (by omega)⟩)
    · skip
      all_goals (refine zex ?_; refine Q3 ?_; refine Q6 ?_; refine zm ?_; refine zn ?_; refine zr ?_; refine zf ?_; exact ⟨_, rfl, rfl, St.weak hS.sp hle⟩)
end Go.Proofs.YtjecflbbcnocdaaDoor
namespace Go.Proofs.YtjecflbbcnocdaaDoor
open Go.Lir
theorem tokenBack_rd {w : World} (hT : NumK (Cx.top w)) (s : ByteArray) (h : s.size ≤ maxLen) : Rets Tryd.prog Q7 [.string s] w fun v w' => v = .bool true ∧ Fr NF w w' :=
  Rets.mono (Q51 (cx := Cx.top w) s.data.toList (by have h : s.data.size ≤ 2 ^ 63 - 1 := h; rw [Array.length_toList]; omega) hT (St.top w)) fun _ _ ⟨h, h2⟩ => ⟨h, h2.fr⟩
end Go.Proofs.YtjecflbbcnocdaaDoor
namespace Go.Proofs.YtjecflbbcnocdaaDoor
open Go.Lir
abbrev laid3 : List (String × DataW Unit) := [("math/bits.deBruijn32tab", Rows.laid_math_bits_deBruijn32tab), ("math/bits.deBruijn64tab", Rows.laid_math_bits_deBruijn64tab), ("internal/strconv.uint64pow10", Rows.laid_internal_strconv_uint64pow10), ("strconv.ErrRange", Rows.laid_strconv_ErrRange), ("strconv.ErrSyntax", Rows.laid_strconv_ErrSyntax)]
theorem door_met (os : Os) (args : Array Value) : laidMetH Tryd.prog laid3 ((World.doorLaid Tryd.prog 2000 os).forCall (fun _ _ => 0) ⟨#[], args, []⟩).memory :=
  laidMetH_of_parts3 (fuel := 8) (laidMet_of_run' 8 (by kernel_rfl) (by kernel_rfl)) (by kernel_rfl) (by kernel_rfl)
theorem pow_lit : (Rows.laid_internal_strconv_uint64pow10 : DataW Unit) = Lib.tabData .u64 Lib.pow10Tab := by kernel_rfl
theorem err_row (u : TypeId) (h : Tryd.prog.typeName? 3 u = some "*errors.errorString") : u = 156 :=
  typeName_ptr_named (nm := "errors.errorString") (by rw [show "*" ++ "errors.errorString" = "*errors.errorString" by decide]; kernel_rfl) (by kernel_rfl) (by decide) u (by rw [show "*" ++ "errors.errorString" = "*errors.errorString" by decide]; exact h)
theorem err_of {W : World} {n : String} {g : Nat} {text : List UInt8} {r : List (String × DataW Unit)} (hg : Tryd.prog.globalNamed n = some g) (ht : (Tryd.prog.globals[g]?).map (·.type) = some 77) (hlt : g < W.heap.size) (h : laidMet Tryd.prog ((n, .iface "*errors.errorString" (.ptr (.agg [.lit (.string text)]))) :: r) W) : ErrV (Cx.top W) g := by
  obtain ⟨a, s, hv, _⟩ := laid_sentinel h hg ht Tryd.underlying77 err_row Tryd.underlying156 Tryd.underlying158 rfl rfl Tryd.underlying9 (by kernel_rfl) (by kernel_rfl)
  refine ⟨hlt, fun w hw => ⟨.iface 156 (.pointer (some a)), ?_, .inr ⟨_, _, rfl⟩⟩⟩
  have hw2 : w.heap[g]? = W.heap[g]? := hw
  have h2 : w.var? Tryd.prog n = some #[.iface 156 (.pointer (some a))] := by
    unfold World.var? at hv ⊢
    rw [hg] at hv ⊢
    simp only [Option.bind_some] at hv ⊢
    rw [hw2]; exact hv
  exact World.var?_cell hg h2 0
theorem big_of {W : World} {n : String} {g : Nat} {x : DataW Unit} {r : List (String × DataW Unit)} (hg : Tryd.prog.globalNamed n = some g) (h : laidMet Tryd.prog ((n, x) :: r) W) : g < W.heap.size := by
  obtain ⟨ps, ⟨g0, t0, cs0, f0, p0, q0, hg0, ht0, hv0, hd0, _, e0⟩, _, hrows⟩ := h
  obtain rfl := Option.some.inj (hg.symm.trans hg0)
  rcases Nat.lt_or_ge g W.heap.size with h' | h'
  · exact h'
  · unfold World.var? at hv0
    rw [hg] at hv0
    simp only [Option.bind_some, Array.getElem?_eq_none h'] at hv0
    cases hv0
/-- What the numbers' texts need lies in what is only read. -/
theorem pow_of {W : World} (h : laidMetH Tryd.prog laid3 W) : NumK (Cx.top W) := by
  rw [MakeChecks.laidMetH_plain _ _ _ (by kernel_rfl)] at h
  have h2 := h.tail.tail
  have h3 := h2.tail
  rw [pow_lit] at h2
  exact ⟨TabK.top (Lib.tabIs_of_head (g := 3) (t := 150) (e := 124) (n := 20) (by kernel_rfl) (by kernel_rfl) (by kernel_rfl) (by kernel_rfl) (by kernel_rfl) (by kernel_rfl) h2), err_of (g := 1) (by kernel_rfl) (by kernel_rfl) (big_of (by kernel_rfl) h3.tail) h3.tail, err_of (g := 2) (by kernel_rfl) (by kernel_rfl) (big_of (by kernel_rfl) h3) h3⟩
end Go.Proofs.YtjecflbbcnocdaaDoor
