/- The judge's state in memory, and the small ones of its functions (contracts). -/
import Derived.Test.YtanlkfeogoganaaHeldW
import Derived.Test.YtanlkfeogoganaaRenW
import Derived.Test.YtanlkfeogoganaaJudgeF
import Derived.Test.YtanlkfeogoganaaLirEnd
import Derived.Test.YtanlkfeogoganaaCheckW
namespace Go.Proofs.Ytanlkfeogoganaa
open Go.Lir
set_option maxHeartbeats 1000000
attribute [local irreducible] LC.wp opsWp thenQ blockQ retQ resWp LO.wp callPost Calls
set_option linter.unusedSimpArgs false
set_option linter.unusedVariables false
attribute [local irreducible] hasB heldL passGo heldTo
section
variable {P : Program} {l : List GO} {Q : QT} {ρ : Env}
variable {cx : Cx} {w : World} {L : List Res}
/-- A judge: where it lies, and what of it stays. -/
structure JP where
  sp : Nat
  hp : Nat
  f : Fun
  vm : Value
  vp : Value
  vr : Value
  vb : Value
structure JP.Fits (j : JP) (cx : Cx) (m : Module) : Prop where
  m : funcR.sl cx j.vm m.funcs
  p : tyR.sl cx j.vp j.f.params
  r : tyR.sl cx j.vr j.f.results
  b : blockR.sl cx j.vb j.f.blocks
theorem JP.Fits.up {j : JP} {cx cx' : Cx} {m : Module} (h : j.Fits cx m) (hle : cx.Le cx') : j.Fits cx' m := ⟨h.m.up hle, h.p.up hle, h.r.up hle, h.b.up hle⟩
@[reducible] def JP.cells (j : JP) (vl : Value) : List Value := [.pointer (some ⟨j.hp, 0, none⟩), j.vm, .int .i64 j.f.regs, j.vp, j.vr, j.vb, vl]
def JP.res (j : JP) (h : List Bool) (vl : Value) (css : List (List Value)) : Res := star (blk j.sp 69 (j.cells vl)) (star (heldR j.hp h) (sl 65 3 vl css))
variable {j : JP} {h : List Bool} {vl : Value} {css : List (List Value)}
theorem JP.opn {i : Nat} (hS : St cx w L) (hi : nth L i = some (j.res h vl css)) : St cx w (blk j.sp 69 (j.cells vl) :: heldR j.hp h :: sl 65 3 vl css :: L.eraseIdx i) := by
  have h1 := (hS.out hi).star
  exact (St.star (h1.mv1)).mv2
theorem JP.cls {i : Nat} {h' : List Bool} {vl' : Value} {css' : List (List Value)} (hi : nth L i = some (j.res h vl css)) (hS : St cx w (blk j.sp 69 (j.cells vl') :: heldR j.hp h' :: sl 65 3 vl' css' :: L.eraseIdx i)) : St cx w (L.set i (j.res h' vl' css')) := by
  have h1 : St cx w (star (heldR j.hp h') (sl 65 3 vl' css') :: blk j.sp 69 (j.cells vl') :: L.eraseIdx i) := St.star' (hS.mv2.mv2)
  exact St.back (St.star' h1.mv1) hi
theorem JP.cls0 {i : Nat} (hi : nth L i = some (j.res h vl css)) (hS : St cx w (blk j.sp 69 (j.cells vl) :: heldR j.hp h :: sl 65 3 vl css :: L.eraseIdx i)) : St cx w L := by
  have h1 : St cx w (star (heldR j.hp h) (sl 65 3 vl css) :: blk j.sp 69 (j.cells vl) :: L.eraseIdx i) := St.star' (hS.mv2.mv2)
  exact St.back0 (St.star' h1.mv1) hi
theorem s_loadJ {d i o : Nat} {x : Operand} {u : Value} (hS : St cx w L) (hx : ρ.ev x = .pointer (some ⟨j.sp, o, none⟩)) (hi : nth L i = some (j.res h vl css)) (hu : (j.cells vl)[o]? = some u) (h : opsWp P l Q (upd ρ d u) w) : opsWp P (⟨none, .load1 d x⟩ :: l) Q ρ w :=
  s_loadB (JP.opn hS hi) hx nth0 hu h
theorem s_loadnJ {d n i o : Nat} {x : Operand} {us : List Value} (hS : St cx w L) (hx : ρ.ev x = .pointer (some ⟨j.sp, o, none⟩)) (hi : nth L i = some (j.res h vl css)) (hu : ((j.cells vl).drop o).take n = us) (hl : us.length = n) (h : opsWp P l Q (upd ρ d (.agg ⟨us⟩)) w) : opsWp P (⟨none, .loadn d n x⟩ :: l) Q ρ w :=
  s_loadnB (JP.opn hS hi) hx nth0 hu hl h
theorem gq_loadJ {d i o : Nat} {x : Operand} {u : Value} (hS : St cx w L) (hx : ρ.ev x = .pointer (some ⟨j.sp, o, none⟩)) (hi : nth L i = some (j.res h vl css)) (hu : (j.cells vl)[o]? = some u) : gqv P ρ w ⟨none, .load1 d x⟩ u := gq_loadB (JP.opn hS hi) hx nth0 hu
theorem s_lenJ {d i n : Nat} {x : Operand} (hS : St cx w L) (hi : nth L i = some (j.res h vl css)) (hx : ρ.ev x = vl) (hn : css.length = n) (h : opsWp P l Q (upd ρ d (.int .i64 n)) w) : opsWp P (⟨none, .len d x⟩ :: l) Q ρ w :=
  s_lenEn (JP.opn hS hi) hx nth2 hn h
end
variable {cx : Cx} {w : World} {L : List Res} {j : JP} {h : List Bool} {vl : Value} {css : List (List Value)} {i : Nat} {m : Module}
theorem jhas_c {r : Int} (hS : St cx w L) (hi : nth L i = some (j.res h vl css)) : Rets Try.prog held_Held_Has [.pointer (some ⟨j.hp, 0, none⟩), .int .i64 r] w fun u w' => u = .bool (hasB h r) ∧ St cx w' L := by
  obtain ⟨v, h2⟩ := held_open (JP.opn hS hi).mv1
  refine (has_u h2).mono ?_
  rintro u w' ⟨h3, h4⟩
  exact ⟨h3, JP.cls0 hi (held_shut h4).mv1⟩
theorem jlen_c (hS : St cx w L) (hi : nth L i = some (j.res h vl css)) : Rets Try.prog held_Held_Len [.pointer (some ⟨j.hp, 0, none⟩)] w fun u w' => u = .int .i64 h.length ∧ St cx w' L := by
  obtain ⟨v, h2⟩ := held_open (JP.opn hS hi).mv1
  refine (len_u h2).mono ?_
  rintro u w' ⟨h3, h4⟩
  exact ⟨h3, JP.cls0 hi (held_shut h4).mv1⟩
theorem jlist_c (hl : h.length ≤ 16) (hS : St cx w L) (hi : nth L i = some (j.res h vl css)) : Rets Try.prog held_Held_List [.pointer (some ⟨j.hp, 0, none⟩)] w fun u w' => ∃ c', cx.Le c' ∧ intR.sl c' u (heldL h) ∧ St c' w' L := by
  obtain ⟨v, h2⟩ := held_open (JP.opn hS hi).mv1
  refine (list_u hl h2).mono ?_
  rintro u w' ⟨c', h3, h5, h4⟩
  exact ⟨c', h3, h5, JP.cls0 hi (held_shut h4).mv1⟩
theorem jopen_c (hl : h.length < 16) (hS : St cx w L) (hi : nth L i = some (j.res h vl css)) : Rets Try.prog held_Held_Open [.pointer (some ⟨j.hp, 0, none⟩)] w fun u w' => u = .int .i64 h.length ∧ St cx w' (L.set i (j.res (h ++ [true]) vl css)) := by
  obtain ⟨v, h2⟩ := held_open (JP.opn hS hi).mv1
  refine (open_u hl h2).mono ?_
  rintro u w' ⟨h3, v', h4⟩
  exact ⟨h3, JP.cls hi (held_shut h4).mv1⟩
theorem jshut_c {r : Int} (hr : hasB h r = true) (hS : St cx w L) (hi : nth L i = some (j.res h vl css)) : Rets Try.prog held_Held_Shut [.pointer (some ⟨j.hp, 0, none⟩), .int .i64 r] w fun u w' => u = .bool true ∧ St cx w' (L.set i (j.res (h.set r.toNat false) vl css)) := by
  obtain ⟨v, h2⟩ := held_open (JP.opn hS hi).mv1
  refine (shut_u hr h2).mono ?_
  rintro u w' ⟨h3, h4⟩
  exact ⟨h3, JP.cls hi (held_shut h4).mv1⟩
theorem jpass_c {v2 : Value} {xs : List Int} (hl : h.length ≤ 16) (hx : intR.sl cx v2 xs) (hS : St cx w L) (hi : nth L i = some (j.res h vl css)) : Rets Try.prog held_Held_Pass [.pointer (some ⟨j.hp, 0, none⟩), v2] w fun u w' => u = .int .i64 (passGo h [] xs) ∧ St cx w' L := by
  obtain ⟨v, h2⟩ := held_open (JP.opn hS hi).mv1
  refine (pass_u hl hx h2).mono ?_
  rintro u w' ⟨h3, c', h5, h4⟩
  exact ⟨h3, St.weak (JP.cls0 hi (held_shut h4).mv1) h5⟩

/-! ### Giving up -/
@[reducible] def goneV (c : Int) : Value := .iface 145 (.int .i64 c)
theorem jfail_f {c : Int} (hS : St cx w L) : Rets Try.prog judge_fail [.bool false, .int .i64 c] w fun u w' => u = .tuple #[] ∧ St cx w' L := by
  all_goals refine judge_fail_in ?_
  all_goals (unfold judge_fail_lc; refine s_seq ?_; refine s_ops ?_; refine s_mov (by (conv => lhs; whnf); first | done | exact rfl) ?_; refine s_nil ?_; (repeat (first | refine s_then ?_ | refine s_blockN ?_)))
  all_goals refine s_cond_f rfl ?_
  all_goals (refine s_skip ?_; (repeat (first | refine s_then ?_ | refine s_blockN ?_)); refine q_end0 ?_; exact ⟨_, rfl, rfl, (hS.subP (by (repeat constructor); first | done | fail))⟩)
theorem jfail_t {c : Int} (hS : St cx w L) : Fins Try.prog judge_fail [.bool true, .int .i64 c] w (fun _ _ => False) (fun u w' => u = goneV c ∧ St cx w' L) := by
  unfold Fins
  all_goals refine judge_fail_in ?_
  all_goals (unfold judge_fail_lc; refine s_seq ?_; refine s_ops ?_; refine s_mov (by (conv => lhs; whnf); first | done | exact rfl) ?_; refine s_nil ?_; (repeat (first | refine s_then ?_ | refine s_blockN ?_)))
  all_goals refine s_cond_t rfl ?_
  all_goals (refine s_ops ?_; refine s_mov (by (conv => lhs; whnf); first | done | exact rfl) ?_; refine s_mki (by (conv => lhs; whnf); first | done | exact rfl) ?_; refine s_panic rfl ?_; (repeat (first | refine s_panT ?_ | refine s_panB ?_)); refine q_pan ?_; exact .inr ⟨_, rfl, rfl, (hS.subP (by (repeat constructor); first | done | fail))⟩)
theorem jfail_c {b : Bool} {c : Int} (hS : St cx w L) : Fins Try.prog judge_fail [.bool b, .int .i64 c] w (fun u w' => u = .tuple #[] ∧ b = false ∧ St cx w' L) (fun u w' => u = goneV c ∧ b = true ∧ St cx w' L) := by
  cases b with
  | false => exact ((jfail_f hS).mono fun u w' h => (⟨h.1, rfl, h.2⟩ : u = .tuple #[] ∧ false = false ∧ St cx w' L)).ends
  | true => exact (jfail_t hS).mono (fun _ _ h => h.elim) (fun _ _ h => ⟨h.1, rfl, h.2⟩)
theorem jvalue_c {s : JS} {k : Int} (hls : tyR.ls cx css s.l) (hS : St cx w L) (hi : nth L i = some (j.res h vl css)) : Fins Try.prog judge_State_value [.pointer (some ⟨j.sp, 0, none⟩), .int .i64 k] w
    (fun u w' => ∃ t cs, jval s k = .ok t ∧ u = .agg ⟨cs⟩ ∧ tyR.at cx cs t ∧ St cx w' L) (fun u w' => ∃ c, jval s k = .error c ∧ u = goneV c ∧ St cx w' L) := by
  have hlc := hls.1
  have hS := JP.opn hS hi
  unfold Fins
  all_goals refine judge_State_value_in ?_
  all_goals (unfold judge_State_value_lc; refine s_seq ?_; refine s_ops ?_; refine s_allocB hS ?_; (intro p4 w1 hS); refine s_nil ?_; (repeat (first | refine s_then ?_ | refine s_blockN ?_)); refine s_seq ?_; refine s_ops ?_; refine s_mov (by (conv => lhs; whnf); first | done | exact rfl) ?_)
  all_goals (first | (refine s_lss_t rfl rfl (by omega) ?_) | (refine s_lss_f rfl rfl (by omega) ?_) | (refine s_lss_s rfl rfl (fun hc => ?_) (fun hc => ?_)))
  all_goals (refine s_mov (by (conv => lhs; whnf); first | done | exact rfl) ?_; (first | refine s_gn rfl rfl ?_ | (refine s_gy rfl ?_; refine s_mov (by (conv => lhs; whnf); first | done | exact rfl) ?_)); (first | refine s_gn rfl rfl ?_ | (refine s_gy rfl ?_; refine s_mov (by (conv => lhs; whnf); first | done | exact rfl) ?_)); (first | refine s_gn rfl rfl ?_ | (refine s_gy rfl ?_; refine s_nilc rfl ?_)); (first | refine s_gn rfl rfl ?_ | (refine s_gy rfl ?_; (refine s_fld0 rfl ?_))); (first | refine s_gn rfl rfl ?_ | (refine s_gy rfl ?_; ((refine s_loadB hS rfl (NthP.nth (by repeat constructor)) rfl ?_)))); (first | refine s_gn rfl rfl ?_ | (refine s_gy rfl ?_; ((refine s_lenEn hS (by (conv => lhs; whnf); first | done | exact rfl) (NthP.nth (by repeat constructor)) hlc ?_)))))
  all_goals (first | refine s_gn rfl rfl ?_ | (refine s_gy rfl ?_; (first | (refine s_geq_t rfl rfl (by omega) ?_) | (refine s_geq_f rfl rfl (by omega) ?_) | (refine s_geq_s rfl rfl (fun hc => ?_) (fun hc => ?_)))))
  all_goals ((first | refine s_pick_t rfl (by (conv => lhs; whnf); first | done | exact rfl) ?_ | refine s_pick_f rfl (by (conv => lhs; whnf); first | done | exact rfl) ?_))
  all_goals (first | (refine s_rets_2 (by (conv => lhs; whnf); first | done | exact rfl) (by (conv => lhs; whnf); first | done | exact rfl) (jfail_f hS) ?_; rintro v1 w1 ⟨rfl, hS⟩) | (refine s_ends_2 (by (conv => lhs; whnf); first | done | exact rfl) (by (conv => lhs; whnf); first | done | exact rfl) (jfail_t hS) (by rintro v9 w9 ⟨rfl, hS⟩; (repeat (first | refine s_panT ?_ | refine s_panB ?_ | refine fun _ => ?_)); refine q_pan ?_; refine .inr ⟨_, rfl, ?_⟩; first | (exact ⟨_, jval_no (by omega), rfl, (JP.cls0 hi (hS.subP (by (repeat constructor); first | done | fail)))⟩)) (fun _ _ h => h.elim)))
  all_goals (refine s_nil ?_; (repeat (first | refine s_then ?_ | refine s_blockN ?_)); refine s_seq ?_; obtain ⟨t, ht⟩ : ∃ t, s.l[k.toNat]? = some t := ⟨_, List.getElem?_eq_getElem (by omega)⟩; obtain ⟨d, hd, hrd⟩ := hls.2 _ _ ht; obtain ⟨vd, rfl, hld⟩ := tyR_out hrd; refine s_ops ?_; refine s_mov (by (conv => lhs; whnf); first | done | exact rfl) ?_; refine s_nilc rfl ?_; (refine s_fld0 rfl ?_); ((refine s_loadB hS rfl (NthP.nth (by repeat constructor)) rfl ?_)); refine s_mov (by (conv => lhs; whnf); first | done | exact rfl) ?_; (first | ((first | refine s_idxLn (by (conv => lhs; whnf); first | done | exact rfl) rfl (by assumption) rfl (by omega) ?_ | refine s_idxL (by (conv => lhs; whnf); first | done | exact rfl) rfl (by assumption) rfl (by omega) (by omega) ?_); intro b1 o1 cs1 x1 hat1 hx1 he1; ((obtain ⟨vl1, rfl, hl1⟩ := tyR_out he1))) | (refine s_idxE hS (by (conv => lhs; whnf); first | done | exact rfl) rfl (NthP.nth (by repeat constructor)) (by first | omega | (simp; omega)) ?_; intro b1 o1 hel1) | (refine s_idxEi hS (by (conv => lhs; whnf); first | done | exact rfl) rfl (NthP.nth (by repeat constructor)) (by omega) (by omega) ?_; intro b1 o1 hel1)))
  all_goals (((refine s_loadnE hS hel1 rfl (NthP.nth (by repeat constructor)) rfl hd ?_)); ((refine s_storenF hS rfl rfl (by rfl) (NthP.nth (by repeat constructor)) (by rfl) (by first | (simp [oneC]; done) | assumption | exact Rep.one _ (by assumption)) ?_; intro w1 hS; simp only [List.set_cons_zero, List.set_cons_succ] at hS)); refine s_nil ?_; (repeat (first | refine s_then ?_ | refine s_blockN ?_)); refine s_ret ?_; (repeat (first | refine s_retT ?_ | refine s_retB ?_)))
  all_goals (refine q_retc (by (conv => lhs; whnf); first | done | exact rfl) (holds_blk (n := 3) (by kernel_rfl) (by kernel_rfl) (hS.blkAt (NthP.nth (by repeat constructor))) (by rfl) (by rfl)) ?_; ((exact .inl ⟨_, rfl, t, _, jval_yes (by omega) ht, rfl, hrd, (JP.cls0 hi (hS.subP (by (repeat constructor); first | done | fail)))⟩)))
theorem jkind_c {s : JS} {k kd : Int} (hls : tyR.ls cx css s.l) (hS : St cx w L) (hi : nth L i = some (j.res h vl css)) : Fins Try.prog judge_State_kind [.pointer (some ⟨j.sp, 0, none⟩), .int .i64 k, .int .i64 kd] w
    (fun u w' => ∃ t cs, jkind s k kd = .ok t ∧ u = .agg ⟨cs⟩ ∧ tyR.at cx cs t ∧ St cx w' L) (fun u w' => ∃ c, jkind s k kd = .error c ∧ u = goneV c ∧ St cx w' L) := by
  have hS := hS.out hi
  unfold Fins jkind
  all_goals refine judge_State_kind_in ?_
  all_goals (unfold judge_State_kind_lc; refine s_seq ?_; refine s_ops ?_; refine s_allocB hS ?_; (intro p6 w1 hS); refine s_nil ?_; (repeat (first | refine s_then ?_ | refine s_blockN ?_)); refine s_seq ?_; refine s_ops ?_; refine s_mov (by (conv => lhs; whnf); first | done | exact rfl) ?_; refine s_mov (by (conv => lhs; whnf); first | done | exact rfl) ?_; refine s_ends_2 (by (conv => lhs; whnf); first | done | exact rfl) (by (conv => lhs; whnf); first | done | exact rfl) (jvalue_c hls hS (NthP.nth (by repeat constructor))) (by rintro v9 w9 ⟨c, h1, rfl, hS⟩; (repeat (first | refine s_panT ?_ | refine s_panB ?_ | refine fun _ => ?_)); refine q_pan ?_; refine .inr ⟨_, rfl, ?_⟩; exact ⟨_, ebind_e h1, rfl, (St.back0 (hS.subP (by (repeat constructor); first | done | fail)) hi)⟩) ?_; rintro v1 w1 ⟨t, cs, h1, rfl, hrd, hS⟩; have hrd' := hrd; obtain ⟨vd, rfl, hld⟩ := tyR_out hrd; refine s_allocB hS ?_; (intro p7 w1 hS); ((refine s_storenF hS rfl rfl (by rfl) (NthP.nth (by repeat constructor)) (by rfl) (by first | (simp [oneC]; done) | assumption | exact Rep.one _ (by assumption)) ?_; intro w1 hS; simp only [List.set_cons_zero, List.set_cons_succ] at hS)))
  all_goals (refine s_nil ?_; (repeat (first | refine s_then ?_ | refine s_blockN ?_)); refine s_seq ?_; refine s_ops ?_; (refine s_fld0 rfl ?_); ((refine s_loadB hS rfl (NthP.nth (by repeat constructor)) rfl ?_)); refine s_mov (by (conv => lhs; whnf); first | done | exact rfl) ?_)
  all_goals (first | (refine s_neq_t rfl rfl (by omega) ?_) | (refine s_neq_f rfl rfl (by omega) ?_) | (refine s_neq_s rfl rfl (fun hc => ?_) (fun hc => ?_)))
  all_goals (first | (refine s_rets_2 (by (conv => lhs; whnf); first | done | exact rfl) (by (conv => lhs; whnf); first | done | exact rfl) (jfail_f hS) ?_; rintro v1 w1 ⟨rfl, hS⟩) | (refine s_ends_2 (by (conv => lhs; whnf); first | done | exact rfl) (by (conv => lhs; whnf); first | done | exact rfl) (jfail_t hS) (by rintro v9 w9 ⟨rfl, hS⟩; (repeat (first | refine s_panT ?_ | refine s_panB ?_ | refine fun _ => ?_)); refine q_pan ?_; refine .inr ⟨_, rfl, ?_⟩; first | (exact ⟨_, (ebind_o h1).trans (if_pos (by omega)), rfl, (St.back0 (hS.subP (by (repeat constructor); first | done | fail)) hi)⟩)) (fun _ _ h => h.elim)))
  all_goals (refine s_nil ?_; (repeat (first | refine s_then ?_ | refine s_blockN ?_)); refine s_seq ?_; refine s_ops ?_; ((refine s_loadnB hS rfl (NthP.nth (by repeat constructor)) rfl rfl ?_)); ((refine s_storenF hS rfl rfl (by rfl) (NthP.nth (by repeat constructor)) (by rfl) (by first | (simp [oneC]; done) | assumption | exact Rep.one _ (by assumption)) ?_; intro w1 hS; simp only [List.set_cons_zero, List.set_cons_succ] at hS)); refine s_nil ?_; (repeat (first | refine s_then ?_ | refine s_blockN ?_)))
  all_goals (refine s_ret ?_; (repeat (first | refine s_retT ?_ | refine s_retB ?_)); refine q_retc (by (conv => lhs; whnf); first | done | exact rfl) (holds_blk (n := 3) (by kernel_rfl) (by kernel_rfl) (hS.blkAt (NthP.nth (by repeat constructor))) (by rfl) (by rfl)) ?_; ((exact .inl ⟨_, rfl, t, _, (ebind_o h1).trans (if_neg (by omega)), rfl, hrd', (St.back0 (hS.subP (by (repeat constructor); first | done | fail)) hi)⟩)))
theorem jat_c {s : JS} {k kd : Int} (hls : tyR.ls cx css s.l) (hS : St cx w L) (hi : nth L i = some (j.res s.h vl css)) : Fins Try.prog judge_State_at [.pointer (some ⟨j.sp, 0, none⟩), .int .i64 k, .int .i64 kd] w
    (fun u w' => ∃ t cs, jat s k kd = .ok t ∧ u = .agg ⟨cs⟩ ∧ tyR.at cx cs t ∧ St cx w' L) (fun u w' => ∃ c, jat s k kd = .error c ∧ u = goneV c ∧ St cx w' L) := by
  have hS := hS.out hi
  unfold Fins jat
  all_goals refine judge_State_at_in ?_
  all_goals (unfold judge_State_at_lc; refine s_seq ?_; refine s_ops ?_; refine s_allocB hS ?_; (intro p6 w1 hS); refine s_nil ?_; (repeat (first | refine s_then ?_ | refine s_blockN ?_)); refine s_seq ?_; refine s_ops ?_; refine s_mov (by (conv => lhs; whnf); first | done | exact rfl) ?_; refine s_mov (by (conv => lhs; whnf); first | done | exact rfl) ?_; refine s_mov (by (conv => lhs; whnf); first | done | exact rfl) ?_; refine s_ends_3 (by (conv => lhs; whnf); first | done | exact rfl) (by (conv => lhs; whnf); first | done | exact rfl) (by (conv => lhs; whnf); first | done | exact rfl) (jkind_c hls hS (NthP.nth (by repeat constructor))) (by rintro v9 w9 ⟨c, h1, rfl, hS⟩; (repeat (first | refine s_panT ?_ | refine s_panB ?_ | refine fun _ => ?_)); refine q_pan ?_; refine .inr ⟨_, rfl, ?_⟩; exact ⟨_, ebind_e h1, rfl, (St.back0 (hS.subP (by (repeat constructor); first | done | fail)) hi)⟩) ?_; rintro v1 w1 ⟨t, cs, h1, rfl, hrd, hS⟩; have hrd' := hrd; obtain ⟨vd, rfl, hld⟩ := tyR_out hrd; refine s_allocB hS ?_; (intro p7 w1 hS); ((refine s_storenF hS rfl rfl (by rfl) (NthP.nth (by repeat constructor)) (by rfl) (by first | (simp [oneC]; done) | assumption | exact Rep.one _ (by assumption)) ?_; intro w1 hS; simp only [List.set_cons_zero, List.set_cons_succ] at hS)))
  all_goals (refine s_nil ?_; (repeat (first | refine s_then ?_ | refine s_blockN ?_)); refine s_seq ?_; refine s_draw [(0, none), (1, none), (2, none), (3, none), (4, none), (5, none), (6, some none), (7, none), (8, some none)] (by kernel_rfl) (by kernel_rfl) ?_; have hS := hS.drew; refine s_mov (by (conv => lhs; whnf); first | done | exact rfl) ?_; refine s_nilc rfl ?_; (refine s_fld0 rfl ?_); ((refine s_loadJ hS rfl (NthP.nth (by repeat constructor)) rfl ?_)); (refine s_fld0 rfl ?_); (first | (refine s_loadJ hS rfl (NthP.nth (by repeat constructor)) rfl ?_) | (refine s_loadB hS rfl (NthP.nth (by repeat constructor)) rfl ?_)); refine s_rets_2 (by (conv => lhs; whnf); first | done | exact rfl) (by (conv => lhs; whnf); first | done | exact rfl) (jhas_c hS (NthP.nth (by repeat constructor))) ?_; rintro v1 w1 ⟨rfl, hS⟩; refine s_not rfl ?_)
  all_goals (first | (refine s_rets_2 (by (conv => lhs; whnf); first | done | exact rfl) (by (conv => lhs; whnf); first | done | exact rfl) (jfail_f hS) ?_; rintro v1 w1 ⟨rfl, hS⟩) | (refine s_ends_2 (by (conv => lhs; whnf); first | done | exact rfl) (by (conv => lhs; whnf); first | done | exact rfl) (jfail_t hS) (by rintro v9 w9 ⟨rfl, hS⟩; (repeat (refine s_panT ?_)); refine q_pan ?_; refine .inr ⟨_, rfl, ?_⟩; first | (exact ⟨_, (ebind_o h1).trans (if_pos (by simpa using hb)), rfl, (St.back0 (hS.subP (by (repeat constructor); first | done | fail)) hi)⟩)) (fun _ _ h => h.elim)) | (refine s_ends_2 (by (conv => lhs; whnf); first | done | exact rfl) (by (conv => lhs; whnf); first | done | exact rfl) (jfail_c hS) (by rintro v9 w9 ⟨rfl, hb, hS⟩; (repeat (first | refine s_panT ?_ | refine s_panB ?_ | refine fun _ => ?_)); refine q_pan ?_; refine .inr ⟨_, rfl, ?_⟩; first | (exact ⟨_, (ebind_o h1).trans (if_pos (by simpa using hb)), rfl, (St.back0 (hS.subP (by (repeat constructor); first | done | fail)) hi)⟩)) ?_; rintro v1 w1 ⟨rfl, hb, hS⟩))
  all_goals (refine s_nil ?_; (repeat (first | refine s_then ?_ | refine s_blockN ?_)); refine s_seq ?_; refine s_ops ?_; ((refine s_loadnB hS rfl (NthP.nth (by repeat constructor)) rfl rfl ?_)); ((refine s_storenF hS rfl rfl (by rfl) (NthP.nth (by repeat constructor)) (by rfl) (by first | (simp [oneC]; done) | assumption | exact Rep.one _ (by assumption)) ?_; intro w1 hS; simp only [List.set_cons_zero, List.set_cons_succ] at hS)); refine s_nil ?_; (repeat (first | refine s_then ?_ | refine s_blockN ?_)))
  all_goals (refine s_ret ?_; (repeat (first | refine s_retT ?_ | refine s_retB ?_)); refine q_retc (by (conv => lhs; whnf); first | done | exact rfl) (holds_blk (n := 3) (by kernel_rfl) (by kernel_rfl) (hS.blkAt (NthP.nth (by repeat constructor))) (by rfl) (by rfl)) ?_; ((exact .inl ⟨_, rfl, t, _, (ebind_o h1).trans (if_neg (by simpa using hb)), rfl, hrd', (St.back0 (hS.subP (by (repeat constructor); first | done | fail)) hi)⟩)))
end Go.Proofs.Ytanlkfeogoganaa
