/- Types: the same or not (contracts). -/
import Derived.Test.YtanlkfeogoganaaTyO
namespace Go.Proofs.Ytanlkfeogoganaa
open Go.Lir
set_option maxHeartbeats 1000000
attribute [local irreducible] LC.wp opsWp thenQ blockQ retQ resWp LO.wp callPost Calls
set_option linter.unusedSimpArgs false
set_option linter.unusedVariables false
theorem rsames_of {l : List Ty} (ih : ∀ x ∈ l, ∀ (y : Ty) {cx : Cx} {w : World} {L : List Res} {cs ds : List Value}, tyR.at cx cs x → tyR.at cx ds y → St cx w L → Rets Try.prog R_SameType [.agg ⟨cs⟩, .agg ⟨ds⟩] w fun u w' => u = .bool (decide (x = y)) ∧ St cx w' L)
    {m : List Ty} {cx : Cx} {w : World} {L : List Res} {v v2 : Value} (hl : tyR.sl cx v l) (hm : tyR.sl cx v2 m) (hS : St cx w L) : Rets Try.prog R_SameTypes [v, v2] w fun u w' => u = .bool (decide (l = m)) ∧ St cx w' L := by
  have hlen := hl.len
  all_goals refine R_SameTypes_in ?_
  all_goals (unfold R_SameTypes_lc; refine s_seq ?_; refine s_ops ?_; refine s_mov (by (conv => lhs; whnf); first | done | exact rfl) ?_; refine s_nil ?_; (repeat (first | refine s_then ?_ | refine s_blockN ?_)); refine s_seq ?_; refine s_seq ?_; refine s_ops ?_; refine s_mov (by (conv => lhs; whnf); first | done | exact rfl) ?_; ((refine s_lenL (by (conv => lhs; whnf); first | done | exact rfl) (by assumption) ?_)); refine s_mov (by (conv => lhs; whnf); first | done | exact rfl) ?_; ((refine s_lenL (by (conv => lhs; whnf); first | done | exact rfl) (by assumption) ?_)))
  all_goals (first | (refine s_neq_t rfl rfl (by omega) ?_) | (refine s_neq_f rfl rfl (by omega) ?_) | (refine s_neq_s rfl rfl (fun hc => ?_) (fun hc => ?_)))
  all_goals (refine s_nil ?_; (repeat (first | refine s_then ?_ | refine s_blockN ?_)))
  all_goals
    first
    | (refine s_cond_t rfl ?_ -- R_SameTypes c0
       all_goals (refine s_seq ?_; refine s_ops ?_; refine s_mov (by (conv => lhs; whnf); first | done | exact rfl) ?_; refine s_nil ?_; (repeat (first | refine s_then ?_ | refine s_blockN ?_)); refine s_ret ?_; (repeat (first | refine s_retT ?_ | refine s_retB ?_)); refine q_ret1 (by (conv => lhs; whnf); first | done | exact rfl) ?_)
       all_goals (((refine ⟨_, rfl, ?_, (hS.subP (by (repeat constructor); first | done | fail))⟩; (rw [decide_eq_false]; exact fun e => absurd (congrArg List.length e) (by omega)); done))))
    | (refine s_cond_f rfl ?_ -- R_SameTypes c0
       all_goals (refine s_skip ?_; (repeat (first | refine s_then ?_ | refine s_blockN ?_))))
  all_goals (refine s_seq ?_; refine s_seq ?_; refine s_ops ?_; refine s_mov (by (conv => lhs; whnf); first | done | exact rfl) ?_; refine s_nil ?_; (repeat (first | refine s_then ?_ | refine s_blockN ?_)); refine s_block ?_)
  refine s_ask (i := 0) (by (conv => lhs; whnf); first | done | exact rfl) (fun e0 => ?_)
  refine s_ask (i := 1) (by (conv => lhs; whnf); first | done | exact rfl) (fun e1 => ?_)
  refine s_loop ((fun {xx0 V0 : Value} (_ : xx0 = V0) {xx1 V1 : Value} (_ : xx1 = V1) {cc : Cx} {ww : World} {LL : List Res} (_ : St cc ww LL) => (fun ρ' w' => ∃ (j : Nat), Has ρ' [(0, V0), (1, V1), (5, .int .i64 j)] ∧ (j ≤ l.length) ∧ (l.length = m.length) ∧ (l = m ↔ l.drop j = m.drop j) ∧ St cx w' (LL) : Env → World → Prop)) e0 e1 hS) (fun ρ' _ => (l.length - iv (ρ' 5)).toNat) ?_ ?_
  · exact ⟨0, ⟨rfl, rfl, rfl, trivial⟩, (by omega), (by omega), by simp, (hS.subP (by (repeat constructor); first | done | fail))⟩
  dsimp only; clear e0 e1; rintro ρ w1 ⟨j, hρ, hj, hlm, hd, hS⟩; obtain ⟨ρ, rfl⟩ := env_intro _ hρ
  unfold R_SameTypes_b4
  all_goals (refine s_seq ?_; refine s_seq ?_; refine s_ops ?_; refine s_mov (by (conv => lhs; whnf); first | done | exact rfl) ?_; refine s_mov (by (conv => lhs; whnf); first | done | exact rfl) ?_; ((refine s_lenL (by (conv => lhs; whnf); first | done | exact rfl) (by assumption) ?_)); refine s_lss_d rfl rfl ?_; refine s_nil ?_; (repeat (first | refine s_then ?_ | refine s_blockN ?_)))
  refine s_cond_d rfl (fun hc => ?_) (fun hc => ?_)
  · skip
    all_goals (refine s_skip ?_; (repeat (first | refine s_then ?_ | refine s_blockN ?_)); refine s_seq ?_; refine s_block ?_; refine s_seq ?_; refine s_draw [(0, none), (1, none), (2, none), (3, none), (4, none), (5, none), (6, none), (7, none), (8, some none), (9, some none)] (by kernel_rfl) (by kernel_rfl) ?_; have hS := hS.drew; refine s_mov (by (conv => lhs; whnf); first | done | exact rfl) ?_; refine s_mov (by (conv => lhs; whnf); first | done | exact rfl) ?_; (refine s_idxLn (by (conv => lhs; whnf); first | done | exact rfl) rfl (by assumption) rfl (by omega) ?_); intro b1 o1 cs1 x1 hat1 hx1 he1; ((obtain ⟨vl1, rfl, hl1⟩ := tyR_out he1)); (first | (refine s_loadnB hS rfl (NthP.nth (by repeat constructor)) rfl rfl ?_) | (refine s_loadnK hS (by assumption) rfl rfl ?_)); refine s_mov (by (conv => lhs; whnf); first | done | exact rfl) ?_; refine s_mov (by (conv => lhs; whnf); first | done | exact rfl) ?_; (refine s_idxLn (by (conv => lhs; whnf); first | done | exact rfl) rfl (by assumption) rfl (by omega) ?_); intro b2 o2 cs2 x2 hat2 hx2 he2; ((obtain ⟨vl2, rfl, hl2⟩ := tyR_out he2)))
    all_goals ((first | (refine s_loadnB hS rfl (NthP.nth (by repeat constructor)) rfl rfl ?_) | (refine s_loadnK hS (by assumption) rfl rfl ?_)))
    all_goals (refine s_rets_2 (by (conv => lhs; whnf); first | done | exact rfl) (by (conv => lhs; whnf); first | done | exact rfl) (ih _ (List.mem_of_getElem? hx1) _ he1 he2 hS) ?_; rintro v1 w1 ⟨rfl, hS⟩; (cases hdec : decide (x1 = x2)); (have hg := of_decide_eq_false hdec); rotate_left; (have hg := of_decide_eq_true hdec); all_goals skip)
    all_goals (refine s_not rfl ?_; refine s_nil ?_; (repeat (first | refine s_then ?_ | refine s_blockN ?_)))
    all_goals
      first
      | (refine s_cond_t rfl ?_ -- R_SameTypes c2
         all_goals (refine s_seq ?_; refine s_ops ?_; refine s_mov (by (conv => lhs; whnf); first | done | exact rfl) ?_; refine s_nil ?_; (repeat (first | refine s_then ?_ | refine s_blockN ?_)); refine s_ret ?_; (repeat (first | refine s_retT ?_ | refine s_retB ?_)); refine q_ret1 (by (conv => lhs; whnf); first | done | exact rfl) ?_)
         all_goals (first | ((refine ⟨_, rfl, ?_, (hS.subP (by (repeat constructor); first | done | fail))⟩; (rw [decide_eq_false]; exact fun e => absurd (congrArg List.length e) (by omega)); done)) | ((refine ⟨_, rfl, ?_, (hS.subP (by (repeat constructor); first | done | fail))⟩; (rw [decide_eq_false]; rw [hd, drop_cons hx1, drop_cons hx2]; simp [hg]); done))))
      | (refine s_cond_f rfl ?_ -- R_SameTypes c2
         all_goals (refine s_skip ?_; (repeat (first | refine s_then ?_ | refine s_blockN ?_))))
    all_goals (refine s_ops ?_; refine s_mov (by (conv => lhs; whnf); first | done | exact rfl) ?_; ((refine s_add rfl rfl (by omega) (by omega) ?_)); refine s_mov (by (conv => lhs; whnf); first | done | exact rfl) ?_; refine s_nil ?_; (repeat (first | refine s_then ?_ | refine s_blockN ?_)); ((exact ⟨⟨j + 1, ⟨rfl, rfl, rfl, trivial⟩, (by omega), (by omega), by rw [hd, drop_cons hx1, drop_cons hx2, hg]; simp, (hS.subP (by (repeat constructor); first | done | fail))⟩, meas_lt (by omega)⟩)))
  · skip
    all_goals (refine s_exit ?_; (repeat (first | refine s_exitQ ?_ | refine s_exitT ?_ | refine s_exitB rfl ?_ | refine s_then ?_ | refine s_blockN ?_)); refine s_seq ?_; refine s_ops ?_; refine s_mov (by (conv => lhs; whnf); first | done | exact rfl) ?_; refine s_nil ?_; (repeat (first | refine s_then ?_ | refine s_blockN ?_)); refine s_ret ?_; (repeat (first | refine s_retT ?_ | refine s_retB ?_)); refine q_ret1 (by (conv => lhs; whnf); first | done | exact rfl) ?_; (first | ((refine ⟨_, rfl, ?_, (hS.subP (by (repeat constructor); first | done | fail))⟩; (rw [decide_eq_false]; exact fun e => absurd (congrArg List.length e) (by omega)); done)) | ((refine ⟨_, rfl, ?_, (hS.subP (by (repeat constructor); first | done | fail))⟩; (rw [decide_eq_false]; rw [hd, drop_cons hx1, drop_cons hx2]; simp [hg]); done)) | ((refine ⟨_, rfl, ?_, (hS.subP (by (repeat constructor); first | done | fail))⟩; (rw [decide_eq_true]; rw [hd, List.drop_of_length_le (by omega), List.drop_of_length_le (by omega)]); done))))
theorem rsame_c : ∀ (t u : Ty) {cx : Cx} {w : World} {L : List Res} {cs ds : List Value}, tyR.at cx cs t → tyR.at cx ds u → St cx w L →
    Rets Try.prog R_SameType [.agg ⟨cs⟩, .agg ⟨ds⟩] w fun v w' => v = .bool (decide (t = u)) ∧ St cx w' L := by
  intro t
  induction t using Ty.ind with
  | h k r l ih =>
    rintro ⟨k2, r2, m⟩ cx w L cs ds ht hu hS
    obtain ⟨v, rfl, hl⟩ := tyR_out ht
    obtain ⟨v2, rfl, hm⟩ := tyR_out hu
    simp only [Ty.kind, Ty.r, Ty.l, Ty.mk.injEq] at hl hm ht hu ⊢
    all_goals refine R_SameType_in ?_
    all_goals (unfold R_SameType_lc; refine s_seq ?_; refine s_ops ?_; refine s_boxB hS (by (conv => lhs; whnf); first | done | exact rfl) (by rfl) ?_; (intro p2 w1 hS); refine s_boxB hS (by (conv => lhs; whnf); first | done | exact rfl) (by rfl) ?_; (intro p3 w1 hS); refine s_mov (by (conv => lhs; whnf); first | done | exact rfl) ?_; refine s_nil ?_; (repeat (first | refine s_then ?_ | refine s_blockN ?_)); refine s_seq ?_; refine s_ops ?_; (refine s_fld0 rfl ?_); ((refine s_loadB hS rfl (NthP.nth (by repeat constructor)) rfl ?_)); (refine s_fld0 rfl ?_); ((refine s_loadB hS rfl (NthP.nth (by repeat constructor)) rfl ?_)))
    all_goals (first | (refine s_eql_t rfl rfl (by omega) ?_) | (refine s_eql_f rfl rfl (by omega) ?_) | (refine s_eql_s rfl rfl (fun hc => ?_) (fun hc => ?_)))
    all_goals (refine s_mov (by (conv => lhs; whnf); first | done | exact rfl) ?_; (first | refine s_gn rfl rfl ?_ | (refine s_gy rfl ?_; (refine s_fld0 rfl ?_))); (first | refine s_gn rfl rfl ?_ | (refine s_gy rfl ?_; ((refine s_loadB hS rfl (NthP.nth (by repeat constructor)) rfl ?_)))); (first | refine s_gn rfl rfl ?_ | (refine s_gy rfl ?_; (refine s_fld0 rfl ?_))); (first | refine s_gn rfl rfl ?_ | (refine s_gy rfl ?_; ((refine s_loadB hS rfl (NthP.nth (by repeat constructor)) rfl ?_)))))
    all_goals (first | refine s_gn rfl rfl ?_ | (refine s_gy rfl ?_; (first | (refine s_eql_t rfl rfl (by omega) ?_) | (refine s_eql_f rfl rfl (by omega) ?_) | (refine s_eql_s rfl rfl (fun hc => ?_) (fun hc => ?_)))))
    all_goals ((first | refine s_pick_t rfl (by (conv => lhs; whnf); first | done | exact rfl) ?_ | refine s_pick_f rfl (by (conv => lhs; whnf); first | done | exact rfl) ?_); refine s_mov (by (conv => lhs; whnf); first | done | exact rfl) ?_; (first | refine s_gn rfl rfl ?_ | (refine s_gy rfl ?_; (refine s_fld0 rfl ?_))); (first | refine s_gn rfl rfl ?_ | (refine s_gy rfl ?_; ((refine s_loadB hS rfl (NthP.nth (by repeat constructor)) rfl ?_)))); (first | refine s_gn rfl rfl ?_ | (refine s_gy rfl ?_; (refine s_fld0 rfl ?_))); (first | refine s_gn rfl rfl ?_ | (refine s_gy rfl ?_; ((refine s_loadB hS rfl (NthP.nth (by repeat constructor)) rfl ?_)))); (first | refine s_gn rfl rfl ?_ | (refine s_gy rfl ?_; refine s_rets_2 (by (conv => lhs; whnf); first | done | exact rfl) (by (conv => lhs; whnf); first | done | exact rfl) (rsames_of ih hl hm hS) ?_; rintro v1 w1 ⟨rfl, hS⟩)); (first | refine s_pick_t rfl (by (conv => lhs; whnf); first | done | exact rfl) ?_ | refine s_pick_f rfl (by (conv => lhs; whnf); first | done | exact rfl) ?_); refine s_mov (by (conv => lhs; whnf); first | done | exact rfl) ?_; refine s_nil ?_; (repeat (first | refine s_then ?_ | refine s_blockN ?_)); refine s_ret ?_; (repeat (first | refine s_retT ?_ | refine s_retB ?_)))
    all_goals (refine q_ret1 (by (conv => lhs; whnf); first | done | exact rfl) ?_; (((refine ⟨_, rfl, ?_, (hS.subP (by (repeat constructor); first | done | fail))⟩; (simp [*]); done))))
theorem rsames_c {l m : List Ty} {cx : Cx} {w : World} {L : List Res} {v v2 : Value} (hl : tyR.sl cx v l) (hm : tyR.sl cx v2 m) (hS : St cx w L) : Rets Try.prog R_SameTypes [v, v2] w fun u w' => u = .bool (decide (l = m)) ∧ St cx w' L :=
  rsames_of (fun x _ => rsame_c x) hl hm hS
/-- slices.EqualFunc, by a function that tells whether two are the same. -/
theorem eqfT_c {l : List Ty} {f : FuncId} (hf : goFunc Try.prog f = true) {m : List Ty} {cx : Cx} {w : World} {L : List Res} {v v2 : Value}
    (hcall : ∀ x ∈ l, ∀ y ∈ m, ∀ {w : World} {L : List Res} {cs ds : List Value}, tyR.at cx cs x → tyR.at cx ds y → St cx w L → Rets Try.prog f [.agg ⟨cs⟩, .agg ⟨ds⟩] w fun u w' => u = .bool (decide (x = y)) ∧ St cx w' L)
    (hl : tyR.sl cx v l) (hm : tyR.sl cx v2 m) (hS : St cx w L) : Rets Try.prog slices_EqualFunc_api_Type_api_Type_api_Type_api_Type [v, v2, .func (.func f) #[] #[]] w fun u w' => u = .bool (decide (l = m)) ∧ St cx w' L := by
  have hlen := hl.len
  all_goals refine slices_EqualFunc_api_Type_api_Type_api_Type_api_Type_in ?_
  all_goals (unfold slices_EqualFunc_api_Type_api_Type_api_Type_api_Type_lc; refine s_seq ?_; refine s_ops ?_; refine s_mov (by (conv => lhs; whnf); first | done | exact rfl) ?_; refine s_nil ?_; (repeat (first | refine s_then ?_ | refine s_blockN ?_)); refine s_seq ?_; refine s_seq ?_; refine s_ops ?_; refine s_mov (by (conv => lhs; whnf); first | done | exact rfl) ?_; ((refine s_lenL (by (conv => lhs; whnf); first | done | exact rfl) (by assumption) ?_)); refine s_mov (by (conv => lhs; whnf); first | done | exact rfl) ?_; ((refine s_lenL (by (conv => lhs; whnf); first | done | exact rfl) (by assumption) ?_)))
  all_goals (first | (refine s_neq_t rfl rfl (by omega) ?_) | (refine s_neq_f rfl rfl (by omega) ?_) | (refine s_neq_s rfl rfl (fun hc => ?_) (fun hc => ?_)))
  all_goals (refine s_nil ?_; (repeat (first | refine s_then ?_ | refine s_blockN ?_)))
  all_goals
    first
    | (refine s_cond_t rfl ?_ -- slices_EqualFunc_api_Type_api_Type_api_Type_api_Type c0
       all_goals (refine s_seq ?_; refine s_ops ?_; refine s_mov (by (conv => lhs; whnf); first | done | exact rfl) ?_; refine s_nil ?_; (repeat (first | refine s_then ?_ | refine s_blockN ?_)); refine s_ret ?_; (repeat (first | refine s_retT ?_ | refine s_retB ?_)); refine q_ret1 (by (conv => lhs; whnf); first | done | exact rfl) ?_)
       all_goals (((refine ⟨_, rfl, ?_, (hS.subP (by (repeat constructor); first | done | fail))⟩; (rw [decide_eq_false]; exact fun e => absurd (congrArg List.length e) (by omega)); done))))
    | (refine s_cond_f rfl ?_ -- slices_EqualFunc_api_Type_api_Type_api_Type_api_Type c0
       all_goals (refine s_skip ?_; (repeat (first | refine s_then ?_ | refine s_blockN ?_))))
  all_goals (refine s_seq ?_; refine s_seq ?_; refine s_ops ?_; refine s_mov (by (conv => lhs; whnf); first | done | exact rfl) ?_; ((refine s_lenL (by (conv => lhs; whnf); first | done | exact rfl) (by assumption) ?_)); refine s_mov (by (conv => lhs; whnf); first | done | exact rfl) ?_; refine s_nil ?_; (repeat (first | refine s_then ?_ | refine s_blockN ?_)); refine s_block ?_)
  refine s_ask (i := 1) (by (conv => lhs; whnf); first | done | exact rfl) (fun e1 => ?_)
  refine s_ask (i := 2) (by (conv => lhs; whnf); first | done | exact rfl) (fun e2 => ?_)
  refine s_ask (i := 15) (by (conv => lhs; whnf); first | done | exact rfl) (fun e15 => ?_)
  refine s_ask (i := 16) (by (conv => lhs; whnf); first | done | exact rfl) (fun e16 => ?_)
  refine s_loop ((fun {xx1 V1 : Value} (_ : xx1 = V1) {xx2 V2 : Value} (_ : xx2 = V2) {xx15 V15 : Value} (_ : xx15 = V15) {xx16 V16 : Value} (_ : xx16 = V16) {cc : Cx} {ww : World} {LL : List Res} (_ : St cc ww LL) => (fun ρ' w' => ∃ (j : Nat), Has ρ' [(1, V1), (2, V2), (15, V15), (16, V16), (17, .int .i64 j)] ∧ (j ≤ l.length) ∧ (l.length = m.length) ∧ (l = m ↔ l.drop j = m.drop j) ∧ St cx w' (LL) : Env → World → Prop)) e1 e2 e15 e16 hS) (fun ρ' _ => (l.length - iv (ρ' 17)).toNat) ?_ ?_
  · exact ⟨0, ⟨rfl, rfl, rfl, rfl, rfl, trivial⟩, (by omega), (by omega), by simp, (hS.subP (by (repeat constructor); first | done | fail))⟩
  dsimp only; clear e1 e2 e15 e16; rintro ρ w1 ⟨j, hρ, hj, hlm, hd, hS⟩; obtain ⟨ρ, rfl⟩ := env_intro _ hρ
  unfold slices_EqualFunc_api_Type_api_Type_api_Type_api_Type_b4
  all_goals (refine s_seq ?_; refine s_ops ?_; refine s_lss_d rfl rfl ?_; refine s_nil ?_; (repeat (first | refine s_then ?_ | refine s_blockN ?_)); refine s_seq ?_)
  refine s_cond_d rfl (fun hc => ?_) (fun hc => ?_)
  · skip
    all_goals (refine s_skip ?_; (repeat (first | refine s_then ?_ | refine s_blockN ?_)); refine s_seq ?_; refine s_block ?_; refine s_seq ?_; refine s_ops ?_; refine s_mov (by (conv => lhs; whnf); first | done | exact rfl) ?_; (refine s_idxLn (by (conv => lhs; whnf); first | done | exact rfl) rfl (by assumption) rfl (by omega) ?_); intro b1 o1 cs1 x1 hat1 hx1 he1; ((obtain ⟨vl1, rfl, hl1⟩ := tyR_out he1)); (first | (refine s_loadnB hS rfl (NthP.nth (by repeat constructor)) rfl rfl ?_) | (refine s_loadnK hS (by assumption) rfl rfl ?_)); refine s_allocB hS ?_; (intro p8 w1 hS); refine s_mov (by (conv => lhs; whnf); first | done | exact rfl) ?_; ((refine s_storenF hS rfl rfl (by rfl) (NthP.nth (by repeat constructor)) (by rfl) (by first | (simp [oneC]; done) | assumption | exact Rep.one _ (by assumption)) ?_; intro w1 hS; simp only [List.set_cons_zero, List.set_cons_succ] at hS)))
    all_goals (refine s_nil ?_; (repeat (first | refine s_then ?_ | refine s_blockN ?_)); refine s_seq ?_; refine s_ops ?_; refine s_mov (by (conv => lhs; whnf); first | done | exact rfl) ?_; refine s_mov (by (conv => lhs; whnf); first | done | exact rfl) ?_; (refine s_idxLn (by (conv => lhs; whnf); first | done | exact rfl) rfl (by assumption) rfl (by omega) ?_); intro b2 o2 cs2 x2 hat2 hx2 he2; ((obtain ⟨vl2, rfl, hl2⟩ := tyR_out he2)); (first | (refine s_loadnB hS rfl (NthP.nth (by repeat constructor)) rfl rfl ?_) | (refine s_loadnK hS (by assumption) rfl rfl ?_)); refine s_allocB hS ?_; (intro p9 w1 hS); ((refine s_storenF hS rfl rfl (by rfl) (NthP.nth (by repeat constructor)) (by rfl) (by first | (simp [oneC]; done) | assumption | exact Rep.one _ (by assumption)) ?_; intro w1 hS; simp only [List.set_cons_zero, List.set_cons_succ] at hS)))
    all_goals (refine s_nil ?_; (repeat (first | refine s_then ?_ | refine s_blockN ?_)); refine s_seq ?_; refine s_ops ?_; refine s_mov (by (conv => lhs; whnf); first | done | exact rfl) ?_; ((refine s_loadnB hS rfl (NthP.nth (by repeat constructor)) rfl rfl ?_)); ((refine s_loadnB hS rfl (NthP.nth (by repeat constructor)) rfl rfl ?_)))
    all_goals (refine s_retsv rfl hf (by rfl) (hcall _ (List.mem_of_getElem? hx1) _ (List.mem_of_getElem? hx2) he1 he2 hS) ?_; rintro v1 w1 ⟨rfl, hS⟩; (cases hdec : decide (x1 = x2)); (have hg := of_decide_eq_false hdec); rotate_left; (have hg := of_decide_eq_true hdec); all_goals skip)
    all_goals (refine s_not rfl ?_; refine s_nil ?_; (repeat (first | refine s_then ?_ | refine s_blockN ?_)))
    all_goals
      first
      | (refine s_cond_t rfl ?_ -- slices_EqualFunc_api_Type_api_Type_api_Type_api_Type c2
         all_goals (refine s_seq ?_; refine s_ops ?_; refine s_mov (by (conv => lhs; whnf); first | done | exact rfl) ?_; refine s_nil ?_; (repeat (first | refine s_then ?_ | refine s_blockN ?_)); refine s_ret ?_; (repeat (first | refine s_retT ?_ | refine s_retB ?_)); refine q_ret1 (by (conv => lhs; whnf); first | done | exact rfl) ?_)
         all_goals (first | ((refine ⟨_, rfl, ?_, (hS.subP (by (repeat constructor); first | done | fail))⟩; (rw [decide_eq_false]; exact fun e => absurd (congrArg List.length e) (by omega)); done)) | ((refine ⟨_, rfl, ?_, (hS.subP (by (repeat constructor); first | done | fail))⟩; (rw [decide_eq_false]; rw [hd, drop_cons hx1, drop_cons hx2]; simp [hg]); done))))
      | (refine s_cond_f rfl ?_ -- slices_EqualFunc_api_Type_api_Type_api_Type_api_Type c2
         all_goals (refine s_skip ?_; (repeat (first | refine s_then ?_ | refine s_blockN ?_))))
    all_goals (refine s_ops ?_; ((refine s_add rfl rfl (by omega) (by omega) ?_)); refine s_mov (by (conv => lhs; whnf); first | done | exact rfl) ?_; refine s_nil ?_; (repeat (first | refine s_then ?_ | refine s_blockN ?_)); ((exact ⟨⟨j + 1, ⟨rfl, rfl, rfl, rfl, rfl, trivial⟩, (by omega), (by omega), by rw [hd, drop_cons hx1, drop_cons hx2, hg]; simp, (hS.subP (by (repeat constructor); first | done | fail))⟩, meas_lt (by omega)⟩)))
  · skip
    all_goals (refine s_exit ?_; (repeat (first | refine s_exitQ ?_ | refine s_exitT ?_ | refine s_exitB rfl ?_ | refine s_then ?_ | refine s_blockN ?_)); refine s_seq ?_; refine s_ops ?_; refine s_mov (by (conv => lhs; whnf); first | done | exact rfl) ?_; refine s_nil ?_; (repeat (first | refine s_then ?_ | refine s_blockN ?_)); refine s_ret ?_; (repeat (first | refine s_retT ?_ | refine s_retB ?_)); refine q_ret1 (by (conv => lhs; whnf); first | done | exact rfl) ?_; (first | ((refine ⟨_, rfl, ?_, (hS.subP (by (repeat constructor); first | done | fail))⟩; (rw [decide_eq_false]; exact fun e => absurd (congrArg List.length e) (by omega)); done)) | ((refine ⟨_, rfl, ?_, (hS.subP (by (repeat constructor); first | done | fail))⟩; (rw [decide_eq_false]; rw [hd, drop_cons hx1, drop_cons hx2]; simp [hg]); done)) | ((refine ⟨_, rfl, ?_, (hS.subP (by (repeat constructor); first | done | fail))⟩; (rw [decide_eq_true]; rw [hd, List.drop_of_length_le (by omega), List.drop_of_length_le (by omega)]); done))))
theorem psame_c : ∀ (t u : Ty) {cx : Cx} {w : World} {L : List Res} {cs ds : List Value}, tyR.at cx cs t → tyR.at cx ds u → St cx w L →
    Rets Try.prog types_Same [.agg ⟨cs⟩, .agg ⟨ds⟩] w fun v w' => v = .bool (decide (t = u)) ∧ St cx w' L := by
  intro t
  induction t using Ty.ind with
  | h k r l ih =>
    rintro ⟨k2, r2, m⟩ cx w L cs ds ht hu hS
    obtain ⟨v, rfl, hl⟩ := tyR_out ht
    obtain ⟨v2, rfl, hm⟩ := tyR_out hu
    simp only [Ty.kind, Ty.r, Ty.l, Ty.mk.injEq] at hl hm ht hu ⊢
    all_goals refine types_Same_in ?_
    all_goals (unfold types_Same_lc; refine s_seq ?_; refine s_ops ?_; refine s_boxB hS (by (conv => lhs; whnf); first | done | exact rfl) (by rfl) ?_; (intro p2 w1 hS); refine s_boxB hS (by (conv => lhs; whnf); first | done | exact rfl) (by rfl) ?_; (intro p3 w1 hS); refine s_mov (by (conv => lhs; whnf); first | done | exact rfl) ?_; refine s_nil ?_; (repeat (first | refine s_then ?_ | refine s_blockN ?_)); refine s_seq ?_; refine s_ops ?_; (refine s_fld0 rfl ?_); ((refine s_loadB hS rfl (NthP.nth (by repeat constructor)) rfl ?_)); (refine s_fld0 rfl ?_); ((refine s_loadB hS rfl (NthP.nth (by repeat constructor)) rfl ?_)))
    all_goals (first | (refine s_eql_t rfl rfl (by omega) ?_) | (refine s_eql_f rfl rfl (by omega) ?_) | (refine s_eql_s rfl rfl (fun hc => ?_) (fun hc => ?_)))
    all_goals (refine s_mov (by (conv => lhs; whnf); first | done | exact rfl) ?_; (first | refine s_gn rfl rfl ?_ | (refine s_gy rfl ?_; (refine s_fld0 rfl ?_))); (first | refine s_gn rfl rfl ?_ | (refine s_gy rfl ?_; ((refine s_loadB hS rfl (NthP.nth (by repeat constructor)) rfl ?_)))); (first | refine s_gn rfl rfl ?_ | (refine s_gy rfl ?_; (refine s_fld0 rfl ?_))); (first | refine s_gn rfl rfl ?_ | (refine s_gy rfl ?_; ((refine s_loadB hS rfl (NthP.nth (by repeat constructor)) rfl ?_)))))
    all_goals (first | refine s_gn rfl rfl ?_ | (refine s_gy rfl ?_; (first | (refine s_eql_t rfl rfl (by omega) ?_) | (refine s_eql_f rfl rfl (by omega) ?_) | (refine s_eql_s rfl rfl (fun hc => ?_) (fun hc => ?_)))))
    all_goals ((first | refine s_pick_t rfl (by (conv => lhs; whnf); first | done | exact rfl) ?_ | refine s_pick_f rfl (by (conv => lhs; whnf); first | done | exact rfl) ?_); refine s_mov (by (conv => lhs; whnf); first | done | exact rfl) ?_; (first | refine s_gn rfl rfl ?_ | (refine s_gy rfl ?_; (refine s_fld0 rfl ?_))); (first | refine s_gn rfl rfl ?_ | (refine s_gy rfl ?_; ((refine s_loadB hS rfl (NthP.nth (by repeat constructor)) rfl ?_)))); (first | refine s_gn rfl rfl ?_ | (refine s_gy rfl ?_; (refine s_fld0 rfl ?_))); (first | refine s_gn rfl rfl ?_ | (refine s_gy rfl ?_; ((refine s_loadB hS rfl (NthP.nth (by repeat constructor)) rfl ?_)))); (first | refine s_gn rfl rfl ?_ | (refine s_gy rfl ?_; refine s_rets_3 (by (conv => lhs; whnf); first | done | exact rfl) (by (conv => lhs; whnf); first | done | exact rfl) (by (conv => lhs; whnf); first | done | exact rfl) (eqfT_c (by kernel_rfl) (fun x hx y _ {_ _ _ _} h1 h2 h3 => ih x hx y h1 h2 h3) hl hm hS) ?_; rintro v1 w1 ⟨rfl, hS⟩)); (first | refine s_pick_t rfl (by (conv => lhs; whnf); first | done | exact rfl) ?_ | refine s_pick_f rfl (by (conv => lhs; whnf); first | done | exact rfl) ?_); refine s_mov (by (conv => lhs; whnf); first | done | exact rfl) ?_)
    all_goals (refine s_nil ?_; (repeat (first | refine s_then ?_ | refine s_blockN ?_)); refine s_ret ?_; (repeat (first | refine s_retT ?_ | refine s_retB ?_)); refine q_ret1 (by (conv => lhs; whnf); first | done | exact rfl) ?_; (((refine ⟨_, rfl, ?_, (hS.subP (by (repeat constructor); first | done | fail))⟩; (simp [*]); done))))
end Go.Proofs.Ytanlkfeogoganaa
