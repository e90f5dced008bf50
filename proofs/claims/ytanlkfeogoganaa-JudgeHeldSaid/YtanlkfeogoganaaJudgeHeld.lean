/- The statement JudgeHeld: the walk. -/
import Derived.Test.YtanlkfeogoganaaJudgeB
import Derived.Test.YtanlkfeogoganaaJudgeP
import Derived.Test.YtanlkfeogoganaaGreatW
namespace Go.Proofs.Ytanlkfeogoganaa
open Go.Lir
set_option maxHeartbeats 1000000
attribute [local irreducible] LC.wp opsWp thenQ blockQ retQ resWp LO.wp callPost Calls
set_option linter.unusedSimpArgs false
set_option linter.unusedVariables false
attribute [local irreducible] hasB heldL passGo heldTo keptB upTo Module.fault jIns jEnd
variable {cx : Cx} {w : World} {L : List Res} {j : JP} {h : List Bool} {vl : Value} {css : List (List Value)} {i : Nat} {m : Module}
theorem judgeHeld_c {f b : Int} {l : List Ins} {cs : List Value} {v2 : Value} (hx : modR.at cx cs m) (hl : insR.sl cx v2 l) (hS : St cx w L) : Rets Try.prog Law_JudgeHeld [.agg ⟨cs⟩, .int .i64 f, .int .i64 b, v2] w fun u w' => u = .bool true ∧ St cx w' L := by
  obtain ⟨vf, rfl, hf⟩ := modR_out hx
  obtain ⟨a0, n0, rfl⟩ := Rep.SR.shape hf
  have hll := hl.len
  all_goals refine Law_JudgeHeld_in ?_
  all_goals (unfold Law_JudgeHeld_lc; refine s_seq ?_; refine s_ops ?_; refine s_boxB hS (by (conv => lhs; whnf); first | done | exact rfl) (by rfl) ?_; (intro p4 w1 hS); refine s_mov (by (conv => lhs; whnf); first | done | exact rfl) ?_; refine s_nil ?_; (repeat (first | refine s_then ?_ | refine s_blockN ?_)); refine s_seq ?_; refine s_seq ?_; refine s_ops ?_; refine s_rets_0 (judgeBegun_c hS) ?_; rintro v1 w1 ⟨rfl, hS⟩; refine s_not rfl ?_; refine s_nil ?_; (repeat (first | refine s_then ?_ | refine s_blockN ?_)))
  all_goals
    first
    | (refine s_cond_t rfl ?_ -- Law_JudgeHeld c0
       all_goals (refine s_seq ?_; refine s_ops ?_; refine s_mov (by (conv => lhs; whnf); first | done | exact rfl) ?_; refine s_nil ?_; (repeat (refine s_then ?_)); refine s_ret ?_; (repeat (refine s_retT ?_)); refine q_ret1 (by (conv => lhs; whnf); first | done | exact rfl) ?_)
       all_goals ((exact ⟨_, rfl, rfl, (hS.subP (by (repeat constructor); first | done | fail))⟩)))
    | (refine s_cond_f rfl ?_ -- Law_JudgeHeld c0
       all_goals (refine s_skip ?_; (repeat (first | refine s_then ?_ | refine s_blockN ?_))))
  all_goals (refine s_seq ?_; refine s_seq ?_; refine s_ops ?_; ((refine s_loadnB hS rfl (NthP.nth (by repeat constructor)) rfl rfl ?_)))
  all_goals (refine s_rets_1 (by (conv => lhs; whnf); first | done | exact rfl) (greatmod_c hx hS) ?_; rintro v1 w1 ⟨g1, rfl, hg1, hS⟩; cases g1)
  all_goals (refine s_mov (by (conv => lhs; whnf); first | done | exact rfl) ?_; (first | refine s_gn rfl rfl ?_ | (refine s_gy rfl ?_; refine s_mov (by (conv => lhs; whnf); first | done | exact rfl) ?_)); (first | refine s_gn rfl rfl ?_ | (refine s_gy rfl ?_; ((refine s_lenL (by (conv => lhs; whnf); first | done | exact rfl) (by assumption) ?_)))))
  all_goals (first | refine s_gn rfl rfl ?_ | (refine s_gy rfl ?_; (first | (refine s_gtr_t rfl rfl (by omega) ?_) | (refine s_gtr_f rfl rfl (by omega) ?_) | (refine s_gtr_s rfl rfl (fun hc => ?_) (fun hc => ?_)))))
  all_goals ((first | refine s_pick_t rfl (by (conv => lhs; whnf); first | done | exact rfl) ?_ | refine s_pick_f rfl (by (conv => lhs; whnf); first | done | exact rfl) ?_); refine s_nil ?_; (repeat (first | refine s_then ?_ | refine s_blockN ?_)))
  all_goals
    first
    | (refine s_cond_t rfl ?_ -- Law_JudgeHeld c1
       all_goals (refine s_seq ?_; refine s_ops ?_; refine s_mov (by (conv => lhs; whnf); first | done | exact rfl) ?_; refine s_nil ?_; (repeat (first | refine s_then ?_ | refine s_blockN ?_)); refine s_ret ?_; (repeat (first | refine s_retT ?_ | refine s_retB ?_)); refine q_ret1 (by (conv => lhs; whnf); first | done | exact rfl) ?_)
       all_goals ((exact ⟨_, rfl, rfl, (hS.subP (by (repeat constructor); first | done | fail))⟩)))
    | (refine s_cond_f rfl ?_ -- Law_JudgeHeld c1
       all_goals (refine s_skip ?_; (repeat (first | refine s_then ?_ | refine s_blockN ?_))))
  all_goals (refine s_seq ?_; have hm := hg1 rfl; refine s_ops ?_; ((refine s_loadnB hS rfl (NthP.nth (by repeat constructor)) rfl rfl ?_)); refine s_mov (by (conv => lhs; whnf); first | done | exact rfl) ?_; refine s_mov (by (conv => lhs; whnf); first | done | exact rfl) ?_)
  all_goals (refine s_rets_3 (by (conv => lhs; whnf); first | done | exact rfl) (by (conv => lhs; whnf); first | done | exact rfl) (by (conv => lhs; whnf); first | done | exact rfl) (jNew_c hm hx hS) ?_; rintro v1 w1 (⟨h0, rfl, hS⟩ | ⟨h0, h9, rfl, hS⟩ | ⟨fn, y, j, c2, vl, css, h0, -, -, hfn, hy, rfl, hleN, hj, jf, hls, hS⟩))
  all_goals (refine s_mov (by (conv => lhs; whnf); first | done | exact rfl) ?_; refine s_ext rfl rfl ?_; refine s_ext rfl rfl ?_; refine s_allocB hS ?_; (intro p10 w1 hS); refine s_mov (by (conv => lhs; whnf); first | done | exact rfl) ?_; ((refine s_storenF hS rfl rfl (by rfl) (NthP.nth (by repeat constructor)) (by rfl) (by (simp [oneC]; done)) ?_; intro w1 hS; simp only [List.set_cons_zero, List.set_cons_succ] at hS)); refine s_nil ?_; (repeat (first | refine s_then ?_ | refine s_blockN ?_)); refine s_seq ?_; refine s_seq ?_; refine s_ops ?_; (refine s_fld0 rfl ?_))
  all_goals ((first | (refine s_loadJ hS rfl (NthP.nth (by repeat constructor)) rfl ?_) | (refine s_loadB hS rfl (NthP.nth (by repeat constructor)) rfl ?_)))
  all_goals (first | (refine s_neq_t rfl rfl (by omega) ?_) | (refine s_neq_f rfl rfl (by omega) ?_))
  all_goals (refine s_nil ?_; (repeat (first | refine s_then ?_ | refine s_blockN ?_)))
  all_goals
    first
    | (refine s_cond_t rfl ?_ -- Law_JudgeHeld c2
       all_goals (refine s_seq ?_; refine s_ops ?_; refine s_mov (by (conv => lhs; whnf); first | done | exact rfl) ?_; refine s_nil ?_; (repeat (first | refine s_then ?_ | refine s_blockN ?_)); refine s_ret ?_; (repeat (first | refine s_retT ?_ | refine s_retB ?_)); refine q_ret1 (by (conv => lhs; whnf); first | done | exact rfl) ?_)
       all_goals ((exact ⟨_, rfl, rfl, (hS.subP (by (repeat constructor); first | done | fail))⟩)))
    | (refine s_cond_f rfl ?_ -- Law_JudgeHeld c2
       all_goals (refine s_skip ?_; (repeat (first | refine s_then ?_ | refine s_blockN ?_))))
  all_goals (refine s_seq ?_; refine s_seq ?_; have hg0 := jStart_good hm h0 hfn hy; have hS : St c2 _ (j.res (jStart y).h vl css :: L) := (hS.subP (by (repeat constructor); first | done | fail)); refine s_ops ?_; refine s_mov (by (conv => lhs; whnf); first | done | exact rfl) ?_; refine s_nil ?_; (repeat (first | refine s_then ?_ | refine s_blockN ?_)); refine s_block ?_)
  refine s_ask (i := 3) (by (conv => lhs; whnf); first | done | exact rfl) (fun e3 => ?_)
  refine s_ask (i := 9) (by (conv => lhs; whnf); first | done | exact rfl) (fun e9 => ?_)
  refine s_loop ((fun {xx3 V3 : Value} (_ : xx3 = V3) {xx9 V9 : Value} (_ : xx9 = V9) => (fun ρ' w' => ∃ (k0 : Cx) (q : Nat) (s : JS) (vl : Value) (css : List (List Value)), Has ρ' [(3, V3), (9, V9), (11, .int .i64 q)] ∧ (c2.Le k0) ∧ (q ≤ l.length) ∧ (insR.sl k0 v2 l) ∧ (j.Fits k0 m) ∧ (tyR.ls k0 css s.l) ∧ (JGood s) ∧ St k0 w' (j.res s.h vl css :: L) : Env → World → Prop)) e3 e9) (fun ρ' _ => (l.length - iv (ρ' 11)).toNat) ?_ ?_
  · exact ⟨c2, 0, jStart y, vl, css, ⟨rfl, rfl, rfl, trivial⟩, St.refl hS, (by omega), hl.up hleN, hj, hls, hg0, (hS.subP (by (repeat constructor); first | done | fail))⟩
  dsimp only; clear e3 e9; rintro ρ w1 ⟨k0, q, s, vl, css, hρ, hle2, hq, hl, hj, hls, hg, hS⟩; obtain ⟨ρ, rfl⟩ := env_intro _ hρ; have hL0 := hle2; (first | (have hl := Rep.SR.up hl hle2) | (have hl := Rep.R.up hl hle2) | (have hl := Rep.LR.up hl hle2) | skip)
  unfold Law_JudgeHeld_b9
  all_goals (refine s_seq ?_; refine s_seq ?_; refine s_ops ?_; refine s_mov (by (conv => lhs; whnf); first | done | exact rfl) ?_; refine s_mov (by (conv => lhs; whnf); first | done | exact rfl) ?_; ((refine s_lenL (by (conv => lhs; whnf); first | done | exact rfl) (by assumption) ?_)); refine s_lss_d rfl rfl ?_; refine s_nil ?_; (repeat (first | refine s_then ?_ | refine s_blockN ?_)))
  refine s_cond_d rfl (fun hc => ?_) (fun hc => ?_)
  · skip
    all_goals (refine s_skip ?_; (repeat (first | refine s_then ?_ | refine s_blockN ?_)); refine s_seq ?_; refine s_block ?_; refine s_seq ?_; refine s_ops ?_; refine s_mov (by (conv => lhs; whnf); first | done | exact rfl) ?_; refine s_mov (by (conv => lhs; whnf); first | done | exact rfl) ?_; (refine s_idxLn (by (conv => lhs; whnf); first | done | exact rfl) rfl (by assumption) rfl (by omega) ?_); intro b1 o1 cs1 x1 hat1 hx1 he1; ((obtain ⟨vr1, va1, rfl, hr1, ha1⟩ := insR_out he1)); (first | (refine s_loadnB hS rfl (NthP.nth (by repeat constructor)) rfl rfl ?_) | (refine s_loadnK hS (by assumption) rfl rfl ?_)); refine s_allocB hS ?_; (intro p12 w1 hS); ((refine s_storenF hS rfl rfl (by rfl) (NthP.nth (by repeat constructor)) (by rfl) (by first | (simp [oneC]; done) | assumption | exact Rep.one _ (by assumption)) ?_; intro w1 hS; simp only [List.set_cons_zero, List.set_cons_succ] at hS)))
    all_goals (refine s_nil ?_; (repeat (first | refine s_then ?_ | refine s_blockN ?_)); refine s_seq ?_; refine s_ops ?_; refine s_mov (by (conv => lhs; whnf); first | done | exact rfl) ?_)
    all_goals (refine s_rets_1 (by (conv => lhs; whnf); first | done | exact rfl) (jTypes_c (s := s) hg.s hg.n hls hS (NthP.nth (by repeat constructor))) ?_; rintro v1 w1 ⟨c3, hle2, hkT, hS⟩; (try have hL0 := Cx.Le.trans hL0 hle2); (try have hl := Rep.SR.up hl hle2); (try have hr1 := Rep.SR.up hr1 hle2); (try have ha1 := Rep.SR.up ha1 hle2); (try have he1 := Rep.R.up he1 hle2); (try have hls := Rep.LR.up hls hle2); (first | (have hl := Rep.SR.up hl hle2) | (have hl := Rep.R.up hl hle2) | (have hl := Rep.LR.up hl hle2) | skip); have hj := hj.up hle2)
    all_goals (refine s_mov (by (conv => lhs; whnf); first | done | exact rfl) ?_; refine s_nil ?_; (repeat (first | refine s_then ?_ | refine s_blockN ?_)); refine s_seq ?_; refine s_ops ?_; refine s_mov (by (conv => lhs; whnf); first | done | exact rfl) ?_; ((refine s_loadnB hS rfl (NthP.nth (by repeat constructor)) rfl rfl ?_)))
    all_goals (refine s_rets_2 (by (conv => lhs; whnf); first | done | exact rfl) (by (conv => lhs; whnf); first | done | exact rfl) (jIns_c (s := s) hm hg.n hg.h hj he1 hls hS (NthP.nth (by repeat constructor))) ?_; rintro v1 w1 ⟨rfl, c4, vl4, css4, hle2, hls4, hS⟩; simp only [List.set_cons_zero, List.set_cons_succ] at hS; (try have hL0 := Cx.Le.trans hL0 hle2); (try have hl := Rep.SR.up hl hle2); (try have hr1 := Rep.SR.up hr1 hle2); (try have ha1 := Rep.SR.up ha1 hle2); (try have he1 := Rep.R.up he1 hle2); (try have hls := Rep.LR.up hls hle2); (first | (have hl := Rep.SR.up hl hle2) | (have hl := Rep.R.up hl hle2) | (have hl := Rep.LR.up hl hle2) | skip); have hj := hj.up hle2; have hkT := hkT.up hle2; have hg1 := jIns_good (f := j.f) (x := x1) hm hg; obtain ⟨s1, hs1⟩ : ∃ s1, (jIns m j.f s x1).2 = s1 := ⟨_, rfl⟩; rw [hs1] at hls4 hS hg1)
    all_goals (refine s_mov (by (conv => lhs; whnf); first | done | exact rfl) ?_; refine s_nil ?_; (repeat (first | refine s_then ?_ | refine s_blockN ?_)); refine s_seq ?_; refine s_seq ?_; refine s_ops ?_; refine s_mov (by (conv => lhs; whnf); first | done | exact rfl) ?_)
    all_goals (first | (refine s_neq_t rfl rfl (by omega) ?_) | (refine s_neq_f rfl rfl (by omega) ?_) | (refine s_neq_s rfl rfl (fun hc => ?_) (fun hc => ?_)))
    all_goals (refine s_nil ?_; (repeat (first | refine s_then ?_ | refine s_blockN ?_)))
    all_goals
      first
      | (refine s_cond_t rfl ?_ -- Law_JudgeHeld c4
         all_goals (refine s_exit ?_; (repeat (first | refine s_exitQ ?_ | refine s_exitT ?_ | refine s_exitB rfl ?_ | refine s_then ?_ | refine s_blockN ?_)); refine s_ops ?_; refine s_mov (by (conv => lhs; whnf); first | done | exact rfl) ?_; ((refine s_add rfl rfl (by omega) (by omega) ?_)); refine s_mov (by (conv => lhs; whnf); first | done | exact rfl) ?_; refine s_nil ?_; (repeat (first | refine s_then ?_ | refine s_blockN ?_)))
         all_goals ((exact ⟨⟨_, q + 1, s1, vl4, css4, ⟨rfl, rfl, rfl, trivial⟩, hL0, (by omega), hl, hj, hls4, hg1, (hS.subP (by (repeat constructor); first | done | fail))⟩, meas_lt (by omega)⟩)))
      | (refine s_cond_f rfl ?_ -- Law_JudgeHeld c4
         all_goals (refine s_skip ?_; (repeat (first | refine s_then ?_ | refine s_blockN ?_)); refine s_seq ?_; have he0 : (jIns m j.f s x1).1 = 0 := (by omega); have hrl := hr1.len; refine s_ops ?_; (refine s_fld0 rfl ?_); (first | (refine s_loadJ hS rfl (NthP.nth (by repeat constructor)) rfl ?_) | (refine s_loadB hS rfl (NthP.nth (by repeat constructor)) rfl ?_)); refine s_nil ?_; (repeat (first | refine s_then ?_ | refine s_blockN ?_)); refine s_block ?_)
         refine s_ask (i := 3) (by (conv => lhs; whnf); first | done | exact rfl) (fun e3 => ?_)
         refine s_ask (i := 9) (by (conv => lhs; whnf); first | done | exact rfl) (fun e9 => ?_)
         refine s_ask (i := 11) (by (conv => lhs; whnf); first | done | exact rfl) (fun e11 => ?_)
         refine s_ask (i := 12) (by (conv => lhs; whnf); first | done | exact rfl) (fun e12 => ?_)
         refine s_ask (i := 13) (by (conv => lhs; whnf); first | done | exact rfl) (fun e13 => ?_)
         refine s_ask (i := 54) (by (conv => lhs; whnf); first | done | exact rfl) (fun e54 => ?_)
         refine s_mid ((fun {xx3 V3 : Value} (_ : xx3 = V3) {xx9 V9 : Value} (_ : xx9 = V9) {xx11 V11 : Value} (_ : xx11 = V11) {xx12 V12 : Value} (_ : xx12 = V12) {xx13 V13 : Value} (_ : xx13 = V13) {xx54 V54 : Value} (_ : xx54 = V54) {cc : Cx} {ww : World} {LL : List Res} (_ : St cc ww LL) => (fun ρ' w' => ∃ (bq : Bool), Has ρ' [(3, V3), (9, V9), (11, V11), (12, V12), (13, V13), (54, V54), (55, .bool bq)] ∧ (bq = true ↔ (x1.op = 4 ∨ x1.op = 5 ∨ x1.op = 8 ∨ x1.op = 6 ∨ x1.op = 7 ∨ x1.op = 9 ∨ x1.op = 10 ∨ x1.op = 11)) ∧ St c4 w' (LL) : Env → World → Prop)) e3 e9 e11 e12 e13 e54 hS) ?_ ?_
         · skip
           all_goals (refine s_seq ?_; refine s_ops ?_)
           all_goals (first | (refine s_eql_t rfl rfl (by omega) ?_) | (refine s_eql_f rfl rfl (by omega) ?_) | (refine s_eql_s rfl rfl (fun hc => ?_) (fun hc => ?_)))
           all_goals (refine s_mov (by (conv => lhs; whnf); first | done | exact rfl) ?_; refine s_nil ?_; (repeat (first | refine s_then ?_ | refine s_blockN ?_)))
           all_goals
             first
             | (refine s_cond_t rfl ?_ -- Law_JudgeHeld c5
                all_goals (refine s_skip ?_; (repeat (first | refine s_then ?_ | refine s_blockN ?_))))
             | (refine s_cond_f rfl ?_ -- Law_JudgeHeld c5
                all_goals (refine s_seq ?_; refine s_ops ?_)
                all_goals (first | (refine s_eql_t rfl rfl (by omega) ?_) | (refine s_eql_f rfl rfl (by omega) ?_) | (refine s_eql_s rfl rfl (fun hc => ?_) (fun hc => ?_)))
                all_goals (refine s_mov (by (conv => lhs; whnf); first | done | exact rfl) ?_; refine s_nil ?_; (repeat (first | refine s_then ?_ | refine s_blockN ?_)))
                all_goals
                  first
                  | (refine s_cond_t rfl ?_ -- Law_JudgeHeld c6
                     all_goals (refine s_skip ?_; (repeat (first | refine s_then ?_ | refine s_blockN ?_))))
                  | (refine s_cond_f rfl ?_ -- Law_JudgeHeld c6
                     all_goals (refine s_seq ?_; refine s_ops ?_)
                     all_goals (first | (refine s_eql_t rfl rfl (by omega) ?_) | (refine s_eql_f rfl rfl (by omega) ?_) | (refine s_eql_s rfl rfl (fun hc => ?_) (fun hc => ?_)))
                     all_goals (refine s_mov (by (conv => lhs; whnf); first | done | exact rfl) ?_; refine s_nil ?_; (repeat (first | refine s_then ?_ | refine s_blockN ?_)))
                     all_goals
                       first
                       | (refine s_cond_t rfl ?_ -- Law_JudgeHeld c7
                          all_goals (refine s_skip ?_; (repeat (first | refine s_then ?_ | refine s_blockN ?_))))
                       | (refine s_cond_f rfl ?_ -- Law_JudgeHeld c7
                          all_goals (refine s_seq ?_; refine s_ops ?_)
                          all_goals (first | (refine s_eql_t rfl rfl (by omega) ?_) | (refine s_eql_f rfl rfl (by omega) ?_) | (refine s_eql_s rfl rfl (fun hc => ?_) (fun hc => ?_)))
                          all_goals (refine s_mov (by (conv => lhs; whnf); first | done | exact rfl) ?_; refine s_nil ?_; (repeat (first | refine s_then ?_ | refine s_blockN ?_)))
                          all_goals
                            first
                            | (refine s_cond_t rfl ?_ -- Law_JudgeHeld c8
                               all_goals (refine s_skip ?_; (repeat (first | refine s_then ?_ | refine s_blockN ?_))))
                            | (refine s_cond_f rfl ?_ -- Law_JudgeHeld c8
                               all_goals (refine s_seq ?_; refine s_ops ?_)
                               all_goals (first | (refine s_eql_t rfl rfl (by omega) ?_) | (refine s_eql_f rfl rfl (by omega) ?_) | (refine s_eql_s rfl rfl (fun hc => ?_) (fun hc => ?_)))
                               all_goals (refine s_mov (by (conv => lhs; whnf); first | done | exact rfl) ?_; refine s_nil ?_; (repeat (first | refine s_then ?_ | refine s_blockN ?_)))
                               all_goals
                                 first
                                 | (refine s_cond_t rfl ?_ -- Law_JudgeHeld c9
                                    all_goals (refine s_skip ?_; (repeat (first | refine s_then ?_ | refine s_blockN ?_))))
                                 | (refine s_cond_f rfl ?_ -- Law_JudgeHeld c9
                                    all_goals (refine s_seq ?_; refine s_ops ?_)
                                    all_goals (first | (refine s_eql_t rfl rfl (by omega) ?_) | (refine s_eql_f rfl rfl (by omega) ?_) | (refine s_eql_s rfl rfl (fun hc => ?_) (fun hc => ?_)))
                                    all_goals (refine s_mov (by (conv => lhs; whnf); first | done | exact rfl) ?_; refine s_nil ?_; (repeat (first | refine s_then ?_ | refine s_blockN ?_)))
                                    all_goals
                                      first
                                      | (refine s_cond_t rfl ?_ -- Law_JudgeHeld c10
                                         all_goals (refine s_skip ?_; (repeat (first | refine s_then ?_ | refine s_blockN ?_))))
                                      | (refine s_cond_f rfl ?_ -- Law_JudgeHeld c10
                                         all_goals (refine s_seq ?_; refine s_ops ?_)
                                         all_goals (first | (refine s_eql_t rfl rfl (by omega) ?_) | (refine s_eql_f rfl rfl (by omega) ?_) | (refine s_eql_s rfl rfl (fun hc => ?_) (fun hc => ?_)))
                                         all_goals (refine s_mov (by (conv => lhs; whnf); first | done | exact rfl) ?_; refine s_nil ?_; (repeat (first | refine s_then ?_ | refine s_blockN ?_)))
                                         all_goals
                                           first
                                           | (refine s_cond_t rfl ?_ -- Law_JudgeHeld c11
                                              all_goals (refine s_skip ?_; (repeat (first | refine s_then ?_ | refine s_blockN ?_))))
                                           | (refine s_cond_f rfl ?_ -- Law_JudgeHeld c11
                                              all_goals (refine s_ops ?_)
                                              all_goals (first | (refine s_eql_t rfl rfl (by omega) ?_) | (refine s_eql_f rfl rfl (by omega) ?_) | (refine s_eql_s rfl rfl (fun hc => ?_) (fun hc => ?_)))
                                              all_goals (refine s_mov (by (conv => lhs; whnf); first | done | exact rfl) ?_)
                                              all_goals (refine s_nil ?_; (repeat (first | refine s_then ?_ | refine s_blockN ?_))))))))))
           all_goals (first | (exact ⟨true, ⟨rfl, rfl, rfl, rfl, rfl, rfl, rfl, trivial⟩, by exact ⟨fun _ => by omega, fun _ => rfl⟩, (hS.subP (by (repeat constructor); first | done | fail))⟩) | (exact ⟨false, ⟨rfl, rfl, rfl, rfl, rfl, rfl, rfl, trivial⟩, by exact ⟨fun h => Bool.noConfusion h, fun h => by omega⟩, (hS.subP (by (repeat constructor); first | done | fail))⟩))
         dsimp only; clear e3 e9 e11 e12 e13 e54; rintro ρ w1 ⟨bq, hρ, hbq, hS⟩; obtain ⟨ρ, rfl⟩ := env_intro _ hρ; cases bq; (have hno : ¬ (x1.op = 4 ∨ x1.op = 5 ∨ x1.op = 8 ∨ x1.op = 6 ∨ x1.op = 7 ∨ x1.op = 9 ∨ x1.op = 10 ∨ x1.op = 11) := fun h => Bool.noConfusion (hbq.2 h)); rotate_left; (have hyes := hbq.1 rfl); rotate_left
         all_goals
           first
           | (refine s_cond_f rfl ?_ -- Law_JudgeHeld c12
              all_goals (refine s_seq ?_; refine s_ops ?_)
              all_goals (first | (refine s_eql_t rfl rfl (by omega) ?_) | (refine s_eql_f rfl rfl (by omega) ?_) | (refine s_eql_s rfl rfl (fun hc => ?_) (fun hc => ?_)))
              all_goals (refine s_mov (by (conv => lhs; whnf); first | done | exact rfl) ?_; refine s_nil ?_; (repeat (first | refine s_then ?_ | refine s_blockN ?_)))
              all_goals
                first
                | (refine s_cond_f rfl ?_ -- Law_JudgeHeld c15
                   all_goals (refine s_skip ?_; (repeat (first | refine s_then ?_ | refine s_blockN ?_)); refine s_ops ?_; refine s_mov (by (conv => lhs; whnf); first | done | exact rfl) ?_; ((refine s_add rfl rfl (by omega) (by omega) ?_)); refine s_mov (by (conv => lhs; whnf); first | done | exact rfl) ?_; refine s_nil ?_; (repeat (first | refine s_then ?_ | refine s_blockN ?_)))
                   all_goals ((exact ⟨⟨_, q + 1, s1, vl4, css4, ⟨rfl, rfl, rfl, trivial⟩, hL0, (by omega), hl, hj, hls4, hg1, (hS.subP (by (repeat constructor); first | done | fail))⟩, meas_lt (by omega)⟩)))
                | (refine s_cond_t rfl ?_ -- Law_JudgeHeld c15
                   all_goals (refine s_seq ?_; refine s_ops ?_; refine s_mov (by (conv => lhs; whnf); first | done | exact rfl) ?_; refine s_nil ?_; (repeat (first | refine s_then ?_ | refine s_blockN ?_)); refine s_block ?_)
                   refine s_ask (i := 3) (by (conv => lhs; whnf); first | done | exact rfl) (fun e3 => ?_)
                   refine s_ask (i := 9) (by (conv => lhs; whnf); first | done | exact rfl) (fun e9 => ?_)
                   refine s_ask (i := 11) (by (conv => lhs; whnf); first | done | exact rfl) (fun e11 => ?_)
                   refine s_ask (i := 12) (by (conv => lhs; whnf); first | done | exact rfl) (fun e12 => ?_)
                   refine s_loop ((fun {xx3 V3 : Value} (_ : xx3 = V3) {xx9 V9 : Value} (_ : xx9 = V9) {xx11 V11 : Value} (_ : xx11 = V11) {xx12 V12 : Value} (_ : xx12 = V12) {cc : Cx} {ww : World} {LL : List Res} (_ : St cc ww LL) => (fun ρ' w' => ∃ (p : Nat), Has ρ' [(3, V3), (9, V9), (11, V11), (12, V12), (16, .int .i64 p)] ∧ (p ≤ x1.regs.length) ∧ (x1.op = 14) ∧ St c4 w' (LL) : Env → World → Prop)) e3 e9 e11 e12 hS) (fun ρ' _ => (x1.regs.length - iv (ρ' 16)).toNat) ?_ ?_
                   · exact ⟨0, ⟨rfl, rfl, rfl, rfl, rfl, trivial⟩, (by omega), by omega, (hS.subP (by (repeat constructor); first | done | fail))⟩
                   dsimp only; clear e3 e9 e11 e12; rintro ρ w1 ⟨p, hρ, hp, ho14, hS⟩; obtain ⟨ρ, rfl⟩ := env_intro _ hρ
                   unfold Law_JudgeHeld_b30
                   all_goals (refine s_seq ?_; refine s_seq ?_; refine s_ops ?_; refine s_mov (by (conv => lhs; whnf); first | done | exact rfl) ?_; (refine s_fld0 rfl ?_); (first | (refine s_loadJ hS rfl (NthP.nth (by repeat constructor)) rfl ?_) | (refine s_loadB hS rfl (NthP.nth (by repeat constructor)) rfl ?_)); ((refine s_lenL (by (conv => lhs; whnf); first | done | exact rfl) (by assumption) ?_)); refine s_lss_d rfl rfl ?_; refine s_nil ?_; (repeat (first | refine s_then ?_ | refine s_blockN ?_)))
                   refine s_cond_d rfl (fun hc => ?_) (fun hc => ?_)
                   · skip
                     all_goals (refine s_skip ?_; (repeat (first | refine s_then ?_ | refine s_blockN ?_)); refine s_seq ?_; refine s_block ?_; refine s_seq ?_; refine s_draw [(0, none), (1, none), (2, none), (3, none), (4, none), (5, none), (6, none), (7, none), (8, none), (9, some none), (10, some none)] (by kernel_rfl) (by kernel_rfl) ?_; have hS := hS.drew; refine s_mov (by (conv => lhs; whnf); first | done | exact rfl) ?_; refine s_nilc rfl ?_; (refine s_fld0 rfl ?_); ((refine s_loadJ hS rfl (NthP.nth (by repeat constructor)) rfl ?_)); (refine s_fld0 rfl ?_); (first | (refine s_loadJ hS rfl (NthP.nth (by repeat constructor)) rfl ?_) | (refine s_loadB hS rfl (NthP.nth (by repeat constructor)) rfl ?_)); refine s_mov (by (conv => lhs; whnf); first | done | exact rfl) ?_; (refine s_idxLn (by (conv => lhs; whnf); first | done | exact rfl) rfl (by assumption) rfl (by omega) ?_); intro b3 o3 cs3 x3 hat3 hx3 he3; ((obtain rfl := intR_out he3)); (first | (refine s_loadJ hS rfl (NthP.nth (by repeat constructor)) rfl ?_) | (refine s_loadB hS rfl (NthP.nth (by repeat constructor)) rfl ?_) | (refine s_loadK hS (by assumption) rfl rfl ?_)))
                     all_goals (refine s_rets_2 (by (conv => lhs; whnf); first | done | exact rfl) (by (conv => lhs; whnf); first | done | exact rfl) (jhas_c hS (NthP.nth (by repeat constructor))) ?_; rintro v1 w1 ⟨rfl, hS⟩; rw [← hs1, held_4 he0 ho14 x3 (List.mem_of_getElem? hx3), hs1]; refine s_not rfl ?_; refine s_nil ?_; (repeat (first | refine s_then ?_ | refine s_blockN ?_)))
                     all_goals
                       first
                       | (refine s_cond_t rfl ?_ -- Law_JudgeHeld c17
                          all_goals (refine s_seq ?_; refine s_ops ?_; refine s_mov (by (conv => lhs; whnf); first | done | exact rfl) ?_; refine s_nil ?_; (repeat (refine s_then ?_)); refine s_ret ?_; (repeat (refine s_retT ?_)); refine q_ret1 (by (conv => lhs; whnf); first | done | exact rfl) ?_)
                          all_goals ((exact ⟨_, rfl, rfl, (hS.subP (by (repeat constructor); first | done | fail))⟩)))
                       | (refine s_cond_f rfl ?_ -- Law_JudgeHeld c17
                          all_goals (refine s_skip ?_; (repeat (first | refine s_then ?_ | refine s_blockN ?_))))
                     all_goals (refine s_ops ?_; refine s_mov (by (conv => lhs; whnf); first | done | exact rfl) ?_; ((refine s_add rfl rfl (by omega) (by omega) ?_)); refine s_mov (by (conv => lhs; whnf); first | done | exact rfl) ?_; refine s_nil ?_; (repeat (first | refine s_then ?_ | refine s_blockN ?_)); ((exact ⟨⟨p + 1, ⟨rfl, rfl, rfl, rfl, rfl, trivial⟩, (by omega), ho14, (hS.subP (by (repeat constructor); first | done | fail))⟩, meas_lt (by omega)⟩)))
                   · skip
                     all_goals (refine s_exit ?_; (repeat (first | refine s_exitQ ?_ | refine s_exitT ?_ | refine s_exitB rfl ?_ | refine s_then ?_ | refine s_blockN ?_)); refine s_ops ?_; refine s_mov (by (conv => lhs; whnf); first | done | exact rfl) ?_; ((refine s_add rfl rfl (by omega) (by omega) ?_)); refine s_mov (by (conv => lhs; whnf); first | done | exact rfl) ?_; refine s_nil ?_; (repeat (first | refine s_then ?_ | refine s_blockN ?_)))
                     all_goals ((exact ⟨⟨_, q + 1, s1, vl4, css4, ⟨rfl, rfl, rfl, trivial⟩, hL0, (by omega), hl, hj, hls4, hg1, (hS.subP (by (repeat constructor); first | done | fail))⟩, meas_lt (by omega)⟩))))
           | (refine s_cond_t rfl ?_ -- Law_JudgeHeld c12
              all_goals (refine s_seq ?_; obtain ⟨t, ht0, ht1, hth, hth1, hth2⟩ := held_1 (m := m) (f := j.f) (s := s) (x := x1) he0 (by omega); have hlt := (List.getElem?_eq_some_iff.1 ht1).1; rw [hs1] at hth1 hth2; refine s_ops ?_; refine s_mov (by (conv => lhs; whnf); first | done | exact rfl) ?_; (refine s_fld0 rfl ?_); (first | (refine s_loadJ hS rfl (NthP.nth (by repeat constructor)) rfl ?_) | (refine s_loadB hS rfl (NthP.nth (by repeat constructor)) rfl ?_)); (first | refine s_idxLn (by (conv => lhs; whnf); first | done | exact rfl) rfl (by assumption) rfl (by omega) ?_ | refine s_idxL (by (conv => lhs; whnf); first | done | exact rfl) rfl (by assumption) rfl (by omega) (by omega) ?_); intro b2 o2 cs2 x2 hat2 hx2 he2; ((obtain ⟨vl2, rfl, hl2⟩ := tyR_out he2)); (first | refine s_fld0 rfl ?_ | refine s_fld rfl ?_); (first | (refine s_loadJ hS rfl (NthP.nth (by repeat constructor)) rfl ?_) | (refine s_loadB hS rfl (NthP.nth (by repeat constructor)) rfl ?_) | (refine s_loadK hS (by assumption) rfl rfl ?_) | (refine s_loadKj hS (by assumption) rfl rfl ?_)); refine s_mov (by (conv => lhs; whnf); first | done | exact rfl) ?_; refine s_nil ?_; (repeat (first | refine s_then ?_ | refine s_blockN ?_)))
              all_goals (obtain rfl : t = x2 := Option.some.inj (ht1.symm.trans hx2); obtain ⟨bH, hbH, hbo⟩ : ∃ bH, hasB s1.h t.r = bH ∧ (bH = !decide (x1.op = 4)) := ⟨_, rfl, by { by_cases ho : x1.op = 4; { rw [(hth2 ho).2]; simp only; rw [hasB_set hth, decide_eq_true ho]; rfl }; { rw [hth1 ho, hth, decide_eq_false ho]; rfl } }⟩)
              all_goals (refine s_seq ?_; refine s_seq ?_; refine s_canon [(0, none), (1, none), (2, none), (3, none), (4, none), (5, none), (6, none), (7, none), (8, some (some [1])), (9, some none)] (by kernel_rfl) ?_; have hS := hS.drew; refine s_cq ?_; (refine s_fld0 rfl ?_); refine s_nil ?_; refine s_then ?_; refine s_cq ?_; (first | (refine s_loadJ hS rfl (NthP.nth (by repeat constructor)) rfl ?_) | (refine s_loadB hS rfl (NthP.nth (by repeat constructor)) rfl ?_)); refine s_nil ?_; refine s_then ?_; refine s_cq ?_)
              all_goals (first | (refine s_eql_t rfl rfl (by omega) ?_) | (refine s_eql_f rfl rfl (by omega) ?_) | (refine s_eql_s rfl rfl (fun hc => ?_) (fun hc => ?_)))
              all_goals (refine s_nil ?_; refine s_then ?_; refine s_cq ?_; refine s_mov (by (conv => lhs; whnf); first | done | exact rfl) ?_; refine s_nil ?_; refine s_then ?_; refine s_cq ?_; refine s_nilc rfl ?_; refine s_nil ?_; refine s_then ?_; refine s_cq ?_; (refine s_fld0 rfl ?_); refine s_nil ?_; refine s_then ?_; refine s_cq ?_; ((refine s_loadJ hS rfl (NthP.nth (by repeat constructor)) rfl ?_)); refine s_nil ?_; refine s_then ?_; refine s_cq ?_; refine s_mov (by (conv => lhs; whnf); first | done | exact rfl) ?_; refine s_nil ?_; refine s_then ?_; refine s_cfl ?_; refine s_rets_2 (by (conv => lhs; whnf); first | done | exact rfl) (by (conv => lhs; whnf); first | done | exact rfl) (jhas_c hS (NthP.nth (by repeat constructor))) ?_; rintro v1 w1 ⟨rfl, hS⟩; rw [hbH, hbo]; refine s_nil ?_; refine s_then ?_; refine ⟨List.forall_mem_cons.2 ⟨(by first | (exact gq_loadJ hS rfl (NthP.nth (by repeat constructor)) rfl) | (exact gq_loadB hS rfl (NthP.nth (by repeat constructor)) rfl)), fun _ h => (List.not_mem_nil h).elim⟩, ?_⟩; refine s_cf ?_; (first | (rw [decide_eq_true (by omega : x1.op = 4)]; refine s_beq (by kernel_rfl) rfl rfl ?_) | (rw [decide_eq_false (by omega : ¬ x1.op = 4)]; refine s_beq (by kernel_rfl) rfl rfl ?_)); refine s_nil ?_; refine s_then ?_; refine s_cnil ?_; (repeat (first | refine s_then ?_ | refine s_blockN ?_)))
              all_goals
                first
                | (refine s_cond_t rfl ?_ -- Law_JudgeHeld c13
                   all_goals (refine s_seq ?_; refine s_ops ?_; refine s_mov (by (conv => lhs; whnf); first | done | exact rfl) ?_; refine s_nil ?_; (repeat (refine s_then ?_)); refine s_ret ?_; (repeat (refine s_retT ?_)); refine q_ret1 (by (conv => lhs; whnf); first | done | exact rfl) ?_)
                   all_goals ((exact ⟨_, rfl, rfl, (hS.subP (by (repeat constructor); first | done | fail))⟩)))
                | (refine s_cond_f rfl ?_ -- Law_JudgeHeld c13
                   all_goals (refine s_skip ?_; (repeat (first | refine s_then ?_ | refine s_blockN ?_))))
              all_goals (refine s_seq ?_; refine s_ops ?_; (refine s_fld0 rfl ?_); (first | (refine s_loadJ hS rfl (NthP.nth (by repeat constructor)) rfl ?_) | (refine s_loadB hS rfl (NthP.nth (by repeat constructor)) rfl ?_)))
              all_goals (first | (refine s_eql_t rfl rfl (by omega) ?_) | (refine s_eql_f rfl rfl (by omega) ?_))
              all_goals (refine s_mov (by (conv => lhs; whnf); first | done | exact rfl) ?_; (first | refine s_gn rfl rfl ?_ | (refine s_gy rfl ?_; refine s_mov (by (conv => lhs; whnf); first | done | exact rfl) ?_)); (first | refine s_gn rfl rfl ?_ | (refine s_gy rfl ?_; ((refine s_loadnB hS rfl (NthP.nth (by repeat constructor)) rfl rfl ?_)))))
              all_goals ((first | (refine s_gn rfl rfl ?_) | (refine s_gy rfl ?_; refine s_rets_2 (by (conv => lhs; whnf); first | done | exact rfl) (by (conv => lhs; whnf); first | done | exact rfl) (jIns_c (s := s1) hm hg1.n hg1.h hj he1 hls4 hS (NthP.nth (by repeat constructor))) ?_; rintro v1 w1 ⟨rfl, c5, vl5, css5, hle2, hls5, hS⟩; have h2 := held_2 (m := m) (f := j.f) (s := s1) (x := x1) (t := t) (jIns_ok he0).1 (by omega) ht0 (by rw [(hth2 (by omega)).2]; exact ht1) (hth2 (by omega)).1 (by rw [hbH, hbo, decide_eq_true (by omega : x1.op = 4)]; rfl); rw [jIns_no (by rw [h2]; decide)] at hls5 hS; rw [h2]; simp only [List.set_cons_zero, List.set_cons_succ] at hS; (try have hL0 := Cx.Le.trans hL0 hle2); (try have hl := Rep.SR.up hl hle2); (try have hr1 := Rep.SR.up hr1 hle2); (try have ha1 := Rep.SR.up ha1 hle2); (try have hl2 := Rep.SR.up hl2 hle2); (try have he1 := Rep.R.up he1 hle2); (try have he2 := Rep.R.up he2 hle2); (try have hls := Rep.LR.up hls hle2); (first | (have hl := Rep.SR.up hl hle2) | (have hl := Rep.R.up hl hle2) | (have hl := Rep.LR.up hl hle2) | skip); have hj := hj.up hle2)))
              all_goals (first | refine s_gn rfl rfl ?_ | (refine s_gy rfl ?_; (first | (refine s_neq_t rfl rfl (by omega) ?_) | (refine s_neq_f rfl rfl (by omega) ?_))))
              all_goals ((first | refine s_gn rfl rfl ?_ | (refine s_gy rfl ?_; refine s_mov (by (conv => lhs; whnf); first | done | exact rfl) ?_)); (first | refine s_gn rfl rfl ?_ | (refine s_gy rfl ?_; refine s_mov (by (conv => lhs; whnf); first | done | exact rfl) ?_)); (first | refine s_gn rfl rfl ?_ | (refine s_gy rfl ?_; (refine s_fld0 rfl ?_))); (first | refine s_gn rfl rfl ?_ | (refine s_gy rfl ?_; (first | (refine s_loadJ hS rfl (NthP.nth (by repeat constructor)) rfl ?_) | (refine s_loadB hS rfl (NthP.nth (by repeat constructor)) rfl ?_)))); (first | refine s_gn rfl rfl ?_ | (refine s_gy rfl ?_; refine s_build2 (cs := [_, _, _, _, _, _, _, _]) (by (conv => lhs; whnf); first | done | exact rfl) (by (conv => lhs; whnf); first | done | exact rfl) (by rfl) ?_)))
              all_goals ((first | (refine s_gn rfl rfl ?_) | (refine s_gy rfl ?_; refine s_rets_2 (by (conv => lhs; whnf); first | done | exact rfl) (by (conv => lhs; whnf); first | done | exact rfl) (jIns_c (s := s1) (x := ⟨5, x1.a, 0, 0, 0, 0, [], []⟩) hm hg1.n hg1.h hj ⟨_, _, rfl, Rep.SR.nil _ _ _, Rep.SR.nil _ _ _⟩ hls5 hS (NthP.nth (by repeat constructor))) ?_; rintro v1 w1 ⟨rfl, c6, vl6, css6, hle2, hls6, hS⟩; have h3 := held_3 (m := m) (f := j.f) (s := s1) (a := x1.a) (t := t) ht0 (by rw [(hth2 (by omega)).2]; exact ht1) (hth2 (by omega)).1 (by rw [hbH, hbo, decide_eq_true (by omega : x1.op = 4)]; rfl); rw [jIns_no (by rw [h3]; decide)] at hls6 hS; rw [h3]; simp only [List.set_cons_zero, List.set_cons_succ] at hS; (try have hL0 := Cx.Le.trans hL0 hle2); (try have hl := Rep.SR.up hl hle2); (try have hr1 := Rep.SR.up hr1 hle2); (try have ha1 := Rep.SR.up ha1 hle2); (try have hl2 := Rep.SR.up hl2 hle2); (try have he1 := Rep.R.up he1 hle2); (try have he2 := Rep.R.up he2 hle2); (try have hls := Rep.LR.up hls hle2); (first | (have hl := Rep.SR.up hl hle2) | (have hl := Rep.R.up hl hle2) | (have hl := Rep.LR.up hl hle2) | skip); have hj := hj.up hle2)))
              all_goals (first | refine s_gn rfl rfl ?_ | (refine s_gy rfl ?_; (first | (refine s_neq_t rfl rfl (by omega) ?_) | (refine s_neq_f rfl rfl (by omega) ?_))))
              all_goals ((first | refine s_gn rfl rfl ?_ | (refine s_gy rfl ?_; (first | refine s_pick_t rfl (by (conv => lhs; whnf); first | done | exact rfl) ?_ | refine s_pick_f rfl (by (conv => lhs; whnf); first | done | exact rfl) ?_))); (first | refine s_pick_t rfl (by (conv => lhs; whnf); first | done | exact rfl) ?_ | refine s_pick_f rfl (by (conv => lhs; whnf); first | done | exact rfl) ?_); refine s_nil ?_; (repeat (first | refine s_then ?_ | refine s_blockN ?_)))
              all_goals
                first
                | (refine s_cond_t rfl ?_ -- Law_JudgeHeld c14
                   all_goals (refine s_seq ?_; refine s_ops ?_; refine s_mov (by (conv => lhs; whnf); first | done | exact rfl) ?_; refine s_nil ?_; (repeat (refine s_then ?_)); refine s_ret ?_; (repeat (refine s_retT ?_)); refine q_ret1 (by (conv => lhs; whnf); first | done | exact rfl) ?_)
                   all_goals ((exact ⟨_, rfl, rfl, (hS.subP (by (repeat constructor); first | done | fail))⟩)))
                | (refine s_cond_f rfl ?_ -- Law_JudgeHeld c14
                   all_goals (refine s_skip ?_; (repeat (first | refine s_then ?_ | refine s_blockN ?_))))
              all_goals (refine s_ops ?_; refine s_mov (by (conv => lhs; whnf); first | done | exact rfl) ?_; ((refine s_add rfl rfl (by omega) (by omega) ?_)); refine s_mov (by (conv => lhs; whnf); first | done | exact rfl) ?_; refine s_nil ?_; (repeat (first | refine s_then ?_ | refine s_blockN ?_)))
              all_goals (first | (exact ⟨⟨_, q + 1, s1, vl4, css4, ⟨rfl, rfl, rfl, trivial⟩, hL0, (by omega), hl, hj, hls4, hg1, (hS.subP (by (repeat constructor); first | done | fail))⟩, meas_lt (by omega)⟩) | (exact ⟨⟨_, q + 1, s1, vl6, css6, ⟨rfl, rfl, rfl, trivial⟩, hL0, (by omega), hl, hj, hls6, hg1, (hS.subP (by (repeat constructor); first | done | fail))⟩, meas_lt (by omega)⟩))))
  · skip
    all_goals (refine s_exit ?_; (repeat (first | refine s_exitQ ?_ | refine s_exitT ?_ | refine s_exitB rfl ?_ | refine s_then ?_ | refine s_blockN ?_)); refine s_seq ?_; refine s_ops ?_; refine s_mov (by (conv => lhs; whnf); first | done | exact rfl) ?_; refine s_nil ?_; (repeat (first | refine s_then ?_ | refine s_blockN ?_)); refine s_ret ?_; (repeat (first | refine s_retT ?_ | refine s_retB ?_)); refine q_ret1 (by (conv => lhs; whnf); first | done | exact rfl) ?_; (first | (exact ⟨_, rfl, rfl, (hS.subP (by (repeat constructor); first | done | fail))⟩) | (exact ⟨_, rfl, rfl, St.weak (hS.subP (by (repeat constructor); first | done | fail)) (hleN.trans hL0)⟩)))
end Go.Proofs.Ytanlkfeogoganaa
