/- The judge of a module's form, piece by piece (contracts). -/
import Derived.Test.YtanlkfeogoganaaGreatW
import Derived.Test.YtanlkfeogoganaaCodeFun
import Derived.Test.YtanlkfeogoganaaLirStr
namespace Go.Proofs.Ytanlkfeogoganaa
open Go.Lir
set_option maxHeartbeats 1000000
attribute [local irreducible] LC.wp opsWp thenQ blockQ retQ resWp LO.wp callPost Calls
set_option linter.unusedSimpArgs false
set_option linter.unusedVariables false
variable {cx : Cx} {w : World} {L : List Res} {i : Nat}
abbrev jdg (b : Nat) (vf : Value) (g : Flt) (at' : Int) : Res := blk b 83 [vf, .int .i64 g.1, .int .i64 g.2, .int .i64 at']
theorem fail_c {is : Bool} {c : Int} {vf : Value} {g : Flt} {at' : Int} {b : Nat} (hc0 : is = true → c ≠ 0) (hS : St cx w L) (hi : nth L i = some (jdg b vf g at')) :
    Rets Try.prog code_judge_fail [.pointer (some ⟨b, 0, none⟩), .bool is, .int .i64 c] w fun u w' => u = .tuple #[] ∧ St cx w' (L.set i (jdg b vf (orF g (mkF (if is = true then c else 0) at')) at')) := by
  have hS := hS.out hi
  cases is with
  | false =>
    have e : orF g (mkF (if false = true then c else 0) at') = g := orF_r rfl
    rw [e]
    all_goals refine code_judge_fail_in ?_
    all_goals (unfold code_judge_fail_lc; refine s_seq ?_; refine s_ops ?_; refine s_mov (by (conv => lhs; whnf); first | done | exact rfl) ?_; refine s_mov (by (conv => lhs; whnf); first | done | exact rfl) ?_; (refine s_gn rfl rfl ?_); (refine s_gn rfl rfl ?_); (refine s_gn rfl rfl ?_); (refine s_gn rfl rfl ?_); (refine s_gn rfl rfl ?_))
    all_goals (refine s_gn rfl rfl ?_)
    all_goals ((first | refine s_pick_t rfl (by (conv => lhs; whnf); first | done | exact rfl) ?_ | refine s_pick_f rfl (by (conv => lhs; whnf); first | done | exact rfl) ?_); refine s_nil ?_; (repeat (first | refine s_then ?_ | refine s_blockN ?_)))
    all_goals
      first
      | (refine s_cond_t rfl ?_ -- code_judge_fail c0
         all_goals (refine s_ops ?_; refine s_mov (by (conv => lhs; whnf); first | done | exact rfl) ?_; refine s_mov (by (conv => lhs; whnf); first | done | exact rfl) ?_; refine s_mov (by (conv => lhs; whnf); first | done | exact rfl) ?_; refine s_nilc rfl ?_; (refine s_fld0 rfl ?_); ((refine s_loadB hS rfl (NthP.nth (by repeat constructor)) rfl ?_)); refine s_build2 (cs := [_, _]) (by (conv => lhs; whnf); first | done | exact rfl) (by (conv => lhs; whnf); first | done | exact rfl) (by rfl) ?_; refine s_nilc rfl ?_; (refine s_fld0 rfl ?_); ((refine s_storenF hS rfl rfl (by rfl) (NthP.nth (by repeat constructor)) (by rfl) (by (simp [oneC]; done)) ?_; intro w1 hS; simp only [List.set_cons_zero, List.set_cons_succ] at hS)))
         all_goals (refine s_nil ?_; (repeat (refine s_then ?_))))
      | (refine s_cond_f rfl ?_ -- code_judge_fail c0
         all_goals (refine s_skip ?_; (repeat (first | refine s_then ?_ | refine s_blockN ?_))))
    all_goals (refine q_end0 ?_; exact ⟨_, rfl, rfl, St.back hS hi⟩)
  | true =>
    have hc0 := hc0 rfl
    by_cases h0 : g.1 = 0
    · have e : orF g (mkF (if true = true then c else 0) at') = (c, at') := by rw [if_pos rfl, mkF_c hc0]; unfold orF; rw [if_pos ⟨h0, hc0⟩]
      rw [e]
      all_goals refine code_judge_fail_in ?_
      all_goals (unfold code_judge_fail_lc; refine s_seq ?_; refine s_ops ?_; refine s_mov (by (conv => lhs; whnf); first | done | exact rfl) ?_; refine s_mov (by (conv => lhs; whnf); first | done | exact rfl) ?_; (first | refine s_gn rfl rfl ?_ | (refine s_gy rfl ?_; refine s_mov (by (conv => lhs; whnf); first | done | exact rfl) ?_)); (first | refine s_gn rfl rfl ?_ | (refine s_gy rfl ?_; refine s_nilc rfl ?_)); (first | refine s_gn rfl rfl ?_ | (refine s_gy rfl ?_; (refine s_fld0 rfl ?_))); (first | refine s_gn rfl rfl ?_ | (refine s_gy rfl ?_; (first | refine s_fld0 rfl ?_ | refine s_fld rfl ?_))); (first | refine s_gn rfl rfl ?_ | (refine s_gy rfl ?_; ((refine s_loadB hS rfl (NthP.nth (by repeat constructor)) rfl ?_)))))
      all_goals (first | refine s_gn rfl rfl ?_ | (refine s_gy rfl ?_; ((refine s_eql_t rfl rfl (by omega) ?_))))
      all_goals ((refine s_pick_t rfl (by (conv => lhs; whnf); first | done | exact rfl) ?_); refine s_nil ?_; (repeat (first | refine s_then ?_ | refine s_blockN ?_)))
      all_goals refine s_cond_t rfl ?_
      all_goals (refine s_ops ?_; refine s_mov (by (conv => lhs; whnf); first | done | exact rfl) ?_; refine s_mov (by (conv => lhs; whnf); first | done | exact rfl) ?_; refine s_mov (by (conv => lhs; whnf); first | done | exact rfl) ?_; refine s_nilc rfl ?_; (refine s_fld0 rfl ?_); ((refine s_loadB hS rfl (NthP.nth (by repeat constructor)) rfl ?_)); refine s_build2 (cs := [_, _]) (by (conv => lhs; whnf); first | done | exact rfl) (by (conv => lhs; whnf); first | done | exact rfl) (by rfl) ?_; refine s_nilc rfl ?_; (refine s_fld0 rfl ?_); (first | (refine s_storenF hS rfl rfl (by rfl) (NthP.nth (by repeat constructor)) (by rfl) (by (simp [oneC]; done)) ?_; intro w1 hS; simp only [List.set_cons_zero, List.set_cons_succ] at hS) | (refine s_storenB hS rfl rfl (by rfl) (NthP.nth (by repeat constructor)) (by simp) (by (simp [oneC]; done)) (by (conv => lhs; simp only [List.take_succ_cons, List.take_zero, List.drop_succ_cons, List.drop_zero, List.cons_append, List.nil_append]); first | done | exact rfl) ?_; intro w1 hS; simp only [List.set_cons_zero, List.set_cons_succ] at hS)))
      all_goals (refine s_nil ?_; (repeat (first | refine s_then ?_ | refine s_blockN ?_)); refine q_end0 ?_; exact ⟨_, rfl, rfl, St.back hS hi⟩)
    · rw [orF_l h0]
      all_goals refine code_judge_fail_in ?_
      all_goals (unfold code_judge_fail_lc; refine s_seq ?_; refine s_ops ?_; refine s_mov (by (conv => lhs; whnf); first | done | exact rfl) ?_; refine s_mov (by (conv => lhs; whnf); first | done | exact rfl) ?_; (first | refine s_gn rfl rfl ?_ | (refine s_gy rfl ?_; refine s_mov (by (conv => lhs; whnf); first | done | exact rfl) ?_)); (first | refine s_gn rfl rfl ?_ | (refine s_gy rfl ?_; refine s_nilc rfl ?_)); (first | refine s_gn rfl rfl ?_ | (refine s_gy rfl ?_; (refine s_fld0 rfl ?_))); (first | refine s_gn rfl rfl ?_ | (refine s_gy rfl ?_; (first | refine s_fld0 rfl ?_ | refine s_fld rfl ?_))); (first | refine s_gn rfl rfl ?_ | (refine s_gy rfl ?_; ((refine s_loadB hS rfl (NthP.nth (by repeat constructor)) rfl ?_)))))
      all_goals (first | refine s_gn rfl rfl ?_ | (refine s_gy rfl ?_; (first | (refine s_eql_t rfl rfl (by omega) ?_) | (refine s_eql_f rfl rfl (by omega) ?_))))
      all_goals ((refine s_pick_t rfl (by (conv => lhs; whnf); first | done | exact rfl) ?_); refine s_nil ?_; (repeat (first | refine s_then ?_ | refine s_blockN ?_)))
      all_goals refine s_cond_f rfl ?_
      all_goals (refine s_skip ?_; (repeat (first | refine s_then ?_ | refine s_blockN ?_)); refine q_end0 ?_; exact ⟨_, rfl, rfl, St.back hS hi⟩)
theorem uindex_c {s : List UInt8} {c : Nat} {v : Value} (hK : u8R.sl cx v s) (hS : St cx w L) : Rets Try.prog slices_Index_byte_byte [v, .int .u8 c] w fun u w' => ∃ r : Int, u = .int .i64 r ∧ (0 ≤ r ↔ (s.any fun b => decide (b.toNat = c)) = true) ∧ St cx w' L := by
  have hlen := hK.len
  all_goals refine slices_Index_byte_byte_in ?_
  all_goals (unfold slices_Index_byte_byte_lc; refine s_seq ?_; refine s_ops ?_; refine s_mov (by (conv => lhs; whnf); first | done | exact rfl) ?_; refine s_nil ?_; (repeat (first | refine s_then ?_ | refine s_blockN ?_)); refine s_seq ?_; refine s_seq ?_; refine s_ops ?_; refine s_mov (by (conv => lhs; whnf); first | done | exact rfl) ?_; ((refine s_lenL (by (conv => lhs; whnf); first | done | exact rfl) (by assumption) ?_)); refine s_mov (by (conv => lhs; whnf); first | done | exact rfl) ?_; refine s_nil ?_; (repeat (first | refine s_then ?_ | refine s_blockN ?_)); refine s_block ?_)
  refine s_ask (i := 0) (by (conv => lhs; whnf); first | done | exact rfl) (fun e0 => ?_)
  refine s_ask (i := 1) (by (conv => lhs; whnf); first | done | exact rfl) (fun e1 => ?_)
  refine s_ask (i := 7) (by (conv => lhs; whnf); first | done | exact rfl) (fun e7 => ?_)
  refine s_loop ((fun {xx0 V0 : Value} (_ : xx0 = V0) {xx1 V1 : Value} (_ : xx1 = V1) {xx7 V7 : Value} (_ : xx7 = V7) {cc : Cx} {ww : World} {LL : List Res} (_ : St cc ww LL) => (fun ρ' w' => ∃ (j : Nat), Has ρ' [(0, V0), (1, V1), (7, V7), (8, .int .i64 j)] ∧ (j ≤ s.length) ∧ ((s.any fun b => decide (b.toNat = c)) = ((s.drop j).any fun b => decide (b.toNat = c))) ∧ St cx w' (LL) : Env → World → Prop)) e0 e1 e7 hS) (fun ρ' _ => (s.length - iv (ρ' 8)).toNat) ?_ ?_
  · exact ⟨0, ⟨rfl, rfl, rfl, rfl, trivial⟩, (by omega), by simp, (hS.subP (by (repeat constructor); first | done | fail))⟩
  dsimp only; clear e0 e1 e7; rintro ρ w1 ⟨j, hρ, hj, hd, hS⟩; obtain ⟨ρ, rfl⟩ := env_intro _ hρ
  unfold slices_Index_byte_byte_b2
  all_goals (refine s_seq ?_; refine s_ops ?_; refine s_lss_d rfl rfl ?_; refine s_nil ?_; (repeat (first | refine s_then ?_ | refine s_blockN ?_)); refine s_seq ?_)
  refine s_cond_d rfl (fun hc => ?_) (fun hc => ?_)
  · skip
    all_goals (refine s_skip ?_; (repeat (first | refine s_then ?_ | refine s_blockN ?_)); refine s_seq ?_; refine s_block ?_; refine s_seq ?_; refine s_ops ?_; refine s_mov (by (conv => lhs; whnf); first | done | exact rfl) ?_; refine s_mov (by (conv => lhs; whnf); first | done | exact rfl) ?_; refine s_nil ?_; (repeat (first | refine s_then ?_ | refine s_blockN ?_)); refine s_seq ?_; refine s_ops ?_; refine s_mov (by (conv => lhs; whnf); first | done | exact rfl) ?_; refine s_mov (by (conv => lhs; whnf); first | done | exact rfl) ?_; refine s_mov (by (conv => lhs; whnf); first | done | exact rfl) ?_; (refine s_idxLn (by (conv => lhs; whnf); first | done | exact rfl) rfl (by assumption) rfl (by omega) ?_); intro b1 o1 cs1 x1 hat1 hx1 he1; (first | (obtain rfl := intR_out he1) | (obtain rfl := u8R_out he1)); (first | (refine s_loadB hS rfl (NthP.nth (by repeat constructor)) rfl ?_) | (refine s_loadK hS (by assumption) rfl rfl ?_)))
    all_goals (first | (refine s_eql_t rfl rfl (by omega) ?_) | (refine s_eql_f rfl rfl (by omega) ?_) | (refine s_eql_s rfl rfl (fun hc => ?_) (fun hc => ?_)))
    all_goals (refine s_nil ?_; (repeat (first | refine s_then ?_ | refine s_blockN ?_)))
    all_goals
      first
      | (refine s_cond_t rfl ?_ -- slices_Index_byte_byte c1
         all_goals (refine s_seq ?_; refine s_ops ?_; refine s_mov (by (conv => lhs; whnf); first | done | exact rfl) ?_; refine s_mov (by (conv => lhs; whnf); first | done | exact rfl) ?_; refine s_nil ?_; (repeat (first | refine s_then ?_ | refine s_blockN ?_)); refine s_ret ?_; (repeat (first | refine s_retT ?_ | refine s_retB ?_)); refine q_ret1 (by (conv => lhs; whnf); first | done | exact rfl) ?_)
         all_goals ((exact ⟨_, rfl, j, rfl, by rw [hd, drop_cons hx1, List.any_cons, decide_eq_true (by omega), Bool.true_or]; simp, (hS.subP (by (repeat constructor); first | done | fail))⟩)))
      | (refine s_cond_f rfl ?_ -- slices_Index_byte_byte c1
         all_goals (refine s_skip ?_; (repeat (first | refine s_then ?_ | refine s_blockN ?_))))
    all_goals (refine s_ops ?_; ((refine s_add rfl rfl (by omega) (by omega) ?_)); refine s_mov (by (conv => lhs; whnf); first | done | exact rfl) ?_; refine s_nil ?_; (repeat (first | refine s_then ?_ | refine s_blockN ?_)); ((exact ⟨⟨j + 1, ⟨rfl, rfl, rfl, rfl, trivial⟩, (by omega), by rw [hd, drop_cons hx1, List.any_cons, decide_eq_false (by omega), Bool.false_or], (hS.subP (by (repeat constructor); first | done | fail))⟩, meas_lt (by omega)⟩)))
  · skip
    all_goals (refine s_exit ?_; (repeat (first | refine s_exitQ ?_ | refine s_exitT ?_ | refine s_exitB rfl ?_ | refine s_then ?_ | refine s_blockN ?_)); refine s_seq ?_; refine s_ops ?_; refine s_mov (by (conv => lhs; whnf); first | done | exact rfl) ?_; refine s_nil ?_; (repeat (first | refine s_then ?_ | refine s_blockN ?_)); refine s_ret ?_; (repeat (first | refine s_retT ?_ | refine s_retB ?_)); refine q_ret1 (by (conv => lhs; whnf); first | done | exact rfl) ?_; (first | (exact ⟨_, rfl, j, rfl, by rw [hd, drop_cons hx1, List.any_cons, decide_eq_true (by omega), Bool.true_or]; simp, (hS.subP (by (repeat constructor); first | done | fail))⟩) | (exact ⟨_, rfl, -1, rfl, by rw [hd, List.drop_of_length_le (by omega)]; simp, (hS.subP (by (repeat constructor); first | done | fail))⟩)))
theorem ucontains_c {s : List UInt8} {c : Nat} {v : Value} (hK : u8R.sl cx v s) (hS : St cx w L) : Rets Try.prog slices_Contains_byte_byte [v, .int .u8 c] w fun u w' => u = .bool (s.any fun b => decide (b.toNat = c)) ∧ St cx w' L := by
  all_goals refine slices_Contains_byte_byte_in ?_
  all_goals (unfold slices_Contains_byte_byte_lc; refine s_seq ?_; refine s_ops ?_; refine s_mov (by (conv => lhs; whnf); first | done | exact rfl) ?_; refine s_nil ?_; (repeat (first | refine s_then ?_ | refine s_blockN ?_)); refine s_seq ?_; refine s_ops ?_; refine s_mov (by (conv => lhs; whnf); first | done | exact rfl) ?_; refine s_mov (by (conv => lhs; whnf); first | done | exact rfl) ?_; refine s_rets_2 (by (conv => lhs; whnf); first | done | exact rfl) (by (conv => lhs; whnf); first | done | exact rfl) (uindex_c hK hS) ?_; rintro v1 w1 ⟨r, rfl, hr, hS⟩)
  all_goals (first | (refine s_geq_t rfl rfl (by omega) ?_) | (refine s_geq_f rfl rfl (by omega) ?_) | (refine s_geq_s rfl rfl (fun hc => ?_) (fun hc => ?_)))
  all_goals (refine s_mov (by (conv => lhs; whnf); first | done | exact rfl) ?_; refine s_nil ?_; (repeat (first | refine s_then ?_ | refine s_blockN ?_)); refine s_ret ?_; (repeat (first | refine s_retT ?_ | refine s_retB ?_)); refine q_ret1 (by (conv => lhs; whnf); first | done | exact rfl) ?_)
  all_goals (((refine ⟨_, rfl, ?_, (hS.subP (by (repeat constructor); first | done | fail))⟩; (cases hb : (s.any fun b => decide (b.toNat = c)) <;> simp_all); done)))
theorem with_c {s : ByteArray} {c : Nat} (hs : s.size ≤ 1000000) (hS : St cx w L) : Rets Try.prog code_with [.string s, .int .u8 c] w fun u w' => u = .bool (withF s c) ∧ St cx w' L := by
  have hle := St.refl hS
  all_goals refine code_with_in ?_
  all_goals (unfold code_with_lc; refine s_seq ?_; refine s_ops ?_; refine s_mov (by (conv => lhs; whnf); first | done | exact rfl) ?_; refine s_nil ?_; (repeat (first | refine s_then ?_ | refine s_blockN ?_)); refine s_seq ?_; refine s_ops ?_; refine s_mov (by (conv => lhs; whnf); first | done | exact rfl) ?_; refine s_bytes (e := 5) (by kernel_rfl) (by kernel_rfl) (by kernel_rfl) hS (by (conv => lhs; whnf); first | done | exact rfl) ?_; intro v1 w1 hS; obtain ⟨c1, hle2, hS, hk1⟩ := St.freezeL (r := u8R) hS (u8R_ls _) rfl (by rw [Array.length_toList]; show s.size ≤ 140737488355328; omega); refine s_mov (by (conv => lhs; whnf); first | done | exact rfl) ?_; refine s_rets_2 (by (conv => lhs; whnf); first | done | exact rfl) (by (conv => lhs; whnf); first | done | exact rfl) (ucontains_c hk1 hS) ?_; rintro v1 w1 ⟨rfl, hS⟩; refine s_mov (by (conv => lhs; whnf); first | done | exact rfl) ?_; refine s_nil ?_; (repeat (first | refine s_then ?_ | refine s_blockN ?_)); refine s_ret ?_; (repeat (first | refine s_retT ?_ | refine s_retB ?_)); refine q_ret1 (by (conv => lhs; whnf); first | done | exact rfl) ?_; ((exact ⟨_, rfl, rfl, St.weak (hS.subP (by (repeat constructor); first | done | fail)) hle2⟩)))
theorem has_c {op : Int} (hS : St cx w L) : Rets Try.prog code_has [.int .i64 op] w fun u w' => u = .string (hasF op) ∧ St cx w' L := by
  by_cases hb : op < 1 ∨ 14 < op
  · have e : hasF op = ⟨#[]⟩ := by unfold hasF; rw [if_pos hb]
    rw [e]
    all_goals refine code_has_in ?_
    all_goals (unfold code_has_lc; refine s_seq ?_; refine s_ops ?_; refine s_mov (by (conv => lhs; whnf); first | done | exact rfl) ?_; refine s_nil ?_; (repeat (first | refine s_then ?_ | refine s_blockN ?_)); refine s_seq ?_; refine s_seq ?_; refine s_ops ?_; refine s_mov (by (conv => lhs; whnf); first | done | exact rfl) ?_)
    all_goals (first | (refine s_lss_t rfl rfl (by omega) ?_) | (refine s_lss_f rfl rfl (by omega) ?_) | (refine s_lss_s rfl rfl (fun hc => ?_) (fun hc => ?_)))
    all_goals (refine s_mov (by (conv => lhs; whnf); first | done | exact rfl) ?_; (first | refine s_gn rfl rfl ?_ | (refine s_gy rfl ?_; refine s_mov (by (conv => lhs; whnf); first | done | exact rfl) ?_)))
    all_goals (first | refine s_gn rfl rfl ?_ | (refine s_gy rfl ?_; ((refine s_gtr_t rfl rfl (by omega) ?_))))
    all_goals ((first | refine s_pick_t rfl (by (conv => lhs; whnf); first | done | exact rfl) ?_ | refine s_pick_f rfl (by (conv => lhs; whnf); first | done | exact rfl) ?_); refine s_nil ?_; (repeat (first | refine s_then ?_ | refine s_blockN ?_)))
    all_goals refine s_cond_t rfl ?_
    all_goals (refine s_seq ?_; refine s_ops ?_; refine s_mov (by (conv => lhs; whnf); first | done | exact rfl) ?_; refine s_nil ?_; (repeat (first | refine s_then ?_ | refine s_blockN ?_)); refine s_ret ?_; (repeat (first | refine s_retT ?_ | refine s_retB ?_)); refine q_ret1 (by (conv => lhs; whnf); first | done | exact rfl) ?_; (((refine ⟨_, rfl, ?_, (hS.subP (by (repeat constructor); first | done | fail))⟩; (rfl); done))))
  · have hu : (hasTab.map Value.string)[op.toNat]? = some (.string (hasF op)) := by
      rcases op_cases (op := op) (by omega) (by omega) with rfl | rfl | rfl | rfl | rfl | rfl | rfl | rfl | rfl | rfl | rfl | rfl | rfl | rfl <;> rfl
    generalize hasF op = s at hu ⊢
    all_goals refine code_has_in ?_
    all_goals (unfold code_has_lc; refine s_seq ?_; refine s_ops ?_; refine s_mov (by (conv => lhs; whnf); first | done | exact rfl) ?_; refine s_nil ?_; (repeat (first | refine s_then ?_ | refine s_blockN ?_)); refine s_seq ?_; refine s_seq ?_; refine s_ops ?_; refine s_mov (by (conv => lhs; whnf); first | done | exact rfl) ?_)
    all_goals (first | (refine s_lss_t rfl rfl (by omega) ?_) | (refine s_lss_f rfl rfl (by omega) ?_))
    all_goals (refine s_mov (by (conv => lhs; whnf); first | done | exact rfl) ?_; (first | refine s_gn rfl rfl ?_ | (refine s_gy rfl ?_; refine s_mov (by (conv => lhs; whnf); first | done | exact rfl) ?_)))
    all_goals (first | refine s_gn rfl rfl ?_ | (refine s_gy rfl ?_; (first | (refine s_gtr_t rfl rfl (by omega) ?_) | (refine s_gtr_f rfl rfl (by omega) ?_))))
    all_goals ((first | refine s_pick_t rfl (by (conv => lhs; whnf); first | done | exact rfl) ?_ | refine s_pick_f rfl (by (conv => lhs; whnf); first | done | exact rfl) ?_); refine s_nil ?_; (repeat (first | refine s_then ?_ | refine s_blockN ?_)))
    all_goals refine s_cond_f rfl ?_
    all_goals (refine s_skip ?_; (repeat (first | refine s_then ?_ | refine s_blockN ?_)); refine s_seq ?_; refine s_ops ?_; refine s_build15 (cs := [_, _, _, _, _, _, _, _, _, _, _, _, _, _, _]) (by (conv => lhs; whnf); first | done | exact rfl) (by (conv => lhs; whnf); first | done | exact rfl) (by (conv => lhs; whnf); first | done | exact rfl) (by (conv => lhs; whnf); first | done | exact rfl) (by (conv => lhs; whnf); first | done | exact rfl) (by (conv => lhs; whnf); first | done | exact rfl) (by (conv => lhs; whnf); first | done | exact rfl) (by (conv => lhs; whnf); first | done | exact rfl) (by (conv => lhs; whnf); first | done | exact rfl) (by (conv => lhs; whnf); first | done | exact rfl) (by (conv => lhs; whnf); first | done | exact rfl) (by (conv => lhs; whnf); first | done | exact rfl) (by (conv => lhs; whnf); first | done | exact rfl) (by (conv => lhs; whnf); first | done | exact rfl) (by (conv => lhs; whnf); first | done | exact rfl) (by rfl) ?_; refine s_mov (by (conv => lhs; whnf); first | done | exact rfl) ?_; refine s_idxv (n := 15) (e := 9) (by kernel_rfl) (by kernel_rfl) (by kernel_rfl) (by (conv => lhs; whnf); first | done | exact rfl) (by (conv => lhs; whnf); first | done | exact rfl) (by omega) (by omega) hu ?_; refine s_mov (by (conv => lhs; whnf); first | done | exact rfl) ?_; refine s_nil ?_; (repeat (first | refine s_then ?_ | refine s_blockN ?_)); refine s_ret ?_; (repeat (first | refine s_retT ?_ | refine s_retB ?_)); refine q_ret1 (by (conv => lhs; whnf); first | done | exact rfl) ?_; (((refine ⟨_, rfl, ?_, (hS.subP (by (repeat constructor); first | done | fail))⟩; (rfl); done))))
theorem hasF_size (op : Int) : (hasF op).size ≤ 1000000 := by
  by_cases hb : op < 1 ∨ 14 < op
  · unfold hasF; rw [if_pos hb]; decide
  · rcases op_cases (op := op) (by omega) (by omega) with rfl | rfl | rfl | rfl | rfl | rfl | rfl | rfl | rfl | rfl | rfl | rfl | rfl | rfl <;> decide
theorem ins_end {g : Flt} {at' : Int} {n : Nat} {x : Ins} {q : Bool} {c3 : Int} (hq : q = true ↔ (((((((withF (hasF x.op) 97 = false ∧ x.a ≠ 0) ∨ (withF (hasF x.op) 98 = false ∧ x.b ≠ 0)) ∨ (withF (hasF x.op) 99 = false ∧ x.c ≠ 0)) ∨ (withF (hasF x.op) 107 = false ∧ x.k ≠ 0)) ∨ (withF (hasF x.op) 110 = false ∧ x.n ≠ 0)) ∨ (withF (hasF x.op) 103 = false ∧ 0 < x.regs.length)) ∨ (withF (hasF x.op) 114 = false ∧ 0 < x.args.length))) (h3 : c3 = insKind n x) :
    orF (orF (orF g (mkF (if x.op < 1 ∨ 14 < x.op then 3 else 0) at')) (mkF (if q = true then 4 else 0) at')) (mkF c3 at') = orF g (mkF (insForm n x) at') := by
  rw [orF_mk, orF_mk]
  congr 2
  subst h3
  unfold insForm
  by_cases hb : x.op < 1 ∨ 14 < x.op
  · rw [if_pos hb, if_pos hb]; rfl
  · rw [if_neg hb, if_neg hb]
    obtain ⟨h1, h2, h3, h4, h5, h6, h7⟩ := with_all x.op hb
    rw [h1, h2, h3, h4, h5, h6, h7] at hq
    simp only [or_assoc] at hq
    by_cases ho : x.odd
    · rw [if_pos ho, if_pos (hq.2 ho)]; rfl
    · rw [if_neg ho, if_neg fun h => ho (hq.1 h)]; rfl
theorem orC_1 {a b : Int} (h : a ≠ 0) : orC a b = a := if_pos h
theorem orC_0 (b : Int) : orC 0 b = b := rfl
section
attribute [local irreducible] orF mkF orC insKind insForm toForm endForm
set_option maxHeartbeats 1000000 in
theorem ins_c {x : Ins} {n : List Fun} {vf : Value} {g : Flt} {at' : Int} {b : Nat} {cs : List Value} (hx : insR.at cx cs x) (hf : funcR.sl cx vf n) (hS : St cx w L) (hi : nth L i = some (jdg b vf g at')) :
    Rets Try.prog code_judge_ins [.pointer (some ⟨b, 0, none⟩), .agg ⟨cs⟩] w fun u w' => u = .tuple #[] ∧ St cx w' (L.set i (jdg b vf (orF g (mkF (insForm n.length x) at')) at')) := by
  have hS := hS.out hi
  obtain ⟨vr, va, rfl, hr, ha⟩ := insR_out hx
  have hlr := hr.len
  have hla := ha.len
  have hln := hf.len
  have hsz := hasF_size x.op
  all_goals refine code_judge_ins_in ?_
  all_goals (unfold code_judge_ins_lc; refine s_seq ?_; refine s_ops ?_; refine s_boxB hS (by (conv => lhs; whnf); first | done | exact rfl) (by rfl) ?_; (intro p3 w1 hS); refine s_nil ?_; (repeat (first | refine s_then ?_ | refine s_blockN ?_)))
  refine s_ask (i := 0) (by (conv => lhs; whnf); first | done | exact rfl) (fun e0 => ?_)
  refine s_ask (i := 3) (by (conv => lhs; whnf); first | done | exact rfl) (fun e3 => ?_)
  refine s_mid ((fun {xx0 V0 : Value} (_ : xx0 = V0) {xx3 V3 : Value} (_ : xx3 = V3) => (fun ρ' w' => Has ρ' [(0, V0), (3, V3)] ∧ St cx w' (blk p3 27 [.int .i64 x.op, .int .i64 x.a, .int .i64 x.b, .int .i64 x.c, .int .i64 x.k, .int .i64 x.n, vr, va] :: jdg b vf (orF g (mkF (if x.op < 1 ∨ 14 < x.op then 3 else 0) at')) at' :: L.eraseIdx i) : Env → World → Prop)) e0 e3) ?_ ?_
  · skip
    all_goals (refine s_ops ?_; refine s_mov (by (conv => lhs; whnf); first | done | exact rfl) ?_; (refine s_fld0 rfl ?_); ((refine s_loadB hS rfl (NthP.nth (by repeat constructor)) rfl ?_)))
    all_goals (first | (refine s_lss_t rfl rfl (by omega) ?_) | (refine s_lss_f rfl rfl (by omega) ?_) | (refine s_lss_s rfl rfl (fun hc => ?_) (fun hc => ?_)))
    all_goals (refine s_mov (by (conv => lhs; whnf); first | done | exact rfl) ?_; (first | refine s_gn rfl rfl ?_ | (refine s_gy rfl ?_; (refine s_fld0 rfl ?_))); (first | refine s_gn rfl rfl ?_ | (refine s_gy rfl ?_; ((refine s_loadB hS rfl (NthP.nth (by repeat constructor)) rfl ?_)))))
    all_goals (first | refine s_gn rfl rfl ?_ | (refine s_gy rfl ?_; (first | (refine s_gtr_t rfl rfl (by omega) ?_) | (refine s_gtr_f rfl rfl (by omega) ?_) | (refine s_gtr_s rfl rfl (fun hc => ?_) (fun hc => ?_)))))
    all_goals ((first | refine s_pick_t rfl (by (conv => lhs; whnf); first | done | exact rfl) ?_ | refine s_pick_f rfl (by (conv => lhs; whnf); first | done | exact rfl) ?_); refine s_rets_3 (by (conv => lhs; whnf); first | done | exact rfl) (by (conv => lhs; whnf); first | done | exact rfl) (by (conv => lhs; whnf); first | done | exact rfl) (fail_c (by intro _; decide) hS (NthP.nth (by repeat constructor))) ?_; rintro v1 w1 ⟨rfl, hS⟩; simp only [List.set_cons_zero, List.set_cons_succ, if_true, Bool.false_eq_true, if_false] at hS; refine s_nil ?_; (repeat (first | refine s_then ?_ | refine s_blockN ?_)); ((exact ⟨⟨rfl, rfl, trivial⟩, by first | (rw [if_pos (by omega)]; exact (hS.subP (by (repeat constructor); first | done | fail))) | (rw [if_neg (by omega)]; exact (hS.subP (by (repeat constructor); first | done | fail)))⟩)))
  dsimp only; clear e0 e3; rintro ρ w1 ⟨hρ, hS⟩; obtain ⟨ρ, rfl⟩ := env_intro _ hρ
  all_goals (refine s_seq ?_; refine s_ops ?_; (refine s_fld0 rfl ?_); ((refine s_loadB hS rfl (NthP.nth (by repeat constructor)) rfl ?_)); refine s_rets_1 (by (conv => lhs; whnf); first | done | exact rfl) (has_c hS) ?_; rintro v1 w1 ⟨rfl, hS⟩; refine s_mov (by (conv => lhs; whnf); first | done | exact rfl) ?_; refine s_nil ?_; (repeat (first | refine s_then ?_ | refine s_blockN ?_)); generalize hh : hasF x.op = h at *; refine s_seq ?_; refine s_ops ?_)
  refine s_askO (i := 0) (by (conv => lhs; whnf); first | done | exact rfl) (fun e0 => ?_)
  refine s_askO (i := 3) (by (conv => lhs; whnf); first | done | exact rfl) (fun e3 => ?_)
  refine s_askO (i := 4) (by (conv => lhs; whnf); first | done | exact rfl) (fun e4 => ?_)
  refine s_cut 9 ((fun {xx0 V0 : Value} (_ : xx0 = V0) {xx3 V3 : Value} (_ : xx3 = V3) {xx4 V4 : Value} (_ : xx4 = V4) {cc : Cx} {ww : World} {LL : List Res} (_ : St cc ww LL) => (fun ρ' w' => ∃ (q1 : Bool), Has ρ' [(0, V0), (3, V3), (4, V4), (18, .pointer (some ⟨b, 0, none⟩)), (26, .bool q1)] ∧ (q1 = true ↔ (withF h 97 = false ∧ x.a ≠ 0)) ∧ St cx w' (LL) : Env → World → Prop)) e0 e3 e4 hS) ?_ ?_
  · skip
    all_goals (refine s_mov (by (conv => lhs; whnf); first | done | exact rfl) ?_; refine s_mov (by (conv => lhs; whnf); first | done | exact rfl) ?_; refine s_rets_2 (by (conv => lhs; whnf); first | done | exact rfl) (by (conv => lhs; whnf); first | done | exact rfl) (with_c hsz hS) ?_; rintro v1 w1 ⟨rfl, hS⟩)
    all_goals (cases ha1 : withF h 97)
    all_goals (refine s_not rfl ?_; refine s_mov (by (conv => lhs; whnf); first | done | exact rfl) ?_; (first | refine s_gn rfl rfl ?_ | (refine s_gy rfl ?_; (refine s_fld0 rfl ?_))); (first | refine s_gn rfl rfl ?_ | (refine s_gy rfl ?_; ((refine s_loadB hS rfl (NthP.nth (by repeat constructor)) rfl ?_)))))
    all_goals (first | refine s_gn rfl rfl ?_ | (refine s_gy rfl ?_; (first | (refine s_neq_t rfl rfl (by omega) ?_) | (refine s_neq_f rfl rfl (by omega) ?_) | (refine s_neq_s rfl rfl (fun hc => ?_) (fun hc => ?_)))))
    all_goals ((first | refine s_pick_t rfl (by (conv => lhs; whnf); first | done | exact rfl) ?_ | refine s_pick_f rfl (by (conv => lhs; whnf); first | done | exact rfl) ?_); refine s_nil ?_; refine s_then ?_)
    all_goals (first | (exact ⟨_, ⟨rfl, rfl, rfl, rfl, rfl, trivial⟩, by exact ⟨fun _ => ⟨(by first | rfl | assumption), by omega⟩, fun _ => rfl⟩, (hS.subP (by (repeat constructor); first | done | fail))⟩) | (exact ⟨_, ⟨rfl, rfl, rfl, rfl, rfl, trivial⟩, by exact ⟨fun h => Bool.noConfusion h, fun h => by obtain ⟨h1, h2⟩ := h; first | (exfalso; omega) | (simp_all; done)⟩, (hS.subP (by (repeat constructor); first | done | fail))⟩))
  dsimp only; clear e0 e3 e4; rintro ρ w1 ⟨q1, hρ, hq1, hS⟩; obtain ⟨ρ, rfl⟩ := env_intro _ hρ
  refine s_askO (i := 0) (by (conv => lhs; whnf); first | done | exact rfl) (fun e0 => ?_)
  refine s_askO (i := 3) (by (conv => lhs; whnf); first | done | exact rfl) (fun e3 => ?_)
  refine s_askO (i := 4) (by (conv => lhs; whnf); first | done | exact rfl) (fun e4 => ?_)
  refine s_askO (i := 18) (by (conv => lhs; whnf); first | done | exact rfl) (fun e18 => ?_)
  refine s_cut 10 ((fun {xx0 V0 : Value} (_ : xx0 = V0) {xx3 V3 : Value} (_ : xx3 = V3) {xx4 V4 : Value} (_ : xx4 = V4) {xx18 V18 : Value} (_ : xx18 = V18) {cc : Cx} {ww : World} {LL : List Res} (_ : St cc ww LL) => (fun ρ' w' => ∃ (q2 : Bool), Has ρ' [(0, V0), (3, V3), (4, V4), (18, V18), (36, .bool q2)] ∧ (q2 = true ↔ ((withF h 97 = false ∧ x.a ≠ 0) ∨ (withF h 98 = false ∧ x.b ≠ 0))) ∧ St cx w' (LL) : Env → World → Prop)) e0 e3 e4 e18 hS) ?_ ?_
  · skip
    all_goals (cases q1)
    all_goals (refine s_mov (by (conv => lhs; whnf); first | done | exact rfl) ?_; (first | refine s_gn rfl rfl ?_ | (refine s_gy rfl ?_; refine s_mov (by (conv => lhs; whnf); first | done | exact rfl) ?_)); (first | refine s_gn rfl rfl ?_ | (refine s_gy rfl ?_; refine s_rets_2 (by (conv => lhs; whnf); first | done | exact rfl) (by (conv => lhs; whnf); first | done | exact rfl) (with_c hsz hS) ?_; rintro v1 w1 ⟨rfl, hS⟩)))
    all_goals (cases ha2 : withF h 98)
    all_goals ((first | refine s_gn rfl rfl ?_ | (refine s_gy rfl ?_; refine s_not rfl ?_)); (first | refine s_gn rfl rfl ?_ | (refine s_gy rfl ?_; refine s_mov (by (conv => lhs; whnf); first | done | exact rfl) ?_)); (first | refine s_gn rfl rfl ?_ | (refine s_gy rfl ?_; (refine s_fld0 rfl ?_))); (first | refine s_gn rfl rfl ?_ | (refine s_gy rfl ?_; ((refine s_loadB hS rfl (NthP.nth (by repeat constructor)) rfl ?_)))))
    all_goals (first | refine s_gn rfl rfl ?_ | (refine s_gy rfl ?_; (first | (refine s_neq_t rfl rfl (by omega) ?_) | (refine s_neq_f rfl rfl (by omega) ?_) | (refine s_neq_s rfl rfl (fun hc => ?_) (fun hc => ?_)))))
    all_goals ((first | refine s_gn rfl rfl ?_ | (refine s_gy rfl ?_; (first | refine s_pick_t rfl (by (conv => lhs; whnf); first | done | exact rfl) ?_ | refine s_pick_f rfl (by (conv => lhs; whnf); first | done | exact rfl) ?_))); (first | refine s_pick_t rfl (by (conv => lhs; whnf); first | done | exact rfl) ?_ | refine s_pick_f rfl (by (conv => lhs; whnf); first | done | exact rfl) ?_); refine s_nil ?_; refine s_then ?_)
    all_goals (first | (exact ⟨_, ⟨rfl, rfl, rfl, rfl, rfl, trivial⟩, by exact ⟨fun _ => .inl (hq1.1 rfl), fun _ => rfl⟩, (hS.subP (by (repeat constructor); first | done | fail))⟩) | (exact ⟨_, ⟨rfl, rfl, rfl, rfl, rfl, trivial⟩, by exact ⟨fun _ => .inr ⟨(by first | rfl | assumption), by omega⟩, fun _ => rfl⟩, (hS.subP (by (repeat constructor); first | done | fail))⟩) | (exact ⟨_, ⟨rfl, rfl, rfl, rfl, rfl, trivial⟩, by exact ⟨fun h => Bool.noConfusion h, fun h => h.elim (fun h => hq1.2 h) (fun h => by obtain ⟨h1, h2⟩ := h; first | (exfalso; omega) | (simp_all; done))⟩, (hS.subP (by (repeat constructor); first | done | fail))⟩))
  dsimp only; clear e0 e3 e4 e18; rintro ρ w1 ⟨q2, hρ, hq2, hS⟩; obtain ⟨ρ, rfl⟩ := env_intro _ hρ
  refine s_askO (i := 0) (by (conv => lhs; whnf); first | done | exact rfl) (fun e0 => ?_)
  refine s_askO (i := 3) (by (conv => lhs; whnf); first | done | exact rfl) (fun e3 => ?_)
  refine s_askO (i := 4) (by (conv => lhs; whnf); first | done | exact rfl) (fun e4 => ?_)
  refine s_askO (i := 18) (by (conv => lhs; whnf); first | done | exact rfl) (fun e18 => ?_)
  refine s_cut 10 ((fun {xx0 V0 : Value} (_ : xx0 = V0) {xx3 V3 : Value} (_ : xx3 = V3) {xx4 V4 : Value} (_ : xx4 = V4) {xx18 V18 : Value} (_ : xx18 = V18) {cc : Cx} {ww : World} {LL : List Res} (_ : St cc ww LL) => (fun ρ' w' => ∃ (q3 : Bool), Has ρ' [(0, V0), (3, V3), (4, V4), (18, V18), (46, .bool q3)] ∧ (q3 = true ↔ (((withF h 97 = false ∧ x.a ≠ 0) ∨ (withF h 98 = false ∧ x.b ≠ 0)) ∨ (withF h 99 = false ∧ x.c ≠ 0))) ∧ St cx w' (LL) : Env → World → Prop)) e0 e3 e4 e18 hS) ?_ ?_
  · skip
    all_goals (cases q2)
    all_goals (refine s_mov (by (conv => lhs; whnf); first | done | exact rfl) ?_; (first | refine s_gn rfl rfl ?_ | (refine s_gy rfl ?_; refine s_mov (by (conv => lhs; whnf); first | done | exact rfl) ?_)); (first | refine s_gn rfl rfl ?_ | (refine s_gy rfl ?_; refine s_rets_2 (by (conv => lhs; whnf); first | done | exact rfl) (by (conv => lhs; whnf); first | done | exact rfl) (with_c hsz hS) ?_; rintro v1 w1 ⟨rfl, hS⟩)))
    all_goals (cases ha3 : withF h 99)
    all_goals ((first | refine s_gn rfl rfl ?_ | (refine s_gy rfl ?_; refine s_not rfl ?_)); (first | refine s_gn rfl rfl ?_ | (refine s_gy rfl ?_; refine s_mov (by (conv => lhs; whnf); first | done | exact rfl) ?_)); (first | refine s_gn rfl rfl ?_ | (refine s_gy rfl ?_; (refine s_fld0 rfl ?_))); (first | refine s_gn rfl rfl ?_ | (refine s_gy rfl ?_; ((refine s_loadB hS rfl (NthP.nth (by repeat constructor)) rfl ?_)))))
    all_goals (first | refine s_gn rfl rfl ?_ | (refine s_gy rfl ?_; (first | (refine s_neq_t rfl rfl (by omega) ?_) | (refine s_neq_f rfl rfl (by omega) ?_) | (refine s_neq_s rfl rfl (fun hc => ?_) (fun hc => ?_)))))
    all_goals ((first | refine s_gn rfl rfl ?_ | (refine s_gy rfl ?_; (first | refine s_pick_t rfl (by (conv => lhs; whnf); first | done | exact rfl) ?_ | refine s_pick_f rfl (by (conv => lhs; whnf); first | done | exact rfl) ?_))); (first | refine s_pick_t rfl (by (conv => lhs; whnf); first | done | exact rfl) ?_ | refine s_pick_f rfl (by (conv => lhs; whnf); first | done | exact rfl) ?_); refine s_nil ?_; refine s_then ?_)
    all_goals (first | (exact ⟨_, ⟨rfl, rfl, rfl, rfl, rfl, trivial⟩, by exact ⟨fun _ => .inl (hq2.1 rfl), fun _ => rfl⟩, (hS.subP (by (repeat constructor); first | done | fail))⟩) | (exact ⟨_, ⟨rfl, rfl, rfl, rfl, rfl, trivial⟩, by exact ⟨fun _ => .inr ⟨(by first | rfl | assumption), by omega⟩, fun _ => rfl⟩, (hS.subP (by (repeat constructor); first | done | fail))⟩) | (exact ⟨_, ⟨rfl, rfl, rfl, rfl, rfl, trivial⟩, by exact ⟨fun h => Bool.noConfusion h, fun h => h.elim (fun h => hq2.2 h) (fun h => by obtain ⟨h1, h2⟩ := h; first | (exfalso; omega) | (simp_all; done))⟩, (hS.subP (by (repeat constructor); first | done | fail))⟩))
  dsimp only; clear e0 e3 e4 e18; rintro ρ w1 ⟨q3, hρ, hq3, hS⟩; obtain ⟨ρ, rfl⟩ := env_intro _ hρ
  refine s_askO (i := 0) (by (conv => lhs; whnf); first | done | exact rfl) (fun e0 => ?_)
  refine s_askO (i := 3) (by (conv => lhs; whnf); first | done | exact rfl) (fun e3 => ?_)
  refine s_askO (i := 4) (by (conv => lhs; whnf); first | done | exact rfl) (fun e4 => ?_)
  refine s_askO (i := 18) (by (conv => lhs; whnf); first | done | exact rfl) (fun e18 => ?_)
  refine s_cut 10 ((fun {xx0 V0 : Value} (_ : xx0 = V0) {xx3 V3 : Value} (_ : xx3 = V3) {xx4 V4 : Value} (_ : xx4 = V4) {xx18 V18 : Value} (_ : xx18 = V18) {cc : Cx} {ww : World} {LL : List Res} (_ : St cc ww LL) => (fun ρ' w' => ∃ (q4 : Bool), Has ρ' [(0, V0), (3, V3), (4, V4), (18, V18), (56, .bool q4)] ∧ (q4 = true ↔ ((((withF h 97 = false ∧ x.a ≠ 0) ∨ (withF h 98 = false ∧ x.b ≠ 0)) ∨ (withF h 99 = false ∧ x.c ≠ 0)) ∨ (withF h 107 = false ∧ x.k ≠ 0))) ∧ St cx w' (LL) : Env → World → Prop)) e0 e3 e4 e18 hS) ?_ ?_
  · skip
    all_goals (cases q3)
    all_goals (refine s_mov (by (conv => lhs; whnf); first | done | exact rfl) ?_; (first | refine s_gn rfl rfl ?_ | (refine s_gy rfl ?_; refine s_mov (by (conv => lhs; whnf); first | done | exact rfl) ?_)); (first | refine s_gn rfl rfl ?_ | (refine s_gy rfl ?_; refine s_rets_2 (by (conv => lhs; whnf); first | done | exact rfl) (by (conv => lhs; whnf); first | done | exact rfl) (with_c hsz hS) ?_; rintro v1 w1 ⟨rfl, hS⟩)))
    all_goals (cases ha4 : withF h 107)
    all_goals ((first | refine s_gn rfl rfl ?_ | (refine s_gy rfl ?_; refine s_not rfl ?_)); (first | refine s_gn rfl rfl ?_ | (refine s_gy rfl ?_; refine s_mov (by (conv => lhs; whnf); first | done | exact rfl) ?_)); (first | refine s_gn rfl rfl ?_ | (refine s_gy rfl ?_; (refine s_fld0 rfl ?_))); (first | refine s_gn rfl rfl ?_ | (refine s_gy rfl ?_; ((refine s_loadB hS rfl (NthP.nth (by repeat constructor)) rfl ?_)))))
    all_goals (first | refine s_gn rfl rfl ?_ | (refine s_gy rfl ?_; (first | (refine s_neq_t rfl rfl (by omega) ?_) | (refine s_neq_f rfl rfl (by omega) ?_) | (refine s_neq_s rfl rfl (fun hc => ?_) (fun hc => ?_)))))
    all_goals ((first | refine s_gn rfl rfl ?_ | (refine s_gy rfl ?_; (first | refine s_pick_t rfl (by (conv => lhs; whnf); first | done | exact rfl) ?_ | refine s_pick_f rfl (by (conv => lhs; whnf); first | done | exact rfl) ?_))); (first | refine s_pick_t rfl (by (conv => lhs; whnf); first | done | exact rfl) ?_ | refine s_pick_f rfl (by (conv => lhs; whnf); first | done | exact rfl) ?_); refine s_nil ?_; refine s_then ?_)
    all_goals (first | (exact ⟨_, ⟨rfl, rfl, rfl, rfl, rfl, trivial⟩, by exact ⟨fun _ => .inl (hq3.1 rfl), fun _ => rfl⟩, (hS.subP (by (repeat constructor); first | done | fail))⟩) | (exact ⟨_, ⟨rfl, rfl, rfl, rfl, rfl, trivial⟩, by exact ⟨fun _ => .inr ⟨(by first | rfl | assumption), by omega⟩, fun _ => rfl⟩, (hS.subP (by (repeat constructor); first | done | fail))⟩) | (exact ⟨_, ⟨rfl, rfl, rfl, rfl, rfl, trivial⟩, by exact ⟨fun h => Bool.noConfusion h, fun h => h.elim (fun h => hq3.2 h) (fun h => by obtain ⟨h1, h2⟩ := h; first | (exfalso; omega) | (simp_all; done))⟩, (hS.subP (by (repeat constructor); first | done | fail))⟩))
  dsimp only; clear e0 e3 e4 e18; rintro ρ w1 ⟨q4, hρ, hq4, hS⟩; obtain ⟨ρ, rfl⟩ := env_intro _ hρ
  refine s_askO (i := 0) (by (conv => lhs; whnf); first | done | exact rfl) (fun e0 => ?_)
  refine s_askO (i := 3) (by (conv => lhs; whnf); first | done | exact rfl) (fun e3 => ?_)
  refine s_askO (i := 4) (by (conv => lhs; whnf); first | done | exact rfl) (fun e4 => ?_)
  refine s_askO (i := 18) (by (conv => lhs; whnf); first | done | exact rfl) (fun e18 => ?_)
  refine s_cut 10 ((fun {xx0 V0 : Value} (_ : xx0 = V0) {xx3 V3 : Value} (_ : xx3 = V3) {xx4 V4 : Value} (_ : xx4 = V4) {xx18 V18 : Value} (_ : xx18 = V18) {cc : Cx} {ww : World} {LL : List Res} (_ : St cc ww LL) => (fun ρ' w' => ∃ (q5 : Bool), Has ρ' [(0, V0), (3, V3), (4, V4), (18, V18), (66, .bool q5)] ∧ (q5 = true ↔ (((((withF h 97 = false ∧ x.a ≠ 0) ∨ (withF h 98 = false ∧ x.b ≠ 0)) ∨ (withF h 99 = false ∧ x.c ≠ 0)) ∨ (withF h 107 = false ∧ x.k ≠ 0)) ∨ (withF h 110 = false ∧ x.n ≠ 0))) ∧ St cx w' (LL) : Env → World → Prop)) e0 e3 e4 e18 hS) ?_ ?_
  · skip
    all_goals (cases q4)
    all_goals (refine s_mov (by (conv => lhs; whnf); first | done | exact rfl) ?_; (first | refine s_gn rfl rfl ?_ | (refine s_gy rfl ?_; refine s_mov (by (conv => lhs; whnf); first | done | exact rfl) ?_)); (first | refine s_gn rfl rfl ?_ | (refine s_gy rfl ?_; refine s_rets_2 (by (conv => lhs; whnf); first | done | exact rfl) (by (conv => lhs; whnf); first | done | exact rfl) (with_c hsz hS) ?_; rintro v1 w1 ⟨rfl, hS⟩)))
    all_goals (cases ha5 : withF h 110)
    all_goals ((first | refine s_gn rfl rfl ?_ | (refine s_gy rfl ?_; refine s_not rfl ?_)); (first | refine s_gn rfl rfl ?_ | (refine s_gy rfl ?_; refine s_mov (by (conv => lhs; whnf); first | done | exact rfl) ?_)); (first | refine s_gn rfl rfl ?_ | (refine s_gy rfl ?_; (refine s_fld0 rfl ?_))); (first | refine s_gn rfl rfl ?_ | (refine s_gy rfl ?_; ((refine s_loadB hS rfl (NthP.nth (by repeat constructor)) rfl ?_)))))
    all_goals (first | refine s_gn rfl rfl ?_ | (refine s_gy rfl ?_; (first | (refine s_neq_t rfl rfl (by omega) ?_) | (refine s_neq_f rfl rfl (by omega) ?_) | (refine s_neq_s rfl rfl (fun hc => ?_) (fun hc => ?_)))))
    all_goals ((first | refine s_gn rfl rfl ?_ | (refine s_gy rfl ?_; (first | refine s_pick_t rfl (by (conv => lhs; whnf); first | done | exact rfl) ?_ | refine s_pick_f rfl (by (conv => lhs; whnf); first | done | exact rfl) ?_))); (first | refine s_pick_t rfl (by (conv => lhs; whnf); first | done | exact rfl) ?_ | refine s_pick_f rfl (by (conv => lhs; whnf); first | done | exact rfl) ?_); refine s_nil ?_; refine s_then ?_)
    all_goals (first | (exact ⟨_, ⟨rfl, rfl, rfl, rfl, rfl, trivial⟩, by exact ⟨fun _ => .inl (hq4.1 rfl), fun _ => rfl⟩, (hS.subP (by (repeat constructor); first | done | fail))⟩) | (exact ⟨_, ⟨rfl, rfl, rfl, rfl, rfl, trivial⟩, by exact ⟨fun _ => .inr ⟨(by first | rfl | assumption), by omega⟩, fun _ => rfl⟩, (hS.subP (by (repeat constructor); first | done | fail))⟩) | (exact ⟨_, ⟨rfl, rfl, rfl, rfl, rfl, trivial⟩, by exact ⟨fun h => Bool.noConfusion h, fun h => h.elim (fun h => hq4.2 h) (fun h => by obtain ⟨h1, h2⟩ := h; first | (exfalso; omega) | (simp_all; done))⟩, (hS.subP (by (repeat constructor); first | done | fail))⟩))
  dsimp only; clear e0 e3 e4 e18; rintro ρ w1 ⟨q5, hρ, hq5, hS⟩; obtain ⟨ρ, rfl⟩ := env_intro _ hρ
  refine s_askO (i := 0) (by (conv => lhs; whnf); first | done | exact rfl) (fun e0 => ?_)
  refine s_askO (i := 3) (by (conv => lhs; whnf); first | done | exact rfl) (fun e3 => ?_)
  refine s_askO (i := 4) (by (conv => lhs; whnf); first | done | exact rfl) (fun e4 => ?_)
  refine s_askO (i := 18) (by (conv => lhs; whnf); first | done | exact rfl) (fun e18 => ?_)
  refine s_cut 11 ((fun {xx0 V0 : Value} (_ : xx0 = V0) {xx3 V3 : Value} (_ : xx3 = V3) {xx4 V4 : Value} (_ : xx4 = V4) {xx18 V18 : Value} (_ : xx18 = V18) {cc : Cx} {ww : World} {LL : List Res} (_ : St cc ww LL) => (fun ρ' w' => ∃ (q6 : Bool), Has ρ' [(0, V0), (3, V3), (4, V4), (18, V18), (77, .bool q6)] ∧ (q6 = true ↔ ((((((withF h 97 = false ∧ x.a ≠ 0) ∨ (withF h 98 = false ∧ x.b ≠ 0)) ∨ (withF h 99 = false ∧ x.c ≠ 0)) ∨ (withF h 107 = false ∧ x.k ≠ 0)) ∨ (withF h 110 = false ∧ x.n ≠ 0)) ∨ (withF h 103 = false ∧ 0 < x.regs.length))) ∧ St cx w' (LL) : Env → World → Prop)) e0 e3 e4 e18 hS) ?_ ?_
  · skip
    all_goals (cases q5)
    all_goals (refine s_mov (by (conv => lhs; whnf); first | done | exact rfl) ?_; (first | refine s_gn rfl rfl ?_ | (refine s_gy rfl ?_; refine s_mov (by (conv => lhs; whnf); first | done | exact rfl) ?_)); (first | refine s_gn rfl rfl ?_ | (refine s_gy rfl ?_; refine s_rets_2 (by (conv => lhs; whnf); first | done | exact rfl) (by (conv => lhs; whnf); first | done | exact rfl) (with_c hsz hS) ?_; rintro v1 w1 ⟨rfl, hS⟩)))
    all_goals (cases ha6 : withF h 103)
    all_goals ((first | refine s_gn rfl rfl ?_ | (refine s_gy rfl ?_; refine s_not rfl ?_)); (first | refine s_gn rfl rfl ?_ | (refine s_gy rfl ?_; refine s_mov (by (conv => lhs; whnf); first | done | exact rfl) ?_)); (first | refine s_gn rfl rfl ?_ | (refine s_gy rfl ?_; (refine s_fld0 rfl ?_))); (first | refine s_gn rfl rfl ?_ | (refine s_gy rfl ?_; ((refine s_loadB hS rfl (NthP.nth (by repeat constructor)) rfl ?_)))); (first | refine s_gn rfl rfl ?_ | (refine s_gy rfl ?_; ((refine s_lenL (by (conv => lhs; whnf); first | done | exact rfl) (by assumption) ?_)))))
    all_goals (first | refine s_gn rfl rfl ?_ | (refine s_gy rfl ?_; (first | (refine s_gtr_t rfl rfl (by omega) ?_) | (refine s_gtr_f rfl rfl (by omega) ?_) | (refine s_gtr_s rfl rfl (fun hc => ?_) (fun hc => ?_)))))
    all_goals ((first | refine s_gn rfl rfl ?_ | (refine s_gy rfl ?_; (first | refine s_pick_t rfl (by (conv => lhs; whnf); first | done | exact rfl) ?_ | refine s_pick_f rfl (by (conv => lhs; whnf); first | done | exact rfl) ?_))); (first | refine s_pick_t rfl (by (conv => lhs; whnf); first | done | exact rfl) ?_ | refine s_pick_f rfl (by (conv => lhs; whnf); first | done | exact rfl) ?_); refine s_nil ?_; refine s_then ?_)
    all_goals (first | (exact ⟨_, ⟨rfl, rfl, rfl, rfl, rfl, trivial⟩, by exact ⟨fun _ => .inl (hq5.1 rfl), fun _ => rfl⟩, (hS.subP (by (repeat constructor); first | done | fail))⟩) | (exact ⟨_, ⟨rfl, rfl, rfl, rfl, rfl, trivial⟩, by exact ⟨fun _ => .inr ⟨(by first | rfl | assumption), by omega⟩, fun _ => rfl⟩, (hS.subP (by (repeat constructor); first | done | fail))⟩) | (exact ⟨_, ⟨rfl, rfl, rfl, rfl, rfl, trivial⟩, by exact ⟨fun h => Bool.noConfusion h, fun h => h.elim (fun h => hq5.2 h) (fun h => by obtain ⟨h1, h2⟩ := h; first | (exfalso; omega) | (simp_all; done))⟩, (hS.subP (by (repeat constructor); first | done | fail))⟩))
  dsimp only; clear e0 e3 e4 e18; rintro ρ w1 ⟨q6, hρ, hq6, hS⟩; obtain ⟨ρ, rfl⟩ := env_intro _ hρ
  refine s_askO (i := 0) (by (conv => lhs; whnf); first | done | exact rfl) (fun e0 => ?_)
  refine s_askO (i := 3) (by (conv => lhs; whnf); first | done | exact rfl) (fun e3 => ?_)
  refine s_askO (i := 18) (by (conv => lhs; whnf); first | done | exact rfl) (fun e18 => ?_)
  refine s_cut 11 ((fun {xx0 V0 : Value} (_ : xx0 = V0) {xx3 V3 : Value} (_ : xx3 = V3) {xx18 V18 : Value} (_ : xx18 = V18) {cc : Cx} {ww : World} {LL : List Res} (_ : St cc ww LL) => (fun ρ' w' => ∃ (q7 : Bool), Has ρ' [(0, V0), (3, V3), (18, V18), (88, .bool q7)] ∧ (q7 = true ↔ (((((((withF h 97 = false ∧ x.a ≠ 0) ∨ (withF h 98 = false ∧ x.b ≠ 0)) ∨ (withF h 99 = false ∧ x.c ≠ 0)) ∨ (withF h 107 = false ∧ x.k ≠ 0)) ∨ (withF h 110 = false ∧ x.n ≠ 0)) ∨ (withF h 103 = false ∧ 0 < x.regs.length)) ∨ (withF h 114 = false ∧ 0 < x.args.length))) ∧ St cx w' (LL) : Env → World → Prop)) e0 e3 e18 hS) ?_ ?_
  · skip
    all_goals (cases q6)
    all_goals (refine s_mov (by (conv => lhs; whnf); first | done | exact rfl) ?_; (first | refine s_gn rfl rfl ?_ | (refine s_gy rfl ?_; refine s_mov (by (conv => lhs; whnf); first | done | exact rfl) ?_)); (first | refine s_gn rfl rfl ?_ | (refine s_gy rfl ?_; refine s_rets_2 (by (conv => lhs; whnf); first | done | exact rfl) (by (conv => lhs; whnf); first | done | exact rfl) (with_c hsz hS) ?_; rintro v1 w1 ⟨rfl, hS⟩)))
    all_goals (cases ha7 : withF h 114)
    all_goals ((first | refine s_gn rfl rfl ?_ | (refine s_gy rfl ?_; refine s_not rfl ?_)); (first | refine s_gn rfl rfl ?_ | (refine s_gy rfl ?_; refine s_mov (by (conv => lhs; whnf); first | done | exact rfl) ?_)); (first | refine s_gn rfl rfl ?_ | (refine s_gy rfl ?_; (refine s_fld0 rfl ?_))); (first | refine s_gn rfl rfl ?_ | (refine s_gy rfl ?_; ((refine s_loadB hS rfl (NthP.nth (by repeat constructor)) rfl ?_)))); (first | refine s_gn rfl rfl ?_ | (refine s_gy rfl ?_; ((refine s_lenL (by (conv => lhs; whnf); first | done | exact rfl) (by assumption) ?_)))))
    all_goals (first | refine s_gn rfl rfl ?_ | (refine s_gy rfl ?_; (first | (refine s_gtr_t rfl rfl (by omega) ?_) | (refine s_gtr_f rfl rfl (by omega) ?_) | (refine s_gtr_s rfl rfl (fun hc => ?_) (fun hc => ?_)))))
    all_goals ((first | refine s_gn rfl rfl ?_ | (refine s_gy rfl ?_; (first | refine s_pick_t rfl (by (conv => lhs; whnf); first | done | exact rfl) ?_ | refine s_pick_f rfl (by (conv => lhs; whnf); first | done | exact rfl) ?_))); (first | refine s_pick_t rfl (by (conv => lhs; whnf); first | done | exact rfl) ?_ | refine s_pick_f rfl (by (conv => lhs; whnf); first | done | exact rfl) ?_); refine s_nil ?_; refine s_then ?_)
    all_goals (first | (exact ⟨_, ⟨rfl, rfl, rfl, rfl, trivial⟩, by exact ⟨fun _ => .inl (hq6.1 rfl), fun _ => rfl⟩, (hS.subP (by (repeat constructor); first | done | fail))⟩) | (exact ⟨_, ⟨rfl, rfl, rfl, rfl, trivial⟩, by exact ⟨fun _ => .inr ⟨(by first | rfl | assumption), by omega⟩, fun _ => rfl⟩, (hS.subP (by (repeat constructor); first | done | fail))⟩) | (exact ⟨_, ⟨rfl, rfl, rfl, rfl, trivial⟩, by exact ⟨fun h => Bool.noConfusion h, fun h => h.elim (fun h => hq6.2 h) (fun h => by obtain ⟨h1, h2⟩ := h; first | (exfalso; omega) | (simp_all; done))⟩, (hS.subP (by (repeat constructor); first | done | fail))⟩))
  dsimp only; clear e0 e3 e18; rintro ρ w1 ⟨q7, hρ, hq7, hS⟩; obtain ⟨ρ, rfl⟩ := env_intro _ hρ
  all_goals (refine s_rets_3 (by (conv => lhs; whnf); first | done | exact rfl) (by (conv => lhs; whnf); first | done | exact rfl) (by (conv => lhs; whnf); first | done | exact rfl) (fail_c (by intro _; decide) hS (NthP.nth (by repeat constructor))) ?_; rintro v1 w1 ⟨rfl, hS⟩; simp only [List.set_cons_zero, List.set_cons_succ, if_true, Bool.false_eq_true, if_false] at hS; refine s_nil ?_; (repeat (first | refine s_then ?_ | refine s_blockN ?_)); refine s_seq ?_; clear hq1 hq2 hq3 hq4 hq5 hq6; have hq := hq7; clear hq7; refine s_ops ?_; (refine s_fld0 rfl ?_); ((refine s_loadB hS rfl (NthP.nth (by repeat constructor)) rfl ?_)); refine s_nil ?_; (repeat (first | refine s_then ?_ | refine s_blockN ?_)); refine s_block ?_; refine s_seq ?_; refine s_ops ?_)
  all_goals (first | (refine s_eql_t rfl rfl (by omega) ?_) | (refine s_eql_f rfl rfl (by omega) ?_) | (refine s_eql_s rfl rfl (fun hc => ?_) (fun hc => ?_)))
  all_goals (refine s_mov (by (conv => lhs; whnf); first | done | exact rfl) ?_; refine s_nil ?_; (repeat (first | refine s_then ?_ | refine s_blockN ?_)))
  all_goals
    first
    | (refine s_cond_t rfl ?_ -- code_judge_ins c0
       all_goals (refine s_ops ?_; refine s_mov (by (conv => lhs; whnf); first | done | exact rfl) ?_; (refine s_fld0 rfl ?_); ((refine s_loadB hS rfl (NthP.nth (by repeat constructor)) rfl ?_)))
       all_goals (first | (refine s_lss_t rfl rfl (by omega) ?_) | (refine s_lss_f rfl rfl (by omega) ?_) | (refine s_lss_s rfl rfl (fun hc => ?_) (fun hc => ?_)))
       all_goals (refine s_mov (by (conv => lhs; whnf); first | done | exact rfl) ?_; (first | refine s_gn rfl rfl ?_ | (refine s_gy rfl ?_; (refine s_fld0 rfl ?_))); (first | refine s_gn rfl rfl ?_ | (refine s_gy rfl ?_; ((refine s_loadB hS rfl (NthP.nth (by repeat constructor)) rfl ?_)))))
       all_goals (first | refine s_gn rfl rfl ?_ | (refine s_gy rfl ?_; (first | (refine s_gtr_t rfl rfl (by omega) ?_) | (refine s_gtr_f rfl rfl (by omega) ?_) | (refine s_gtr_s rfl rfl (fun hc => ?_) (fun hc => ?_)))))
       all_goals ((first | refine s_pick_t rfl (by (conv => lhs; whnf); first | done | exact rfl) ?_ | refine s_pick_f rfl (by (conv => lhs; whnf); first | done | exact rfl) ?_); refine s_rets_3 (by (conv => lhs; whnf); first | done | exact rfl) (by (conv => lhs; whnf); first | done | exact rfl) (by (conv => lhs; whnf); first | done | exact rfl) (fail_c (by intro _; decide) hS (NthP.nth (by repeat constructor))) ?_; rintro v1 w1 ⟨rfl, hS⟩; simp only [List.set_cons_zero, List.set_cons_succ, if_true, Bool.false_eq_true, if_false] at hS)
       all_goals (refine s_nil ?_; (repeat (first | refine s_then ?_ | refine s_blockN ?_))))
    | (refine s_cond_f rfl ?_ -- code_judge_ins c0
       all_goals (refine s_seq ?_; refine s_ops ?_)
       all_goals (first | (refine s_eql_t rfl rfl (by omega) ?_) | (refine s_eql_f rfl rfl (by omega) ?_) | (refine s_eql_s rfl rfl (fun hc => ?_) (fun hc => ?_)))
       all_goals (refine s_mov (by (conv => lhs; whnf); first | done | exact rfl) ?_; refine s_nil ?_; (repeat (first | refine s_then ?_ | refine s_blockN ?_)))
       all_goals
         first
         | (refine s_cond_t rfl ?_ -- code_judge_ins c1
            all_goals (refine s_ops ?_; refine s_mov (by (conv => lhs; whnf); first | done | exact rfl) ?_; (refine s_fld0 rfl ?_); ((refine s_loadB hS rfl (NthP.nth (by repeat constructor)) rfl ?_)); ((refine s_lenL (by (conv => lhs; whnf); first | done | exact rfl) (by assumption) ?_)))
            all_goals (first | (refine s_gtr_t rfl rfl (by omega) ?_) | (refine s_gtr_f rfl rfl (by omega) ?_) | (refine s_gtr_s rfl rfl (fun hc => ?_) (fun hc => ?_)))
            all_goals (refine s_rets_3 (by (conv => lhs; whnf); first | done | exact rfl) (by (conv => lhs; whnf); first | done | exact rfl) (by (conv => lhs; whnf); first | done | exact rfl) (fail_c (by intro _; decide) hS (NthP.nth (by repeat constructor))) ?_; rintro v1 w1 ⟨rfl, hS⟩; simp only [List.set_cons_zero, List.set_cons_succ, if_true, Bool.false_eq_true, if_false] at hS)
            all_goals (refine s_nil ?_; (repeat (first | refine s_then ?_ | refine s_blockN ?_))))
         | (refine s_cond_f rfl ?_ -- code_judge_ins c1
            all_goals (refine s_seq ?_; refine s_seq ?_; refine s_ops ?_)
            all_goals (first | (refine s_eql_t rfl rfl (by omega) ?_) | (refine s_eql_f rfl rfl (by omega) ?_) | (refine s_eql_s rfl rfl (fun hc => ?_) (fun hc => ?_)))
            all_goals (refine s_mov (by (conv => lhs; whnf); first | done | exact rfl) ?_; refine s_nil ?_; (repeat (first | refine s_then ?_ | refine s_blockN ?_)))
            all_goals
              first
              | (refine s_cond_t rfl ?_ -- code_judge_ins c2
                 all_goals (refine s_skip ?_; (repeat (first | refine s_then ?_ | refine s_blockN ?_))))
              | (refine s_cond_f rfl ?_ -- code_judge_ins c2
                 all_goals (refine s_ops ?_)
                 all_goals (first | (refine s_eql_t rfl rfl (by omega) ?_) | (refine s_eql_f rfl rfl (by omega) ?_) | (refine s_eql_s rfl rfl (fun hc => ?_) (fun hc => ?_)))
                 all_goals (refine s_mov (by (conv => lhs; whnf); first | done | exact rfl) ?_)
                 all_goals (refine s_nil ?_; (repeat (first | refine s_then ?_ | refine s_blockN ?_))))
            all_goals
              first
              | (refine s_cond_t rfl ?_ -- code_judge_ins c3
                 all_goals (refine s_ops ?_; refine s_mov (by (conv => lhs; whnf); first | done | exact rfl) ?_; (refine s_fld0 rfl ?_); ((refine s_loadB hS rfl (NthP.nth (by repeat constructor)) rfl ?_)))
                 all_goals (first | (refine s_lss_t rfl rfl (by omega) ?_) | (refine s_lss_f rfl rfl (by omega) ?_) | (refine s_lss_s rfl rfl (fun hc => ?_) (fun hc => ?_)))
                 all_goals (refine s_mov (by (conv => lhs; whnf); first | done | exact rfl) ?_; (first | refine s_gn rfl rfl ?_ | (refine s_gy rfl ?_; (refine s_fld0 rfl ?_))); (first | refine s_gn rfl rfl ?_ | (refine s_gy rfl ?_; ((refine s_loadB hS rfl (NthP.nth (by repeat constructor)) rfl ?_)))))
                 all_goals (first | refine s_gn rfl rfl ?_ | (refine s_gy rfl ?_; (first | (refine s_geq_t rfl rfl (by omega) ?_) | (refine s_geq_f rfl rfl (by omega) ?_) | (refine s_geq_s rfl rfl (fun hc => ?_) (fun hc => ?_)))))
                 all_goals ((first | refine s_pick_t rfl (by (conv => lhs; whnf); first | done | exact rfl) ?_ | refine s_pick_f rfl (by (conv => lhs; whnf); first | done | exact rfl) ?_); refine s_rets_3 (by (conv => lhs; whnf); first | done | exact rfl) (by (conv => lhs; whnf); first | done | exact rfl) (by (conv => lhs; whnf); first | done | exact rfl) (fail_c (by intro _; decide) hS (NthP.nth (by repeat constructor))) ?_; rintro v1 w1 ⟨rfl, hS⟩; simp only [List.set_cons_zero, List.set_cons_succ, if_true, Bool.false_eq_true, if_false] at hS)
                 all_goals (refine s_nil ?_; (repeat (first | refine s_then ?_ | refine s_blockN ?_))))
              | (refine s_cond_f rfl ?_ -- code_judge_ins c3
                 all_goals (refine s_seq ?_; refine s_ops ?_)
                 all_goals (first | (refine s_eql_t rfl rfl (by omega) ?_) | (refine s_eql_f rfl rfl (by omega) ?_) | (refine s_eql_s rfl rfl (fun hc => ?_) (fun hc => ?_)))
                 all_goals (refine s_mov (by (conv => lhs; whnf); first | done | exact rfl) ?_; refine s_nil ?_; (repeat (first | refine s_then ?_ | refine s_blockN ?_)))
                 all_goals
                   first
                   | (refine s_cond_t rfl ?_ -- code_judge_ins c4
                      all_goals (refine s_seq ?_; refine s_draw [(0, none), (1, none), (2, none), (3, none), (4, none), (5, none), (6, none), (7, none), (8, none), (9, none), (10, none), (11, none), (12, none), (13, none), (14, none), (15, some none)] (by kernel_rfl) (by kernel_rfl) ?_; have hS := hS.drew; refine s_mov (by (conv => lhs; whnf); first | done | exact rfl) ?_; (refine s_fld0 rfl ?_); ((refine s_loadB hS rfl (NthP.nth (by repeat constructor)) rfl ?_)))
                      all_goals (first | (refine s_lss_t rfl rfl (by omega) ?_) | (refine s_lss_f rfl rfl (by omega) ?_) | (refine s_lss_s rfl rfl (fun hc => ?_) (fun hc => ?_)))
                      all_goals (refine s_mov (by (conv => lhs; whnf); first | done | exact rfl) ?_; (first | refine s_gn rfl rfl ?_ | (refine s_gy rfl ?_; (refine s_fld0 rfl ?_))); (first | refine s_gn rfl rfl ?_ | (refine s_gy rfl ?_; ((refine s_loadB hS rfl (NthP.nth (by repeat constructor)) rfl ?_)))); (first | refine s_gn rfl rfl ?_ | (refine s_gy rfl ?_; refine s_mov (by (conv => lhs; whnf); first | done | exact rfl) ?_)); (first | refine s_gn rfl rfl ?_ | (refine s_gy rfl ?_; refine s_nilc rfl ?_)); (first | refine s_gn rfl rfl ?_ | (refine s_gy rfl ?_; (refine s_fld0 rfl ?_))); (first | refine s_gn rfl rfl ?_ | (refine s_gy rfl ?_; (refine s_fld0 rfl ?_))); (first | refine s_gn rfl rfl ?_ | (refine s_gy rfl ?_; ((refine s_loadB hS rfl (NthP.nth (by repeat constructor)) rfl ?_)))); (first | refine s_gn rfl rfl ?_ | (refine s_gy rfl ?_; ((refine s_lenL (by (conv => lhs; whnf); first | done | exact rfl) (by assumption) ?_)))))
                      all_goals (first | refine s_gn rfl rfl ?_ | (refine s_gy rfl ?_; (first | (refine s_geq_t rfl rfl (by omega) ?_) | (refine s_geq_f rfl rfl (by omega) ?_) | (refine s_geq_s rfl rfl (fun hc => ?_) (fun hc => ?_)))))
                      all_goals ((first | refine s_pick_t rfl (by (conv => lhs; whnf); first | done | exact rfl) ?_ | refine s_pick_f rfl (by (conv => lhs; whnf); first | done | exact rfl) ?_); refine s_rets_3 (by (conv => lhs; whnf); first | done | exact rfl) (by (conv => lhs; whnf); first | done | exact rfl) (by (conv => lhs; whnf); first | done | exact rfl) (fail_c (by intro _; decide) hS (NthP.nth (by repeat constructor))) ?_; rintro v1 w1 ⟨rfl, hS⟩; simp only [List.set_cons_zero, List.set_cons_succ, if_true, Bool.false_eq_true, if_false] at hS; refine s_nil ?_; (repeat (first | refine s_then ?_ | refine s_blockN ?_)); refine s_ops ?_; refine s_mov (by (conv => lhs; whnf); first | done | exact rfl) ?_; (refine s_fld0 rfl ?_); ((refine s_loadB hS rfl (NthP.nth (by repeat constructor)) rfl ?_)); ((refine s_lenL (by (conv => lhs; whnf); first | done | exact rfl) (by assumption) ?_)))
                      all_goals (first | (refine s_gtr_t rfl rfl (by omega) ?_) | (refine s_gtr_f rfl rfl (by omega) ?_) | (refine s_gtr_s rfl rfl (fun hc => ?_) (fun hc => ?_)))
                      all_goals (refine s_mov (by (conv => lhs; whnf); first | done | exact rfl) ?_; (first | refine s_gn rfl rfl ?_ | (refine s_gy rfl ?_; (refine s_fld0 rfl ?_))); (first | refine s_gn rfl rfl ?_ | (refine s_gy rfl ?_; ((refine s_loadB hS rfl (NthP.nth (by repeat constructor)) rfl ?_)))); (first | refine s_gn rfl rfl ?_ | (refine s_gy rfl ?_; ((refine s_lenL (by (conv => lhs; whnf); first | done | exact rfl) (by assumption) ?_)))))
                      all_goals (first | refine s_gn rfl rfl ?_ | (refine s_gy rfl ?_; (first | (refine s_gtr_t rfl rfl (by omega) ?_) | (refine s_gtr_f rfl rfl (by omega) ?_) | (refine s_gtr_s rfl rfl (fun hc => ?_) (fun hc => ?_)))))
                      all_goals ((first | refine s_pick_t rfl (by (conv => lhs; whnf); first | done | exact rfl) ?_ | refine s_pick_f rfl (by (conv => lhs; whnf); first | done | exact rfl) ?_); refine s_rets_3 (by (conv => lhs; whnf); first | done | exact rfl) (by (conv => lhs; whnf); first | done | exact rfl) (by (conv => lhs; whnf); first | done | exact rfl) (fail_c (by intro _; decide) hS (NthP.nth (by repeat constructor))) ?_; rintro v1 w1 ⟨rfl, hS⟩; simp only [List.set_cons_zero, List.set_cons_succ, if_true, Bool.false_eq_true, if_false] at hS)
                      all_goals (refine s_nil ?_; (repeat (first | refine s_then ?_ | refine s_blockN ?_))))
                   | (refine s_cond_f rfl ?_ -- code_judge_ins c4
                      all_goals (refine s_skip ?_; (repeat (first | refine s_then ?_ | refine s_blockN ?_)))))))
  all_goals (refine q_end0 ?_; refine ⟨_, rfl, rfl, ?_⟩; subst hh; rw [← ins_end (c3 := insKind n.length x) hq rfl]; clear hq hx hr ha hf hsz; have hS := hS.drop; refine St.back ?_ hi; first | (rw [show insKind n.length x = 0 from (by unfold insKind; (repeat (first | rw [if_pos (by omega)] | rw [if_neg (by omega)])))]; first | (rw [mkF_0, orF_r rfl]; exact hS) | exact hS | (rw [orF_mk, orC_0] at hS; exact hS)) | (rw [show insKind n.length x = 1 from (by unfold insKind; (repeat (first | rw [if_pos (by omega)] | rw [if_neg (by omega)])))]; first | exact hS | (rw [orF_mk, orC_1 (by decide)] at hS; exact hS)) | (rw [show insKind n.length x = 2 from (by unfold insKind; (repeat (first | rw [if_pos (by omega)] | rw [if_neg (by omega)])))]; first | exact hS | (rw [orF_mk, orC_0] at hS; exact hS)) | (trace_state; fail "end"))
theorem to_c {x : Fun} {t : To} {is : Bool} {vf : Value} {g : Flt} {at' : Int} {b : Nat} {cs ds : List Value} (hx : funcR.at cx cs x) (ht : toR.at cx ds t) (hS : St cx w L) (hi : nth L i = some (jdg b vf g at')) :
    Rets Try.prog code_judge_to [.pointer (some ⟨b, 0, none⟩), .agg ⟨cs⟩, .agg ⟨ds⟩, .bool is] w fun u w' => u = .tuple #[] ∧ St cx w' (L.set i (jdg b vf (orF g (mkF (toForm x.blocks.length t is) at')) at')) := by
  have hS := hS.out hi
  obtain ⟨vp, vr, vb, rfl, hp, hr, hb⟩ := funcR_out hx
  obtain ⟨v1, v2, rfl, h1, h2⟩ := toR_out ht
  have hlb := hb.len
  have hl1 := h1.len
  have hl2 := h2.len
  cases is with
  | false =>
    all_goals refine code_judge_to_in ?_
    all_goals (unfold code_judge_to_lc; refine s_seq ?_; refine s_ops ?_; refine s_boxB hS (by (conv => lhs; whnf); first | done | exact rfl) (by rfl) ?_; (intro p5 w1 hS); refine s_boxB hS (by (conv => lhs; whnf); first | done | exact rfl) (by rfl) ?_; (intro p6 w1 hS); refine s_nil ?_; (repeat (first | refine s_then ?_ | refine s_blockN ?_)); refine s_seq ?_; refine s_seq ?_; refine s_ops ?_; refine s_mov (by (conv => lhs; whnf); first | done | exact rfl) ?_; refine s_not rfl ?_; refine s_nil ?_; (repeat (first | refine s_then ?_ | refine s_blockN ?_)))
    all_goals refine s_cond_t rfl ?_
    all_goals (refine s_seq ?_; refine s_ops ?_; refine s_mov (by (conv => lhs; whnf); first | done | exact rfl) ?_; (refine s_fld0 rfl ?_); ((refine s_loadB hS rfl (NthP.nth (by repeat constructor)) rfl ?_)))
    all_goals (first | (refine s_neq_t rfl rfl (by omega) ?_) | (refine s_neq_f rfl rfl (by omega) ?_) | (refine s_neq_s rfl rfl (fun hc => ?_) (fun hc => ?_)))
    all_goals (refine s_mov (by (conv => lhs; whnf); first | done | exact rfl) ?_; (first | refine s_gn rfl rfl ?_ | (refine s_gy rfl ?_; (refine s_fld0 rfl ?_))); (first | refine s_gn rfl rfl ?_ | (refine s_gy rfl ?_; ((refine s_loadB hS rfl (NthP.nth (by repeat constructor)) rfl ?_)))); (first | refine s_gn rfl rfl ?_ | (refine s_gy rfl ?_; ((refine s_lenL (by (conv => lhs; whnf); first | done | exact rfl) (by assumption) ?_)))))
    all_goals (first | refine s_gn rfl rfl ?_ | (refine s_gy rfl ?_; (first | (refine s_gtr_t rfl rfl (by omega) ?_) | (refine s_gtr_f rfl rfl (by omega) ?_) | (refine s_gtr_s rfl rfl (fun hc => ?_) (fun hc => ?_)))))
    all_goals ((first | refine s_pick_t rfl (by (conv => lhs; whnf); first | done | exact rfl) ?_ | refine s_pick_f rfl (by (conv => lhs; whnf); first | done | exact rfl) ?_); refine s_mov (by (conv => lhs; whnf); first | done | exact rfl) ?_; (first | refine s_gn rfl rfl ?_ | (refine s_gy rfl ?_; (refine s_fld0 rfl ?_))); (first | refine s_gn rfl rfl ?_ | (refine s_gy rfl ?_; ((refine s_loadB hS rfl (NthP.nth (by repeat constructor)) rfl ?_)))); (first | refine s_gn rfl rfl ?_ | (refine s_gy rfl ?_; ((refine s_lenL (by (conv => lhs; whnf); first | done | exact rfl) (by assumption) ?_)))))
    all_goals (first | refine s_gn rfl rfl ?_ | (refine s_gy rfl ?_; (first | (refine s_gtr_t rfl rfl (by omega) ?_) | (refine s_gtr_f rfl rfl (by omega) ?_) | (refine s_gtr_s rfl rfl (fun hc => ?_) (fun hc => ?_)))))
    all_goals ((first | refine s_pick_t rfl (by (conv => lhs; whnf); first | done | exact rfl) ?_ | refine s_pick_f rfl (by (conv => lhs; whnf); first | done | exact rfl) ?_); refine s_rets_3 (by (conv => lhs; whnf); first | done | exact rfl) (by (conv => lhs; whnf); first | done | exact rfl) (by (conv => lhs; whnf); first | done | exact rfl) (fail_c (by intro _; decide) hS (NthP.nth (by repeat constructor))) ?_; rintro v1 w1 ⟨rfl, hS⟩; simp only [List.set_cons_zero, List.set_cons_succ, if_true, Bool.false_eq_true, if_false] at hS; refine s_nil ?_; (repeat (first | refine s_then ?_ | refine s_blockN ?_)); refine s_ret ?_; (repeat (first | refine s_retT ?_ | refine s_retB ?_)); refine q_ret0 ?_; ((refine ⟨_, rfl, rfl, ?_⟩; have hS := hS.drop.drop; refine St.back ?_ hi; first | (rw [show toForm x.blocks.length t false = 4 from (by unfold toForm; rw [if_pos rfl, if_pos (by omega)])]; exact hS) | (rw [show toForm x.blocks.length t false = 0 from (by unfold toForm; rw [if_pos rfl, if_neg (by omega)])]; exact hS))))
  | true =>
    all_goals refine code_judge_to_in ?_
    all_goals (unfold code_judge_to_lc; refine s_seq ?_; refine s_ops ?_; refine s_boxB hS (by (conv => lhs; whnf); first | done | exact rfl) (by rfl) ?_; (intro p5 w1 hS); refine s_boxB hS (by (conv => lhs; whnf); first | done | exact rfl) (by rfl) ?_; (intro p6 w1 hS); refine s_nil ?_; (repeat (first | refine s_then ?_ | refine s_blockN ?_)); refine s_seq ?_; refine s_seq ?_; refine s_ops ?_; refine s_mov (by (conv => lhs; whnf); first | done | exact rfl) ?_; refine s_not rfl ?_; refine s_nil ?_; (repeat (first | refine s_then ?_ | refine s_blockN ?_)))
    all_goals refine s_cond_f rfl ?_
    all_goals (refine s_skip ?_; (repeat (first | refine s_then ?_ | refine s_blockN ?_)); refine s_seq ?_; refine s_ops ?_; refine s_mov (by (conv => lhs; whnf); first | done | exact rfl) ?_; (refine s_fld0 rfl ?_); ((refine s_loadB hS rfl (NthP.nth (by repeat constructor)) rfl ?_)))
    all_goals (first | (refine s_lss_t rfl rfl (by omega) ?_) | (refine s_lss_f rfl rfl (by omega) ?_) | (refine s_lss_s rfl rfl (fun hc => ?_) (fun hc => ?_)))
    all_goals (refine s_mov (by (conv => lhs; whnf); first | done | exact rfl) ?_; (first | refine s_gn rfl rfl ?_ | (refine s_gy rfl ?_; (refine s_fld0 rfl ?_))); (first | refine s_gn rfl rfl ?_ | (refine s_gy rfl ?_; ((refine s_loadB hS rfl (NthP.nth (by repeat constructor)) rfl ?_)))); (first | refine s_gn rfl rfl ?_ | (refine s_gy rfl ?_; (refine s_fld0 rfl ?_))); (first | refine s_gn rfl rfl ?_ | (refine s_gy rfl ?_; ((refine s_loadB hS rfl (NthP.nth (by repeat constructor)) rfl ?_)))); (first | refine s_gn rfl rfl ?_ | (refine s_gy rfl ?_; ((refine s_lenL (by (conv => lhs; whnf); first | done | exact rfl) (by assumption) ?_)))))
    all_goals (first | refine s_gn rfl rfl ?_ | (refine s_gy rfl ?_; (first | (refine s_geq_t rfl rfl (by omega) ?_) | (refine s_geq_f rfl rfl (by omega) ?_) | (refine s_geq_s rfl rfl (fun hc => ?_) (fun hc => ?_)))))
    all_goals ((first | refine s_pick_t rfl (by (conv => lhs; whnf); first | done | exact rfl) ?_ | refine s_pick_f rfl (by (conv => lhs; whnf); first | done | exact rfl) ?_); refine s_rets_3 (by (conv => lhs; whnf); first | done | exact rfl) (by (conv => lhs; whnf); first | done | exact rfl) (by (conv => lhs; whnf); first | done | exact rfl) (fail_c (by intro _; decide) hS (NthP.nth (by repeat constructor))) ?_; rintro v1 w1 ⟨rfl, hS⟩; simp only [List.set_cons_zero, List.set_cons_succ, if_true, Bool.false_eq_true, if_false] at hS; refine s_nil ?_; (repeat (first | refine s_then ?_ | refine s_blockN ?_)); refine s_ops ?_; refine s_mov (by (conv => lhs; whnf); first | done | exact rfl) ?_; (refine s_fld0 rfl ?_); ((refine s_loadB hS rfl (NthP.nth (by repeat constructor)) rfl ?_)); ((refine s_lenL (by (conv => lhs; whnf); first | done | exact rfl) (by assumption) ?_)))
    all_goals (first | (refine s_gtr_t rfl rfl (by omega) ?_) | (refine s_gtr_f rfl rfl (by omega) ?_) | (refine s_gtr_s rfl rfl (fun hc => ?_) (fun hc => ?_)))
    all_goals (refine s_mov (by (conv => lhs; whnf); first | done | exact rfl) ?_; (first | refine s_gn rfl rfl ?_ | (refine s_gy rfl ?_; (refine s_fld0 rfl ?_))); (first | refine s_gn rfl rfl ?_ | (refine s_gy rfl ?_; ((refine s_loadB hS rfl (NthP.nth (by repeat constructor)) rfl ?_)))); (first | refine s_gn rfl rfl ?_ | (refine s_gy rfl ?_; ((refine s_lenL (by (conv => lhs; whnf); first | done | exact rfl) (by assumption) ?_)))))
    all_goals (first | refine s_gn rfl rfl ?_ | (refine s_gy rfl ?_; (first | (refine s_gtr_t rfl rfl (by omega) ?_) | (refine s_gtr_f rfl rfl (by omega) ?_) | (refine s_gtr_s rfl rfl (fun hc => ?_) (fun hc => ?_)))))
    all_goals ((first | refine s_pick_t rfl (by (conv => lhs; whnf); first | done | exact rfl) ?_ | refine s_pick_f rfl (by (conv => lhs; whnf); first | done | exact rfl) ?_); refine s_rets_3 (by (conv => lhs; whnf); first | done | exact rfl) (by (conv => lhs; whnf); first | done | exact rfl) (by (conv => lhs; whnf); first | done | exact rfl) (fail_c (by intro _; decide) hS (NthP.nth (by repeat constructor))) ?_; rintro v1 w1 ⟨rfl, hS⟩; simp only [List.set_cons_zero, List.set_cons_succ, if_true, Bool.false_eq_true, if_false] at hS; refine s_nil ?_; (repeat (first | refine s_then ?_ | refine s_blockN ?_)); refine q_end0 ?_; refine ⟨_, rfl, rfl, ?_⟩; have hS := hS.drop.drop; rw [orF_mk] at hS; refine St.back ?_ hi; first | (rw [show toForm x.blocks.length t true = 1 from (by unfold toForm; rw [if_neg Bool.noConfusion, if_pos (by omega)])]; rw [orC_1 (by decide)] at hS; exact hS) | (rw [show toForm x.blocks.length t true = 2 from (by unfold toForm; rw [if_neg Bool.noConfusion, if_neg (by omega), if_pos (by omega)])]; rw [orC_0] at hS; exact hS) | (rw [show toForm x.blocks.length t true = 0 from (by unfold toForm; rw [if_neg Bool.noConfusion, if_neg (by omega), if_neg (by omega)])]; rw [orC_0] at hS; exact hS))
theorem end_sum {g : Flt} {at' : Int} {n : Nat} {e : Tail} : orF (orF (orF (orF (orF g (mkF (if e.op < 1 ∨ 3 < e.op then 3 else 0) at')) (mkF (if e.op ≠ 2 ∧ e.a ≠ 0 ∨ e.op ≠ 3 ∧ 0 < e.args.length then 4 else 0) at')) (mkF (if 8 < e.args.length then 2 else 0) at')) (mkF (toForm n e.yes (decide (e.op ≠ 3))) at')) (mkF (toForm n e.no (decide (e.op = 2))) at') = orF g (mkF (endForm n e) at') := by
  rw [orF_mk, orF_mk, orF_mk, orF_mk]
  congr 2
  unfold endForm
  split
  · simp only [orC_1 (show (3 : Int) ≠ 0 by decide)]
  · rw [orC_0]
    split
    · simp only [orC_1 (show (4 : Int) ≠ 0 by decide)]
    · rw [orC_0]
      split
      · simp only [orC_1 (show (2 : Int) ≠ 0 by decide)]
      · rw [orC_0]
theorem end_c {x : Fun} {e : Tail} {vf : Value} {g : Flt} {at' : Int} {b : Nat} {cs ds : List Value} (hx : funcR.at cx cs x) (he : endR.at cx ds e) (hS : St cx w L) (hi : nth L i = some (jdg b vf g at')) :
    Rets Try.prog code_judge_end [.pointer (some ⟨b, 0, none⟩), .agg ⟨cs⟩, .agg ⟨ds⟩] w fun u w' => u = .tuple #[] ∧ St cx w' (L.set i (jdg b vf (orF g (mkF (endForm x.blocks.length e) at')) at')) := by
  have hS := hS.out hi
  obtain ⟨vp, vr, vb, rfl, hp, hr, hb⟩ := funcR_out hx
  obtain ⟨v1, v2, v3, v4, v5, rfl, h1, h2, h3, h4, h5⟩ := endR_out he
  have hl5 := h5.len
  all_goals refine code_judge_end_in ?_
  all_goals (unfold code_judge_end_lc; refine s_seq ?_; refine s_ops ?_; refine s_boxB hS (by (conv => lhs; whnf); first | done | exact rfl) (by rfl) ?_; (intro p4 w1 hS); refine s_boxB hS (by (conv => lhs; whnf); first | done | exact rfl) (by rfl) ?_; (intro p5 w1 hS); refine s_nil ?_; (repeat (first | refine s_then ?_ | refine s_blockN ?_)))
  refine s_ask (i := 0) (by (conv => lhs; whnf); first | done | exact rfl) (fun e0 => ?_)
  refine s_ask (i := 4) (by (conv => lhs; whnf); first | done | exact rfl) (fun e4 => ?_)
  refine s_ask (i := 5) (by (conv => lhs; whnf); first | done | exact rfl) (fun e5 => ?_)
  refine s_mid ((fun {xx0 V0 : Value} (_ : xx0 = V0) {xx4 V4 : Value} (_ : xx4 = V4) {xx5 V5 : Value} (_ : xx5 = V5) => (fun ρ' w' => Has ρ' [(0, V0), (4, V4), (5, V5)] ∧ St cx w' (blk p5 35 [.int .i64 e.op, .int .i64 e.a, .int .i64 e.yes.block, v1, v2, .int .i64 e.no.block, v3, v4, v5] :: blk p4 31 [.int .i64 x.regs, vp, vr, vb] :: jdg b vf (orF g (mkF (if e.op < 1 ∨ 3 < e.op then 3 else 0) at')) at' :: L.eraseIdx i) : Env → World → Prop)) e0 e4 e5) ?_ ?_
  · skip
    all_goals (refine s_ops ?_; refine s_mov (by (conv => lhs; whnf); first | done | exact rfl) ?_; (refine s_fld0 rfl ?_); ((refine s_loadB hS rfl (NthP.nth (by repeat constructor)) rfl ?_)))
    all_goals (first | (refine s_lss_t rfl rfl (by omega) ?_) | (refine s_lss_f rfl rfl (by omega) ?_) | (refine s_lss_s rfl rfl (fun hc => ?_) (fun hc => ?_)))
    all_goals (refine s_mov (by (conv => lhs; whnf); first | done | exact rfl) ?_; (first | refine s_gn rfl rfl ?_ | (refine s_gy rfl ?_; (refine s_fld0 rfl ?_))); (first | refine s_gn rfl rfl ?_ | (refine s_gy rfl ?_; ((refine s_loadB hS rfl (NthP.nth (by repeat constructor)) rfl ?_)))))
    all_goals (first | refine s_gn rfl rfl ?_ | (refine s_gy rfl ?_; (first | (refine s_gtr_t rfl rfl (by omega) ?_) | (refine s_gtr_f rfl rfl (by omega) ?_) | (refine s_gtr_s rfl rfl (fun hc => ?_) (fun hc => ?_)))))
    all_goals ((first | refine s_pick_t rfl (by (conv => lhs; whnf); first | done | exact rfl) ?_ | refine s_pick_f rfl (by (conv => lhs; whnf); first | done | exact rfl) ?_); refine s_rets_3 (by (conv => lhs; whnf); first | done | exact rfl) (by (conv => lhs; whnf); first | done | exact rfl) (by (conv => lhs; whnf); first | done | exact rfl) (fail_c (by intro _; decide) hS (NthP.nth (by repeat constructor))) ?_; rintro v1 w1 ⟨rfl, hS⟩; simp only [List.set_cons_zero, List.set_cons_succ, if_true, Bool.false_eq_true, if_false] at hS; refine s_nil ?_; (repeat (first | refine s_then ?_ | refine s_blockN ?_)); ((exact ⟨⟨rfl, rfl, rfl, trivial⟩, by first | (rw [if_pos (by omega)]; exact (hS.subP (by (repeat constructor); first | done | fail))) | (rw [if_neg (by omega)]; exact (hS.subP (by (repeat constructor); first | done | fail)))⟩)))
  dsimp only; clear e0 e4 e5; rintro ρ w1 ⟨hρ, hS⟩; obtain ⟨ρ, rfl⟩ := env_intro _ hρ
  refine s_ask (i := 0) (by (conv => lhs; whnf); first | done | exact rfl) (fun e0 => ?_)
  refine s_ask (i := 4) (by (conv => lhs; whnf); first | done | exact rfl) (fun e4 => ?_)
  refine s_ask (i := 5) (by (conv => lhs; whnf); first | done | exact rfl) (fun e5 => ?_)
  refine s_mid ((fun {xx0 V0 : Value} (_ : xx0 = V0) {xx4 V4 : Value} (_ : xx4 = V4) {xx5 V5 : Value} (_ : xx5 = V5) => (fun ρ' w' => Has ρ' [(0, V0), (4, V4), (5, V5)] ∧ St cx w' (blk p5 35 [.int .i64 e.op, .int .i64 e.a, .int .i64 e.yes.block, v1, v2, .int .i64 e.no.block, v3, v4, v5] :: blk p4 31 [.int .i64 x.regs, vp, vr, vb] :: jdg b vf (orF (orF g (mkF (if e.op < 1 ∨ 3 < e.op then 3 else 0) at')) (mkF (if e.op ≠ 2 ∧ e.a ≠ 0 ∨ e.op ≠ 3 ∧ 0 < e.args.length then 4 else 0) at')) at' :: L.eraseIdx i) : Env → World → Prop)) e0 e4 e5) ?_ ?_
  · skip
    all_goals (refine s_ops ?_; refine s_mov (by (conv => lhs; whnf); first | done | exact rfl) ?_; (refine s_fld0 rfl ?_); ((refine s_loadB hS rfl (NthP.nth (by repeat constructor)) rfl ?_)))
    all_goals (first | (refine s_neq_t rfl rfl (by omega) ?_) | (refine s_neq_f rfl rfl (by omega) ?_) | (refine s_neq_s rfl rfl (fun hc => ?_) (fun hc => ?_)))
    all_goals (refine s_mov (by (conv => lhs; whnf); first | done | exact rfl) ?_; (first | refine s_gn rfl rfl ?_ | (refine s_gy rfl ?_; (refine s_fld0 rfl ?_))); (first | refine s_gn rfl rfl ?_ | (refine s_gy rfl ?_; ((refine s_loadB hS rfl (NthP.nth (by repeat constructor)) rfl ?_)))))
    all_goals (first | refine s_gn rfl rfl ?_ | (refine s_gy rfl ?_; (first | (refine s_neq_t rfl rfl (by omega) ?_) | (refine s_neq_f rfl rfl (by omega) ?_) | (refine s_neq_s rfl rfl (fun hc => ?_) (fun hc => ?_)))))
    all_goals ((first | refine s_pick_t rfl (by (conv => lhs; whnf); first | done | exact rfl) ?_ | refine s_pick_f rfl (by (conv => lhs; whnf); first | done | exact rfl) ?_); refine s_mov (by (conv => lhs; whnf); first | done | exact rfl) ?_; (first | refine s_gn rfl rfl ?_ | (refine s_gy rfl ?_; (refine s_fld0 rfl ?_))); (first | refine s_gn rfl rfl ?_ | (refine s_gy rfl ?_; ((refine s_loadB hS rfl (NthP.nth (by repeat constructor)) rfl ?_)))))
    all_goals (first | refine s_gn rfl rfl ?_ | (refine s_gy rfl ?_; (first | (refine s_neq_t rfl rfl (by omega) ?_) | (refine s_neq_f rfl rfl (by omega) ?_) | (refine s_neq_s rfl rfl (fun hc => ?_) (fun hc => ?_)))))
    all_goals ((first | refine s_gn rfl rfl ?_ | (refine s_gy rfl ?_; refine s_mov (by (conv => lhs; whnf); first | done | exact rfl) ?_)); (first | refine s_gn rfl rfl ?_ | (refine s_gy rfl ?_; (refine s_fld0 rfl ?_))); (first | refine s_gn rfl rfl ?_ | (refine s_gy rfl ?_; ((refine s_loadB hS rfl (NthP.nth (by repeat constructor)) rfl ?_)))); (first | refine s_gn rfl rfl ?_ | (refine s_gy rfl ?_; ((refine s_lenL (by (conv => lhs; whnf); first | done | exact rfl) (by assumption) ?_)))))
    all_goals (first | refine s_gn rfl rfl ?_ | (refine s_gy rfl ?_; (first | (refine s_gtr_t rfl rfl (by omega) ?_) | (refine s_gtr_f rfl rfl (by omega) ?_) | (refine s_gtr_s rfl rfl (fun hc => ?_) (fun hc => ?_)))))
    all_goals ((first | refine s_gn rfl rfl ?_ | (refine s_gy rfl ?_; (first | refine s_pick_t rfl (by (conv => lhs; whnf); first | done | exact rfl) ?_ | refine s_pick_f rfl (by (conv => lhs; whnf); first | done | exact rfl) ?_))); (first | refine s_pick_t rfl (by (conv => lhs; whnf); first | done | exact rfl) ?_ | refine s_pick_f rfl (by (conv => lhs; whnf); first | done | exact rfl) ?_); refine s_rets_3 (by (conv => lhs; whnf); first | done | exact rfl) (by (conv => lhs; whnf); first | done | exact rfl) (by (conv => lhs; whnf); first | done | exact rfl) (fail_c (by intro _; decide) hS (NthP.nth (by repeat constructor))) ?_; rintro v1 w1 ⟨rfl, hS⟩; simp only [List.set_cons_zero, List.set_cons_succ, if_true, Bool.false_eq_true, if_false] at hS; refine s_nil ?_; (repeat (first | refine s_then ?_ | refine s_blockN ?_)); ((exact ⟨⟨rfl, rfl, rfl, trivial⟩, by first | (rw [if_pos (c := e.op ≠ 2 ∧ e.a ≠ 0 ∨ e.op ≠ 3 ∧ 0 < e.args.length) (by omega)]; exact (hS.subP (by (repeat constructor); first | done | fail))) | (rw [if_neg (c := e.op ≠ 2 ∧ e.a ≠ 0 ∨ e.op ≠ 3 ∧ 0 < e.args.length) (by omega)]; exact (hS.subP (by (repeat constructor); first | done | fail)))⟩)))
  dsimp only; clear e0 e4 e5; rintro ρ w1 ⟨hρ, hS⟩; obtain ⟨ρ, rfl⟩ := env_intro _ hρ
  refine s_ask (i := 0) (by (conv => lhs; whnf); first | done | exact rfl) (fun e0 => ?_)
  refine s_ask (i := 4) (by (conv => lhs; whnf); first | done | exact rfl) (fun e4 => ?_)
  refine s_ask (i := 5) (by (conv => lhs; whnf); first | done | exact rfl) (fun e5 => ?_)
  refine s_mid ((fun {xx0 V0 : Value} (_ : xx0 = V0) {xx4 V4 : Value} (_ : xx4 = V4) {xx5 V5 : Value} (_ : xx5 = V5) => (fun ρ' w' => Has ρ' [(0, V0), (4, V4), (5, V5)] ∧ St cx w' (blk p5 35 [.int .i64 e.op, .int .i64 e.a, .int .i64 e.yes.block, v1, v2, .int .i64 e.no.block, v3, v4, v5] :: blk p4 31 [.int .i64 x.regs, vp, vr, vb] :: jdg b vf (orF (orF (orF g (mkF (if e.op < 1 ∨ 3 < e.op then 3 else 0) at')) (mkF (if e.op ≠ 2 ∧ e.a ≠ 0 ∨ e.op ≠ 3 ∧ 0 < e.args.length then 4 else 0) at')) (mkF (if 8 < e.args.length then 2 else 0) at')) at' :: L.eraseIdx i) : Env → World → Prop)) e0 e4 e5) ?_ ?_
  · skip
    all_goals (refine s_ops ?_; refine s_mov (by (conv => lhs; whnf); first | done | exact rfl) ?_; (refine s_fld0 rfl ?_); ((refine s_loadB hS rfl (NthP.nth (by repeat constructor)) rfl ?_)); ((refine s_lenL (by (conv => lhs; whnf); first | done | exact rfl) (by assumption) ?_)))
    all_goals (first | (refine s_gtr_t rfl rfl (by omega) ?_) | (refine s_gtr_f rfl rfl (by omega) ?_) | (refine s_gtr_s rfl rfl (fun hc => ?_) (fun hc => ?_)))
    all_goals (refine s_rets_3 (by (conv => lhs; whnf); first | done | exact rfl) (by (conv => lhs; whnf); first | done | exact rfl) (by (conv => lhs; whnf); first | done | exact rfl) (fail_c (by intro _; decide) hS (NthP.nth (by repeat constructor))) ?_; rintro v1 w1 ⟨rfl, hS⟩; simp only [List.set_cons_zero, List.set_cons_succ, if_true, Bool.false_eq_true, if_false] at hS; refine s_nil ?_; (repeat (first | refine s_then ?_ | refine s_blockN ?_)); ((exact ⟨⟨rfl, rfl, rfl, trivial⟩, by first | (rw [if_pos (c := 8 < e.args.length) (by omega)]; exact (hS.subP (by (repeat constructor); first | done | fail))) | (rw [if_neg (c := 8 < e.args.length) (by omega)]; exact (hS.subP (by (repeat constructor); first | done | fail)))⟩)))
  dsimp only; clear e0 e4 e5; rintro ρ w1 ⟨hρ, hS⟩; obtain ⟨ρ, rfl⟩ := env_intro _ hρ
  all_goals (refine s_seq ?_; refine s_ops ?_; refine s_mov (by (conv => lhs; whnf); first | done | exact rfl) ?_; ((refine s_loadnB hS rfl (NthP.nth (by repeat constructor)) rfl rfl ?_)); (refine s_fld0 rfl ?_); ((refine s_loadnB hS rfl (NthP.nth (by repeat constructor)) rfl rfl ?_)); (refine s_fld0 rfl ?_); ((refine s_loadB hS rfl (NthP.nth (by repeat constructor)) rfl ?_)); refine s_neq_d rfl rfl ?_; refine s_rets_4 (by (conv => lhs; whnf); first | done | exact rfl) (by (conv => lhs; whnf); first | done | exact rfl) (by (conv => lhs; whnf); first | done | exact rfl) (by (conv => lhs; whnf); first | done | exact rfl) (to_c (t := e.yes) hx ⟨_, _, rfl, h1, h2⟩ hS (NthP.nth (by repeat constructor))) ?_; rintro v1 w1 ⟨rfl, hS⟩; simp only [List.set_cons_zero, List.set_cons_succ] at hS; refine s_nil ?_; (repeat (first | refine s_then ?_ | refine s_blockN ?_)); refine s_ops ?_; refine s_mov (by (conv => lhs; whnf); first | done | exact rfl) ?_; ((refine s_loadnB hS rfl (NthP.nth (by repeat constructor)) rfl rfl ?_)); (refine s_fld0 rfl ?_))
  all_goals (((refine s_loadnB hS rfl (NthP.nth (by repeat constructor)) rfl rfl ?_)); (refine s_fld0 rfl ?_); ((refine s_loadB hS rfl (NthP.nth (by repeat constructor)) rfl ?_)); refine s_eql_d rfl rfl ?_; refine s_rets_4 (by (conv => lhs; whnf); first | done | exact rfl) (by (conv => lhs; whnf); first | done | exact rfl) (by (conv => lhs; whnf); first | done | exact rfl) (by (conv => lhs; whnf); first | done | exact rfl) (to_c (t := e.no) hx ⟨_, _, rfl, h3, h4⟩ hS (NthP.nth (by repeat constructor))) ?_; rintro v1 w1 ⟨rfl, hS⟩; simp only [List.set_cons_zero, List.set_cons_succ] at hS; refine s_nil ?_; (repeat (first | refine s_then ?_ | refine s_blockN ?_)); refine q_end0 ?_; refine ⟨_, rfl, rfl, ?_⟩; rw [end_sum] at hS; exact St.back hS.drop.drop hi)
end
end Go.Proofs.Ytanlkfeogoganaa
