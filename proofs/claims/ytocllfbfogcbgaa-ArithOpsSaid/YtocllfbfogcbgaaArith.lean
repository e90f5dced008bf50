/- Arithmetic: what the functions of the program and of the references compute. -/
import Derived.Test.YtocllfbfogcbgaaLc01
import Derived.Test.YtocllfbfogcbgaaLirApp
namespace Go.Proofs.Ytocllfbfogcbgaa
open Go.Lir
attribute [local irreducible] LC.wp opsWp thenQ blockQ retQ resWp LO.wp callPost Calls

def inI (n : Int) : Prop := -9223372036854775808 ≤ n ∧ n ≤ 9223372036854775807
abbrev wr (n : Int) : Int := IntKind.i64.wrap n

theorem wf_inI {n : Int} (h : (Lit.int .i64 n).wf = true) : inI n := by
  simpa [inI, Lit.wf, IntKind.min, IntKind.max, IntKind.signed, IntKind.bits] using h

theorem truth_c (b : Bool) (w : World) : Rets Try.prog arith_truth [.bool b] w fun v w' => v = .int .i64 (if b then 1 else 0) ∧ w' = w := by
  cases b
  all_goals
    refine arith_truth_in ?_
    unfold arith_truth_lc
    all_goals (refine s_seq ?_; refine s_ops ?_; refine s_mov (by conv => lhs; whnf) ?_; refine s_nil ?_; (repeat (first | refine s_then ?_ | refine s_blockN ?_)); refine s_seq ?_; refine s_seq ?_; refine s_ops ?_; refine s_mov (by conv => lhs; whnf) ?_; refine s_nil ?_; (repeat (first | refine s_then ?_ | refine s_blockN ?_)))
    all_goals
      first
      | (refine s_cond_t rfl ?_
         all_goals (refine s_seq ?_; refine s_ops ?_; refine s_mov (by conv => lhs; whnf) ?_; refine s_nil ?_; (repeat (first | refine s_then ?_ | refine s_blockN ?_)); refine s_ret ?_; (repeat (first | refine s_retT ?_ | refine s_retB ?_)); refine q_ret1 (by conv => lhs; whnf) ?_)
         all_goals (exact ⟨_, rfl, rfl, rfl⟩))
      | (refine s_cond_f rfl ?_
         all_goals (refine s_skip ?_; (repeat (first | refine s_then ?_ | refine s_blockN ?_))))
    all_goals (refine s_seq ?_; refine s_ops ?_; refine s_mov (by conv => lhs; whnf) ?_; refine s_nil ?_; (repeat (first | refine s_then ?_ | refine s_blockN ?_)); refine s_ret ?_; (repeat (first | refine s_retT ?_ | refine s_retB ?_)); refine q_ret1 (by conv => lhs; whnf) ?_; exact ⟨_, rfl, rfl, rfl⟩)

def divF (a b : Int) : Int × Bool := if b = 0 then (0, false) else if b = -1 then (wr (0 - a), true) else (wr (a.tdiv b), true)
theorem divide_c (a b : Int) (w : World) : Rets Try.prog arith_divide [.int .i64 a, .int .i64 b] w fun v w' => v = .tuple #[.int .i64 (divF a b).1, .bool (divF a b).2] ∧ w' = w := by
  refine arith_divide_in ?_
  unfold arith_divide_lc
  all_goals (refine s_seq ?_; refine s_ops ?_; refine s_mov (by conv => lhs; whnf) ?_; refine s_mov (by conv => lhs; whnf) ?_; refine s_nil ?_; (repeat (first | refine s_then ?_ | refine s_blockN ?_)); refine s_seq ?_; refine s_seq ?_; refine s_ops ?_; refine s_mov (by conv => lhs; whnf) ?_; refine s_nil ?_; (repeat (first | refine s_then ?_ | refine s_blockN ?_)); refine s_block ?_; refine s_seq ?_; refine s_ops ?_)
  all_goals (first | (refine s_eql_t rfl rfl (by omega) ?_) | (refine s_eql_f rfl rfl (by omega) ?_) | (refine s_eql_s rfl rfl (fun hc => ?_) (fun hc => ?_)))
  all_goals (refine s_mov (by conv => lhs; whnf) ?_; refine s_nil ?_; (repeat (first | refine s_then ?_ | refine s_blockN ?_)))
  all_goals
    first
    | (refine s_cond_t rfl ?_
       all_goals (refine s_seq ?_; refine s_ops ?_; refine s_mov (by conv => lhs; whnf) ?_; refine s_mov (by conv => lhs; whnf) ?_; refine s_nil ?_; (repeat (first | refine s_then ?_ | refine s_blockN ?_)); refine s_ret ?_; (repeat (first | refine s_retT ?_ | refine s_retB ?_)); refine q_ret2 (by conv => lhs; whnf) (by conv => lhs; whnf) ?_)
       all_goals (exact ⟨_, rfl, by simp [divF, *], rfl⟩))
    | (refine s_cond_f rfl ?_
       all_goals (refine s_seq ?_; refine s_ops ?_)
       all_goals (first | (refine s_eql_t rfl rfl (by omega) ?_) | (refine s_eql_f rfl rfl (by omega) ?_) | (refine s_eql_s rfl rfl (fun hc => ?_) (fun hc => ?_)))
       all_goals (refine s_mov (by conv => lhs; whnf) ?_; refine s_nil ?_; (repeat (first | refine s_then ?_ | refine s_blockN ?_)))
       all_goals
         first
         | (refine s_cond_t rfl ?_
            all_goals (refine s_seq ?_; refine s_ops ?_; refine s_mov (by conv => lhs; whnf) ?_; refine s_neg rfl ?_; refine s_mov (by conv => lhs; whnf) ?_; refine s_mov (by conv => lhs; whnf) ?_; refine s_nil ?_; (repeat (first | refine s_then ?_ | refine s_blockN ?_)); refine s_ret ?_; (repeat (first | refine s_retT ?_ | refine s_retB ?_)); refine q_ret2 (by conv => lhs; whnf) (by conv => lhs; whnf) ?_)
            all_goals (exact ⟨_, rfl, by simp [divF, *], rfl⟩))
         | (refine s_cond_f rfl ?_
            all_goals (refine s_skip ?_; (repeat (first | refine s_then ?_ | refine s_blockN ?_)))))
  all_goals (refine s_seq ?_; refine s_ops ?_; refine s_mov (by conv => lhs; whnf) ?_; refine s_mov (by conv => lhs; whnf) ?_; refine s_quo rfl rfl (by omega) ?_; refine s_mov (by conv => lhs; whnf) ?_; refine s_mov (by conv => lhs; whnf) ?_; refine s_nil ?_; (repeat (first | refine s_then ?_ | refine s_blockN ?_)); refine s_ret ?_; (repeat (first | refine s_retT ?_ | refine s_retB ?_)); refine q_ret2 (by conv => lhs; whnf) (by conv => lhs; whnf) ?_; exact ⟨_, rfl, by simp [divF, *], rfl⟩)

def opF (k a b : Int) : Int × Bool :=
  if k = 1 then (wr (a + b), true) else if k = 2 then (wr (a - b), true) else if k = 3 then (wr (a * b), true)
  else if k = 4 then divF a b else if k = 5 then (if (divF a b).2 then (wr (a - wr ((divF a b).1 * b)), true) else (0, false))
  else if k = 6 then (if a < b then 1 else 0, true) else if k = 7 then (if a = b then 1 else 0, true) else if k = 8 then (bitI .and .i64 a b, true) else if k = 9 then (bitI .xor .i64 a b, true) else (0, false)
set_option maxHeartbeats 1000000 in
theorem op_c (k a b : Int) (w : World) : Rets Try.prog arith_Op [.int .i64 k, .int .i64 a, .int .i64 b] w fun v w' => v = .tuple #[.int .i64 (opF k a b).1, .bool (opF k a b).2] ∧ w' = w := by
  cases hd : (divF a b).2
  all_goals
    refine arith_Op_in ?_
    unfold arith_Op_lc
    all_goals (refine s_seq ?_; refine s_ops ?_; refine s_mov (by conv => lhs; whnf) ?_; refine s_mov (by conv => lhs; whnf) ?_; refine s_nil ?_; (repeat (first | refine s_then ?_ | refine s_blockN ?_)); refine s_seq ?_; refine s_seq ?_; refine s_ops ?_; refine s_mov (by conv => lhs; whnf) ?_; refine s_nil ?_; (repeat (first | refine s_then ?_ | refine s_blockN ?_)); refine s_block ?_; refine s_seq ?_; refine s_ops ?_)
    all_goals (first | (refine s_eql_t rfl rfl (by omega) ?_) | (refine s_eql_f rfl rfl (by omega) ?_) | (refine s_eql_s rfl rfl (fun hc => ?_) (fun hc => ?_)))
    all_goals (refine s_mov (by conv => lhs; whnf) ?_; refine s_nil ?_; (repeat (first | refine s_then ?_ | refine s_blockN ?_)))
    all_goals
      first
      | (refine s_cond_t rfl ?_
         all_goals (refine s_seq ?_; refine s_ops ?_; refine s_mov (by conv => lhs; whnf) ?_; refine s_mov (by conv => lhs; whnf) ?_; (first | (refine s_addw rfl rfl ?_) | (refine s_subiw rfl rfl ?_) | (refine s_mulw rfl rfl ?_) | (refine s_add rfl rfl (by omega) (by omega) ?_) | (refine s_addw rfl rfl ?_)); refine s_mov (by conv => lhs; whnf) ?_; refine s_mov (by conv => lhs; whnf) ?_; refine s_nil ?_; (repeat (first | refine s_then ?_ | refine s_blockN ?_)); refine s_ret ?_; (repeat (first | refine s_retT ?_ | refine s_retB ?_)); refine q_ret2 (by conv => lhs; whnf) (by conv => lhs; whnf) ?_)
         all_goals (exact ⟨_, rfl, by simp [opF, *], rfl⟩))
      | (refine s_cond_f rfl ?_
         all_goals (refine s_seq ?_; refine s_ops ?_)
         all_goals (first | (refine s_eql_t rfl rfl (by omega) ?_) | (refine s_eql_f rfl rfl (by omega) ?_) | (refine s_eql_s rfl rfl (fun hc => ?_) (fun hc => ?_)))
         all_goals (refine s_mov (by conv => lhs; whnf) ?_; refine s_nil ?_; (repeat (first | refine s_then ?_ | refine s_blockN ?_)))
         all_goals
           first
           | (refine s_cond_t rfl ?_
              all_goals (refine s_seq ?_; refine s_ops ?_; refine s_mov (by conv => lhs; whnf) ?_; refine s_mov (by conv => lhs; whnf) ?_; (first | (refine s_addw rfl rfl ?_) | (refine s_subiw rfl rfl ?_) | (refine s_mulw rfl rfl ?_) | (refine s_subi rfl rfl (by omega) (by omega) ?_) | (refine s_subiw rfl rfl ?_)); refine s_mov (by conv => lhs; whnf) ?_; refine s_mov (by conv => lhs; whnf) ?_; refine s_nil ?_; (repeat (first | refine s_then ?_ | refine s_blockN ?_)); refine s_ret ?_; (repeat (first | refine s_retT ?_ | refine s_retB ?_)); refine q_ret2 (by conv => lhs; whnf) (by conv => lhs; whnf) ?_)
              all_goals (exact ⟨_, rfl, by simp [opF, *], rfl⟩))
           | (refine s_cond_f rfl ?_
              all_goals (refine s_seq ?_; refine s_ops ?_)
              all_goals (first | (refine s_eql_t rfl rfl (by omega) ?_) | (refine s_eql_f rfl rfl (by omega) ?_) | (refine s_eql_s rfl rfl (fun hc => ?_) (fun hc => ?_)))
              all_goals (refine s_mov (by conv => lhs; whnf) ?_; refine s_nil ?_; (repeat (first | refine s_then ?_ | refine s_blockN ?_)))
              all_goals
                first
                | (refine s_cond_t rfl ?_
                   all_goals (refine s_seq ?_; refine s_ops ?_; refine s_mov (by conv => lhs; whnf) ?_; refine s_mov (by conv => lhs; whnf) ?_; (first | (refine s_addw rfl rfl ?_) | (refine s_subiw rfl rfl ?_) | (refine s_mulw rfl rfl ?_) | (refine s_mul rfl rfl (by omega) (by omega) ?_) | (refine s_mulw rfl rfl ?_)); refine s_mov (by conv => lhs; whnf) ?_; refine s_mov (by conv => lhs; whnf) ?_; refine s_nil ?_; (repeat (first | refine s_then ?_ | refine s_blockN ?_)); refine s_ret ?_; (repeat (first | refine s_retT ?_ | refine s_retB ?_)); refine q_ret2 (by conv => lhs; whnf) (by conv => lhs; whnf) ?_)
                   all_goals (exact ⟨_, rfl, by simp [opF, *], rfl⟩))
                | (refine s_cond_f rfl ?_
                   all_goals (refine s_seq ?_; refine s_ops ?_)
                   all_goals (first | (refine s_eql_t rfl rfl (by omega) ?_) | (refine s_eql_f rfl rfl (by omega) ?_) | (refine s_eql_s rfl rfl (fun hc => ?_) (fun hc => ?_)))
                   all_goals (refine s_mov (by conv => lhs; whnf) ?_; refine s_nil ?_; (repeat (first | refine s_then ?_ | refine s_blockN ?_)))
                   all_goals
                     first
                     | (refine s_cond_t rfl ?_
                        all_goals (refine s_seq ?_; refine s_ops ?_; refine s_mov (by conv => lhs; whnf) ?_; refine s_mov (by conv => lhs; whnf) ?_; refine s_rets rfl (divide_c _ _ _) ?_; rw [hd]; rintro _ _ ⟨rfl, rfl⟩; refine s_ext rfl rfl ?_; refine s_ext rfl rfl ?_; refine s_mov (by conv => lhs; whnf) ?_; refine s_mov (by conv => lhs; whnf) ?_; refine s_nil ?_; (repeat (first | refine s_then ?_ | refine s_blockN ?_)); refine s_ret ?_; (repeat (first | refine s_retT ?_ | refine s_retB ?_)); refine q_ret2 (by conv => lhs; whnf) (by conv => lhs; whnf) ?_)
                        all_goals (exact ⟨_, rfl, by simp [opF, *], rfl⟩))
                     | (refine s_cond_f rfl ?_
                        all_goals (refine s_seq ?_; refine s_ops ?_)
                        all_goals (first | (refine s_eql_t rfl rfl (by omega) ?_) | (refine s_eql_f rfl rfl (by omega) ?_) | (refine s_eql_s rfl rfl (fun hc => ?_) (fun hc => ?_)))
                        all_goals (refine s_mov (by conv => lhs; whnf) ?_; refine s_nil ?_; (repeat (first | refine s_then ?_ | refine s_blockN ?_)))
                        all_goals
                          first
                          | (refine s_cond_t rfl ?_
                             all_goals (refine s_seq ?_; refine s_ops ?_; refine s_mov (by conv => lhs; whnf) ?_; refine s_mov (by conv => lhs; whnf) ?_; refine s_rets rfl (divide_c _ _ _) ?_; rw [hd]; rintro _ _ ⟨rfl, rfl⟩; refine s_mov (by conv => lhs; whnf) ?_; refine s_ext rfl rfl ?_; refine s_ext rfl rfl ?_; refine s_mov (by conv => lhs; whnf) ?_; refine s_mov (by conv => lhs; whnf) ?_; refine s_nil ?_; (repeat (first | refine s_then ?_ | refine s_blockN ?_)); refine s_seq ?_; refine s_seq ?_; refine s_ops ?_; refine s_mov (by conv => lhs; whnf) ?_; refine s_not rfl ?_; refine s_nil ?_; (repeat (first | refine s_then ?_ | refine s_blockN ?_)))
                             all_goals
                               first
                               | (refine s_cond_t rfl ?_
                                  all_goals (refine s_seq ?_; refine s_ops ?_; refine s_mov (by conv => lhs; whnf) ?_; refine s_mov (by conv => lhs; whnf) ?_; refine s_nil ?_; (repeat (first | refine s_then ?_ | refine s_blockN ?_)); refine s_ret ?_; (repeat (first | refine s_retT ?_ | refine s_retB ?_)); refine q_ret2 (by conv => lhs; whnf) (by conv => lhs; whnf) ?_)
                                  all_goals (exact ⟨_, rfl, by simp [opF, *], rfl⟩))
                               | (refine s_cond_f rfl ?_
                                  all_goals (refine s_skip ?_; (repeat (first | refine s_then ?_ | refine s_blockN ?_))))
                             all_goals (refine s_seq ?_; refine s_ops ?_; refine s_mov (by conv => lhs; whnf) ?_; refine s_mov (by conv => lhs; whnf) ?_; refine s_mov (by conv => lhs; whnf) ?_; (first | (refine s_addw rfl rfl ?_) | (refine s_subiw rfl rfl ?_) | (refine s_mulw rfl rfl ?_) | (refine s_mul rfl rfl (by omega) (by omega) ?_) | (refine s_mulw rfl rfl ?_)); (first | (refine s_addw rfl rfl ?_) | (refine s_subiw rfl rfl ?_) | (refine s_mulw rfl rfl ?_) | (refine s_subi rfl rfl (by omega) (by omega) ?_) | (refine s_subiw rfl rfl ?_)); refine s_mov (by conv => lhs; whnf) ?_; refine s_mov (by conv => lhs; whnf) ?_; refine s_nil ?_; (repeat (first | refine s_then ?_ | refine s_blockN ?_)); refine s_ret ?_; (repeat (first | refine s_retT ?_ | refine s_retB ?_)); refine q_ret2 (by conv => lhs; whnf) (by conv => lhs; whnf) ?_)
                             all_goals (exact ⟨_, rfl, by simp [opF, *], rfl⟩))
                          | (refine s_cond_f rfl ?_
                             all_goals (refine s_seq ?_; refine s_ops ?_)
                             all_goals (first | (refine s_eql_t rfl rfl (by omega) ?_) | (refine s_eql_f rfl rfl (by omega) ?_) | (refine s_eql_s rfl rfl (fun hc => ?_) (fun hc => ?_)))
                             all_goals (refine s_mov (by conv => lhs; whnf) ?_; refine s_nil ?_; (repeat (first | refine s_then ?_ | refine s_blockN ?_)))
                             all_goals
                               first
                               | (refine s_cond_t rfl ?_
                                  all_goals (refine s_seq ?_; refine s_ops ?_; refine s_mov (by conv => lhs; whnf) ?_; refine s_mov (by conv => lhs; whnf) ?_)
                                  all_goals (first | (refine s_lss_t rfl rfl (by omega) ?_) | (refine s_lss_f rfl rfl (by omega) ?_) | (refine s_lss_s rfl rfl (fun hc => ?_) (fun hc => ?_)))
                                  all_goals (refine s_rets rfl (truth_c _ _) ?_; rintro _ _ ⟨rfl, rfl⟩; refine s_mov (by conv => lhs; whnf) ?_; refine s_mov (by conv => lhs; whnf) ?_; refine s_nil ?_; (repeat (first | refine s_then ?_ | refine s_blockN ?_)); refine s_ret ?_; (repeat (first | refine s_retT ?_ | refine s_retB ?_)); refine q_ret2 (by conv => lhs; whnf) (by conv => lhs; whnf) ?_)
                                  all_goals (exact ⟨_, rfl, by simp [opF, *], rfl⟩))
                               | (refine s_cond_f rfl ?_
                                  all_goals (refine s_seq ?_; refine s_ops ?_)
                                  all_goals (first | (refine s_eql_t rfl rfl (by omega) ?_) | (refine s_eql_f rfl rfl (by omega) ?_) | (refine s_eql_s rfl rfl (fun hc => ?_) (fun hc => ?_)))
                                  all_goals (refine s_mov (by conv => lhs; whnf) ?_; refine s_nil ?_; (repeat (first | refine s_then ?_ | refine s_blockN ?_)))
                                  all_goals
                                    first
                                    | (refine s_cond_t rfl ?_
                                       all_goals (refine s_seq ?_; refine s_ops ?_; refine s_mov (by conv => lhs; whnf) ?_; refine s_mov (by conv => lhs; whnf) ?_)
                                       all_goals (first | (refine s_eql_t rfl rfl (by omega) ?_) | (refine s_eql_f rfl rfl (by omega) ?_) | (refine s_eql_s rfl rfl (fun hc => ?_) (fun hc => ?_)))
                                       all_goals (refine s_rets rfl (truth_c _ _) ?_; rintro _ _ ⟨rfl, rfl⟩; refine s_mov (by conv => lhs; whnf) ?_; refine s_mov (by conv => lhs; whnf) ?_; refine s_nil ?_; (repeat (first | refine s_then ?_ | refine s_blockN ?_)); refine s_ret ?_; (repeat (first | refine s_retT ?_ | refine s_retB ?_)); refine q_ret2 (by conv => lhs; whnf) (by conv => lhs; whnf) ?_)
                                       all_goals (exact ⟨_, rfl, by simp [opF, *], rfl⟩))
                                    | (refine s_cond_f rfl ?_
                                       all_goals (refine s_seq ?_; refine s_ops ?_)
                                       all_goals (first | (refine s_eql_t rfl rfl (by omega) ?_) | (refine s_eql_f rfl rfl (by omega) ?_) | (refine s_eql_s rfl rfl (fun hc => ?_) (fun hc => ?_)))
                                       all_goals (refine s_mov (by conv => lhs; whnf) ?_; refine s_nil ?_; (repeat (first | refine s_then ?_ | refine s_blockN ?_)))
                                       all_goals
                                         first
                                         | (refine s_cond_t rfl ?_
                                            all_goals (refine s_seq ?_; refine s_ops ?_; refine s_mov (by conv => lhs; whnf) ?_; refine s_mov (by conv => lhs; whnf) ?_; refine s_and rfl rfl ?_; refine s_mov (by conv => lhs; whnf) ?_; refine s_mov (by conv => lhs; whnf) ?_; refine s_nil ?_; (repeat (first | refine s_then ?_ | refine s_blockN ?_)); refine s_ret ?_; (repeat (first | refine s_retT ?_ | refine s_retB ?_)); refine q_ret2 (by conv => lhs; whnf) (by conv => lhs; whnf) ?_)
                                            all_goals (exact ⟨_, rfl, by simp [opF, *], rfl⟩))
                                         | (refine s_cond_f rfl ?_
                                            all_goals (refine s_seq ?_; refine s_ops ?_)
                                            all_goals (first | (refine s_eql_t rfl rfl (by omega) ?_) | (refine s_eql_f rfl rfl (by omega) ?_) | (refine s_eql_s rfl rfl (fun hc => ?_) (fun hc => ?_)))
                                            all_goals (refine s_mov (by conv => lhs; whnf) ?_; refine s_nil ?_; (repeat (first | refine s_then ?_ | refine s_blockN ?_)))
                                            all_goals
                                              first
                                              | (refine s_cond_t rfl ?_
                                                 all_goals (refine s_seq ?_; refine s_ops ?_; refine s_mov (by conv => lhs; whnf) ?_; refine s_mov (by conv => lhs; whnf) ?_; refine s_xor rfl rfl ?_; refine s_mov (by conv => lhs; whnf) ?_; refine s_mov (by conv => lhs; whnf) ?_; refine s_nil ?_; (repeat (first | refine s_then ?_ | refine s_blockN ?_)); refine s_ret ?_; (repeat (first | refine s_retT ?_ | refine s_retB ?_)); refine q_ret2 (by conv => lhs; whnf) (by conv => lhs; whnf) ?_)
                                                 all_goals (exact ⟨_, rfl, by simp [opF, *], rfl⟩))
                                              | (refine s_cond_f rfl ?_
                                                 all_goals (refine s_skip ?_; (repeat (first | refine s_then ?_ | refine s_blockN ?_))))))))))))
    all_goals (refine s_seq ?_; refine s_ops ?_; refine s_mov (by conv => lhs; whnf) ?_; refine s_mov (by conv => lhs; whnf) ?_; refine s_nil ?_; (repeat (first | refine s_then ?_ | refine s_blockN ?_)); refine s_ret ?_; (repeat (first | refine s_retT ?_ | refine s_retB ?_)); refine q_ret2 (by conv => lhs; whnf) (by conv => lhs; whnf) ?_; exact ⟨_, rfl, by simp [opF, *], rfl⟩)
theorem wr_eq (n : Int) : wr n = if n % 18446744073709551616 ≥ 9223372036854775808 then n % 18446744073709551616 - 18446744073709551616 else n % 18446744073709551616 := by
  unfold wr IntKind.wrap
  simp [IntKind.bits, IntKind.signed]
theorem wr_bmod (n : Int) : wr n = Int.bmod n (2 ^ 64) := by
  rw [wr_eq, Int.bmod_def]
  have e : ((2 ^ 64 : Nat) : Int) = 18446744073709551616 := rfl
  rw [e]
  split <;> split <;> omega
theorem wr_in {n : Int} (h : inI n) : wr n = n := wrap_i64 h.1 h.2
theorem wr_inI (n : Int) : inI (wr n) := by
  unfold inI; rw [wr_eq]; split <;> omega
theorem wr_add (a b c : Int) (h : ∃ q, a = b + 18446744073709551616 * q) : wr (a + c) = wr (b + c) := by
  obtain ⟨q, rfl⟩ := h
  rw [wr_eq, wr_eq]
  have : (b + 18446744073709551616 * q + c) % 18446744073709551616 = (b + c) % 18446744073709551616 := by omega
  rw [this]
theorem wr_mod (n : Int) : ∃ q, wr n = n + 18446744073709551616 * q := by
  rw [wr_eq]
  split
  · exact ⟨-(n / 18446744073709551616) - 1, by omega⟩
  · exact ⟨-(n / 18446744073709551616), by omega⟩
theorem wr_congr {a b : Int} (h : ∃ q, a = b + 18446744073709551616 * q) : wr a = wr b := by
  have := wr_add a b 0 h
  simpa using this
/-- The remainder, reckoned by the quotient. -/
theorem mod_by_quo {a b : Int} (hb : inI b) (h0 : b ≠ 0) : wr (a - wr (wr (a.tdiv b) * b)) = a.tmod b := by
  have e : a.tmod b = a - a.tdiv b * b := by have := Int.mul_tdiv_add_tmod a b; rw [Int.mul_comm] at this; omega
  have hin : inI (a.tmod b) := by
    have h1 := Int.natAbs_tmod a b
    have h2 := Nat.mod_lt a.natAbs (show b.natAbs > 0 by omega)
    unfold inI at *
    omega
  obtain ⟨q1, h1⟩ := wr_mod (a.tdiv b)
  obtain ⟨q2, h2⟩ := wr_mod (wr (a.tdiv b) * b)
  rw [← wr_in hin, e]
  refine wr_congr ⟨-(q1 * b) - q2, ?_⟩
  rw [h2, h1]
  rw [Int.add_mul, Int.mul_sub, Int.mul_neg, Int.mul_assoc]
  omega

theorem or_sub_and {n : Nat} (x y : BitVec n) : (x ||| y) - (x &&& y) = x ^^^ y := by
  have h1 : (x ^^^ y) &&& (x &&& y) = 0#n := by
    ext i hi
    simp
    cases x[i] <;> cases y[i] <;> simp
  have h2 : (x ^^^ y) + (x &&& y) = (x ^^^ y) ||| (x &&& y) := BitVec.add_eq_or_of_and_eq_zero _ _ h1
  have h3 : (x ^^^ y) ||| (x &&& y) = x ||| y := by
    ext i hi
    simp
    cases x[i] <;> cases y[i] <;> simp
  rw [← h3, ← h2, BitVec.add_sub_cancel]

theorem bit_toInt (r : BitVec 64) : IntKind.i64.wrap r.toNat = r.toInt := by
  show wr _ = _
  rw [wr_bmod, BitVec.toInt_eq_toNat_bmod]

theorem xor_by_or (a b : Int) : wr (bitI .or .i64 a b - bitI .and .i64 a b) = bitI .xor .i64 a b := by
  unfold bitI
  simp only []
  have e1 := bit_toInt (BitVec.ofInt 64 a ||| BitVec.ofInt 64 b)
  have e2 := bit_toInt (BitVec.ofInt 64 a &&& BitVec.ofInt 64 b)
  have e3 := bit_toInt (BitVec.ofInt 64 a ^^^ BitVec.ofInt 64 b)
  refine Eq.trans (congrArg wr (congr (congrArg _ e1) e2)) (Eq.trans ?_ e3.symm)
  rw [← or_sub_and, BitVec.toInt_sub, wr_bmod]
theorem opOf_c (k a b : Int) (ha : inI a) (hb : inI b) (w : World) : Rets Try.prog R_OpOf [.int .i64 k, .int .i64 a, .int .i64 b] w fun v w' => v = .tuple #[.int .i64 (opF k a b).1, .bool (opF k a b).2] ∧ w' = w := by
  have hb' := hb
  have ha' := ha
  unfold inI at ha' hb'
  have hm := fun h => mod_by_quo (a := a) hb h
  have hx := xor_by_or a b
  have hd : b ≠ 0 → divF a b = (wr (a.tdiv b), true) := by
    intro h
    unfold divF
    rw [if_neg h]
    split
    · rename_i h1; subst h1; rw [Int.tdiv_neg, Int.tdiv_one, Int.zero_sub]
    · rfl
  have g4 : b ≠ 0 → opF 4 a b = (wr (a.tdiv b), true) := fun h => by simp [opF, hd h]
  have g5 : b ≠ 0 → opF 5 a b = (a.tmod b, true) := fun h => by simp [opF, hd h, hm h]
  have z4 : b = 0 → opF 4 a b = (0, false) := by rintro rfl; rfl
  have z5 : b = 0 → opF 5 a b = (0, false) := by rintro rfl; rfl
  have e4 : opF 4 (-9223372036854775808) (-1) = (-9223372036854775808, true) := by decide
  have e5 : opF 5 (-9223372036854775808) (-1) = (0, true) := by decide
  have g9 : opF 9 a b = (wr (bitI .or .i64 a b - bitI .and .i64 a b), true) := by rw [hx]; rfl
  refine R_OpOf_in ?_
  unfold R_OpOf_lc
  all_goals (refine s_seq ?_; refine s_ops ?_; refine s_mov (by conv => lhs; whnf) ?_; refine s_mov (by conv => lhs; whnf) ?_; refine s_nil ?_; (repeat (first | refine s_then ?_ | refine s_blockN ?_)); refine s_seq ?_; refine s_ops ?_; refine s_mov (by conv => lhs; whnf) ?_; refine s_nil ?_; (repeat (first | refine s_then ?_ | refine s_blockN ?_)); refine s_seq ?_; refine s_seq ?_; refine s_ops ?_; refine s_mov (by conv => lhs; whnf) ?_; refine s_nil ?_; (repeat (first | refine s_then ?_ | refine s_blockN ?_)); refine s_block ?_; refine s_seq ?_; refine s_ops ?_)
  all_goals (first | (refine s_eql_t rfl rfl (by omega) ?_) | (refine s_eql_f rfl rfl (by omega) ?_) | (refine s_eql_s rfl rfl (fun hc => ?_) (fun hc => ?_)))
  all_goals (refine s_mov (by conv => lhs; whnf) ?_; refine s_nil ?_; (repeat (first | refine s_then ?_ | refine s_blockN ?_)))
  all_goals
    first
    | (refine s_cond_t rfl ?_
       all_goals (refine s_seq ?_; refine s_ops ?_; refine s_mov (by conv => lhs; whnf) ?_; refine s_mov (by conv => lhs; whnf) ?_; (first | (refine s_addw rfl rfl ?_) | (refine s_subiw rfl rfl ?_) | (refine s_mulw rfl rfl ?_) | (refine s_add rfl rfl (by omega) (by omega) ?_) | (refine s_addw rfl rfl ?_)); refine s_mov (by conv => lhs; whnf) ?_; refine s_mov (by conv => lhs; whnf) ?_; refine s_nil ?_; (repeat (first | refine s_then ?_ | refine s_blockN ?_)); refine s_ret ?_; (repeat (first | refine s_retT ?_ | refine s_retB ?_)); refine q_ret2 (by conv => lhs; whnf) (by conv => lhs; whnf) ?_)
       all_goals (refine ⟨_, rfl, ?_, rfl⟩; first | (rw [‹a = _›, ‹b = -1›, ‹k = 4›, e4]) | (rw [‹a = _›, ‹b = -1›, ‹k = 5›, e5]) | (rw [‹k = 4›, g4 ‹¬ b = 0›]) | (rw [‹k = 5›, g5 ‹¬ b = 0›]) | (rw [‹k = 4›, z4 ‹b = 0›]) | (rw [‹k = 5›, z5 ‹b = 0›]) | (rw [‹k = 9›, g9]) | simp [opF, *]))
    | (refine s_cond_f rfl ?_
       all_goals (refine s_seq ?_; refine s_ops ?_)
       all_goals (first | (refine s_eql_t rfl rfl (by omega) ?_) | (refine s_eql_f rfl rfl (by omega) ?_) | (refine s_eql_s rfl rfl (fun hc => ?_) (fun hc => ?_)))
       all_goals (refine s_mov (by conv => lhs; whnf) ?_; refine s_nil ?_; (repeat (first | refine s_then ?_ | refine s_blockN ?_)))
       all_goals
         first
         | (refine s_cond_t rfl ?_
            all_goals (refine s_seq ?_; refine s_ops ?_; refine s_mov (by conv => lhs; whnf) ?_; refine s_mov (by conv => lhs; whnf) ?_; (first | (refine s_addw rfl rfl ?_) | (refine s_subiw rfl rfl ?_) | (refine s_mulw rfl rfl ?_) | (refine s_subi rfl rfl (by omega) (by omega) ?_) | (refine s_subiw rfl rfl ?_)); refine s_mov (by conv => lhs; whnf) ?_; refine s_mov (by conv => lhs; whnf) ?_; refine s_nil ?_; (repeat (first | refine s_then ?_ | refine s_blockN ?_)); refine s_ret ?_; (repeat (first | refine s_retT ?_ | refine s_retB ?_)); refine q_ret2 (by conv => lhs; whnf) (by conv => lhs; whnf) ?_)
            all_goals (refine ⟨_, rfl, ?_, rfl⟩; first | (rw [‹a = _›, ‹b = -1›, ‹k = 4›, e4]) | (rw [‹a = _›, ‹b = -1›, ‹k = 5›, e5]) | (rw [‹k = 4›, g4 ‹¬ b = 0›]) | (rw [‹k = 5›, g5 ‹¬ b = 0›]) | (rw [‹k = 4›, z4 ‹b = 0›]) | (rw [‹k = 5›, z5 ‹b = 0›]) | (rw [‹k = 9›, g9]) | simp [opF, *]))
         | (refine s_cond_f rfl ?_
            all_goals (refine s_seq ?_; refine s_ops ?_)
            all_goals (first | (refine s_eql_t rfl rfl (by omega) ?_) | (refine s_eql_f rfl rfl (by omega) ?_) | (refine s_eql_s rfl rfl (fun hc => ?_) (fun hc => ?_)))
            all_goals (refine s_mov (by conv => lhs; whnf) ?_; refine s_nil ?_; (repeat (first | refine s_then ?_ | refine s_blockN ?_)))
            all_goals
              first
              | (refine s_cond_t rfl ?_
                 all_goals (refine s_seq ?_; refine s_ops ?_; refine s_mov (by conv => lhs; whnf) ?_; refine s_mov (by conv => lhs; whnf) ?_; (first | (refine s_addw rfl rfl ?_) | (refine s_subiw rfl rfl ?_) | (refine s_mulw rfl rfl ?_) | (refine s_mul rfl rfl (by omega) (by omega) ?_) | (refine s_mulw rfl rfl ?_)); refine s_mov (by conv => lhs; whnf) ?_; refine s_mov (by conv => lhs; whnf) ?_; refine s_nil ?_; (repeat (first | refine s_then ?_ | refine s_blockN ?_)); refine s_ret ?_; (repeat (first | refine s_retT ?_ | refine s_retB ?_)); refine q_ret2 (by conv => lhs; whnf) (by conv => lhs; whnf) ?_)
                 all_goals (refine ⟨_, rfl, ?_, rfl⟩; first | (rw [‹a = _›, ‹b = -1›, ‹k = 4›, e4]) | (rw [‹a = _›, ‹b = -1›, ‹k = 5›, e5]) | (rw [‹k = 4›, g4 ‹¬ b = 0›]) | (rw [‹k = 5›, g5 ‹¬ b = 0›]) | (rw [‹k = 4›, z4 ‹b = 0›]) | (rw [‹k = 5›, z5 ‹b = 0›]) | (rw [‹k = 9›, g9]) | simp [opF, *]))
              | (refine s_cond_f rfl ?_
                 all_goals (refine s_seq ?_; refine s_seq ?_; refine s_ops ?_)
                 all_goals (first | (refine s_eql_t rfl rfl (by omega) ?_) | (refine s_eql_f rfl rfl (by omega) ?_) | (refine s_eql_s rfl rfl (fun hc => ?_) (fun hc => ?_)))
                 all_goals (refine s_mov (by conv => lhs; whnf) ?_; refine s_nil ?_; (repeat (first | refine s_then ?_ | refine s_blockN ?_)))
                 all_goals
                   first
                   | (refine s_cond_t rfl ?_
                      all_goals (refine s_skip ?_; (repeat (first | refine s_then ?_ | refine s_blockN ?_))))
                   | (refine s_cond_f rfl ?_
                      all_goals (refine s_ops ?_)
                      all_goals (first | (refine s_eql_t rfl rfl (by omega) ?_) | (refine s_eql_f rfl rfl (by omega) ?_) | (refine s_eql_s rfl rfl (fun hc => ?_) (fun hc => ?_)))
                      all_goals (refine s_mov (by conv => lhs; whnf) ?_)
                      all_goals (refine s_nil ?_; (repeat (first | refine s_then ?_ | refine s_blockN ?_))))
                 all_goals
                   first
                   | (refine s_cond_t rfl ?_
                      all_goals (refine s_seq ?_; refine s_seq ?_; refine s_ops ?_; refine s_mov (by conv => lhs; whnf) ?_)
                      all_goals (first | (refine s_eql_t rfl rfl (by omega) ?_) | (refine s_eql_f rfl rfl (by omega) ?_) | (refine s_eql_s rfl rfl (fun hc => ?_) (fun hc => ?_)))
                      all_goals (refine s_nil ?_; (repeat (first | refine s_then ?_ | refine s_blockN ?_)))
                      all_goals
                        first
                        | (refine s_cond_t rfl ?_
                           all_goals (refine s_seq ?_; refine s_ops ?_; refine s_mov (by conv => lhs; whnf) ?_; refine s_mov (by conv => lhs; whnf) ?_; refine s_nil ?_; (repeat (first | refine s_then ?_ | refine s_blockN ?_)); refine s_ret ?_; (repeat (first | refine s_retT ?_ | refine s_retB ?_)); refine q_ret2 (by conv => lhs; whnf) (by conv => lhs; whnf) ?_)
                           all_goals (refine ⟨_, rfl, ?_, rfl⟩; first | (rw [‹a = _›, ‹b = -1›, ‹k = 4›, e4]) | (rw [‹a = _›, ‹b = -1›, ‹k = 5›, e5]) | (rw [‹k = 4›, g4 ‹¬ b = 0›]) | (rw [‹k = 5›, g5 ‹¬ b = 0›]) | (rw [‹k = 4›, z4 ‹b = 0›]) | (rw [‹k = 5›, z5 ‹b = 0›]) | (rw [‹k = 9›, g9]) | simp [opF, *]))
                        | (refine s_cond_f rfl ?_
                           all_goals (refine s_skip ?_; (repeat (first | refine s_then ?_ | refine s_blockN ?_))))
                      all_goals (refine s_seq ?_; refine s_seq ?_; refine s_ops ?_; refine s_mov (by conv => lhs; whnf) ?_)
                      all_goals (first | (refine s_eql_t rfl rfl (by omega) ?_) | (refine s_eql_f rfl rfl (by omega) ?_) | (refine s_eql_s rfl rfl (fun hc => ?_) (fun hc => ?_)))
                      all_goals (refine s_mov (by conv => lhs; whnf) ?_; (first | (refine s_gy rfl ?_; refine s_mov (by conv => lhs; whnf) ?_) | refine s_gn rfl rfl ?_))
                      all_goals (first | (refine s_gy rfl ?_; (first | (refine s_eql_t rfl rfl (by omega) ?_) | (refine s_eql_f rfl rfl (by omega) ?_) | (refine s_eql_s rfl rfl (fun hc => ?_) (fun hc => ?_)))) | refine s_gn rfl rfl ?_)
                      all_goals ((first | refine s_pick_t rfl (by conv => lhs; whnf) ?_ | refine s_pick_f rfl (by conv => lhs; whnf) ?_); refine s_nil ?_; (repeat (first | refine s_then ?_ | refine s_blockN ?_)))
                      all_goals
                        first
                        | (refine s_cond_t rfl ?_
                           all_goals (refine s_seq ?_; refine s_seq ?_; refine s_ops ?_; refine s_mov (by conv => lhs; whnf) ?_)
                           all_goals (first | (refine s_eql_t rfl rfl (by omega) ?_) | (refine s_eql_f rfl rfl (by omega) ?_) | (refine s_eql_s rfl rfl (fun hc => ?_) (fun hc => ?_)))
                           all_goals (refine s_nil ?_; (repeat (first | refine s_then ?_ | refine s_blockN ?_)))
                           all_goals
                             first
                             | (refine s_cond_t rfl ?_
                                all_goals (refine s_seq ?_; refine s_ops ?_; refine s_mov (by conv => lhs; whnf) ?_; refine s_mov (by conv => lhs; whnf) ?_; refine s_nil ?_; (repeat (first | refine s_then ?_ | refine s_blockN ?_)); refine s_ret ?_; (repeat (first | refine s_retT ?_ | refine s_retB ?_)); refine q_ret2 (by conv => lhs; whnf) (by conv => lhs; whnf) ?_)
                                all_goals (refine ⟨_, rfl, ?_, rfl⟩; first | (rw [‹a = _›, ‹b = -1›, ‹k = 4›, e4]) | (rw [‹a = _›, ‹b = -1›, ‹k = 5›, e5]) | (rw [‹k = 4›, g4 ‹¬ b = 0›]) | (rw [‹k = 5›, g5 ‹¬ b = 0›]) | (rw [‹k = 4›, z4 ‹b = 0›]) | (rw [‹k = 5›, z5 ‹b = 0›]) | (rw [‹k = 9›, g9]) | simp [opF, *]))
                             | (refine s_cond_f rfl ?_
                                all_goals (refine s_skip ?_; (repeat (first | refine s_then ?_ | refine s_blockN ?_))))
                           all_goals (refine s_seq ?_; refine s_ops ?_; refine s_mov (by conv => lhs; whnf) ?_; refine s_mov (by conv => lhs; whnf) ?_; refine s_nil ?_; (repeat (first | refine s_then ?_ | refine s_blockN ?_)); refine s_ret ?_; (repeat (first | refine s_retT ?_ | refine s_retB ?_)); refine q_ret2 (by conv => lhs; whnf) (by conv => lhs; whnf) ?_)
                           all_goals (refine ⟨_, rfl, ?_, rfl⟩; first | (rw [‹a = _›, ‹b = -1›, ‹k = 4›, e4]) | (rw [‹a = _›, ‹b = -1›, ‹k = 5›, e5]) | (rw [‹k = 4›, g4 ‹¬ b = 0›]) | (rw [‹k = 5›, g5 ‹¬ b = 0›]) | (rw [‹k = 4›, z4 ‹b = 0›]) | (rw [‹k = 5›, z5 ‹b = 0›]) | (rw [‹k = 9›, g9]) | simp [opF, *]))
                        | (refine s_cond_f rfl ?_
                           all_goals (refine s_skip ?_; (repeat (first | refine s_then ?_ | refine s_blockN ?_))))
                      all_goals (refine s_seq ?_; refine s_seq ?_; refine s_ops ?_; refine s_mov (by conv => lhs; whnf) ?_)
                      all_goals (first | (refine s_eql_t rfl rfl (by omega) ?_) | (refine s_eql_f rfl rfl (by omega) ?_) | (refine s_eql_s rfl rfl (fun hc => ?_) (fun hc => ?_)))
                      all_goals (refine s_nil ?_; (repeat (first | refine s_then ?_ | refine s_blockN ?_)))
                      all_goals
                        first
                        | (refine s_cond_t rfl ?_
                           all_goals (refine s_seq ?_; refine s_ops ?_; refine s_mov (by conv => lhs; whnf) ?_; refine s_mov (by conv => lhs; whnf) ?_; refine s_quo rfl rfl (by omega) ?_; refine s_mov (by conv => lhs; whnf) ?_; refine s_mov (by conv => lhs; whnf) ?_; refine s_nil ?_; (repeat (first | refine s_then ?_ | refine s_blockN ?_)); refine s_ret ?_; (repeat (first | refine s_retT ?_ | refine s_retB ?_)); refine q_ret2 (by conv => lhs; whnf) (by conv => lhs; whnf) ?_)
                           all_goals (refine ⟨_, rfl, ?_, rfl⟩; first | (rw [‹a = _›, ‹b = -1›, ‹k = 4›, e4]) | (rw [‹a = _›, ‹b = -1›, ‹k = 5›, e5]) | (rw [‹k = 4›, g4 ‹¬ b = 0›]) | (rw [‹k = 5›, g5 ‹¬ b = 0›]) | (rw [‹k = 4›, z4 ‹b = 0›]) | (rw [‹k = 5›, z5 ‹b = 0›]) | (rw [‹k = 9›, g9]) | simp [opF, *]))
                        | (refine s_cond_f rfl ?_
                           all_goals (refine s_skip ?_; (repeat (first | refine s_then ?_ | refine s_blockN ?_))))
                      all_goals (refine s_seq ?_; refine s_ops ?_; refine s_mov (by conv => lhs; whnf) ?_; refine s_mov (by conv => lhs; whnf) ?_; refine s_rem rfl rfl (by omega) ?_; refine s_mov (by conv => lhs; whnf) ?_; refine s_mov (by conv => lhs; whnf) ?_; refine s_nil ?_; (repeat (first | refine s_then ?_ | refine s_blockN ?_)); refine s_ret ?_; (repeat (first | refine s_retT ?_ | refine s_retB ?_)); refine q_ret2 (by conv => lhs; whnf) (by conv => lhs; whnf) ?_)
                      all_goals (refine ⟨_, rfl, ?_, rfl⟩; first | (rw [‹a = _›, ‹b = -1›, ‹k = 4›, e4]) | (rw [‹a = _›, ‹b = -1›, ‹k = 5›, e5]) | (rw [‹k = 4›, g4 ‹¬ b = 0›]) | (rw [‹k = 5›, g5 ‹¬ b = 0›]) | (rw [‹k = 4›, z4 ‹b = 0›]) | (rw [‹k = 5›, z5 ‹b = 0›]) | (rw [‹k = 9›, g9]) | simp [opF, *]))
                   | (refine s_cond_f rfl ?_
                      all_goals (refine s_seq ?_; refine s_ops ?_)
                      all_goals (first | (refine s_eql_t rfl rfl (by omega) ?_) | (refine s_eql_f rfl rfl (by omega) ?_) | (refine s_eql_s rfl rfl (fun hc => ?_) (fun hc => ?_)))
                      all_goals (refine s_mov (by conv => lhs; whnf) ?_; refine s_nil ?_; (repeat (first | refine s_then ?_ | refine s_blockN ?_)))
                      all_goals
                        first
                        | (refine s_cond_t rfl ?_
                           all_goals (refine s_seq ?_; refine s_seq ?_; refine s_ops ?_; refine s_mov (by conv => lhs; whnf) ?_; refine s_mov (by conv => lhs; whnf) ?_)
                           all_goals (first | (refine s_lss_t rfl rfl (by omega) ?_) | (refine s_lss_f rfl rfl (by omega) ?_) | (refine s_lss_s rfl rfl (fun hc => ?_) (fun hc => ?_)))
                           all_goals (refine s_nil ?_; (repeat (first | refine s_then ?_ | refine s_blockN ?_)))
                           all_goals
                             first
                             | (refine s_cond_t rfl ?_
                                all_goals (refine s_ops ?_; refine s_mov (by conv => lhs; whnf) ?_)
                                all_goals (refine s_nil ?_; (repeat (first | refine s_then ?_ | refine s_blockN ?_))))
                             | (refine s_cond_f rfl ?_
                                all_goals (refine s_skip ?_; (repeat (first | refine s_then ?_ | refine s_blockN ?_))))
                           all_goals (refine s_seq ?_; refine s_ops ?_; refine s_mov (by conv => lhs; whnf) ?_; refine s_mov (by conv => lhs; whnf) ?_; refine s_mov (by conv => lhs; whnf) ?_; refine s_nil ?_; (repeat (first | refine s_then ?_ | refine s_blockN ?_)); refine s_ret ?_; (repeat (first | refine s_retT ?_ | refine s_retB ?_)); refine q_ret2 (by conv => lhs; whnf) (by conv => lhs; whnf) ?_)
                           all_goals (refine ⟨_, rfl, ?_, rfl⟩; first | (rw [‹a = _›, ‹b = -1›, ‹k = 4›, e4]) | (rw [‹a = _›, ‹b = -1›, ‹k = 5›, e5]) | (rw [‹k = 4›, g4 ‹¬ b = 0›]) | (rw [‹k = 5›, g5 ‹¬ b = 0›]) | (rw [‹k = 4›, z4 ‹b = 0›]) | (rw [‹k = 5›, z5 ‹b = 0›]) | (rw [‹k = 9›, g9]) | simp [opF, *]))
                        | (refine s_cond_f rfl ?_
                           all_goals (refine s_seq ?_; refine s_ops ?_)
                           all_goals (first | (refine s_eql_t rfl rfl (by omega) ?_) | (refine s_eql_f rfl rfl (by omega) ?_) | (refine s_eql_s rfl rfl (fun hc => ?_) (fun hc => ?_)))
                           all_goals (refine s_mov (by conv => lhs; whnf) ?_; refine s_nil ?_; (repeat (first | refine s_then ?_ | refine s_blockN ?_)))
                           all_goals
                             first
                             | (refine s_cond_t rfl ?_
                                all_goals (refine s_seq ?_; refine s_seq ?_; refine s_ops ?_; refine s_mov (by conv => lhs; whnf) ?_; refine s_mov (by conv => lhs; whnf) ?_)
                                all_goals (first | (refine s_eql_t rfl rfl (by omega) ?_) | (refine s_eql_f rfl rfl (by omega) ?_) | (refine s_eql_s rfl rfl (fun hc => ?_) (fun hc => ?_)))
                                all_goals (refine s_nil ?_; (repeat (first | refine s_then ?_ | refine s_blockN ?_)))
                                all_goals
                                  first
                                  | (refine s_cond_t rfl ?_
                                     all_goals (refine s_ops ?_; refine s_mov (by conv => lhs; whnf) ?_)
                                     all_goals (refine s_nil ?_; (repeat (first | refine s_then ?_ | refine s_blockN ?_))))
                                  | (refine s_cond_f rfl ?_
                                     all_goals (refine s_skip ?_; (repeat (first | refine s_then ?_ | refine s_blockN ?_))))
                                all_goals (refine s_seq ?_; refine s_ops ?_; refine s_mov (by conv => lhs; whnf) ?_; refine s_mov (by conv => lhs; whnf) ?_; refine s_mov (by conv => lhs; whnf) ?_; refine s_nil ?_; (repeat (first | refine s_then ?_ | refine s_blockN ?_)); refine s_ret ?_; (repeat (first | refine s_retT ?_ | refine s_retB ?_)); refine q_ret2 (by conv => lhs; whnf) (by conv => lhs; whnf) ?_)
                                all_goals (refine ⟨_, rfl, ?_, rfl⟩; first | (rw [‹a = _›, ‹b = -1›, ‹k = 4›, e4]) | (rw [‹a = _›, ‹b = -1›, ‹k = 5›, e5]) | (rw [‹k = 4›, g4 ‹¬ b = 0›]) | (rw [‹k = 5›, g5 ‹¬ b = 0›]) | (rw [‹k = 4›, z4 ‹b = 0›]) | (rw [‹k = 5›, z5 ‹b = 0›]) | (rw [‹k = 9›, g9]) | simp [opF, *]))
                             | (refine s_cond_f rfl ?_
                                all_goals (refine s_seq ?_; refine s_ops ?_)
                                all_goals (first | (refine s_eql_t rfl rfl (by omega) ?_) | (refine s_eql_f rfl rfl (by omega) ?_) | (refine s_eql_s rfl rfl (fun hc => ?_) (fun hc => ?_)))
                                all_goals (refine s_mov (by conv => lhs; whnf) ?_; refine s_nil ?_; (repeat (first | refine s_then ?_ | refine s_blockN ?_)))
                                all_goals
                                  first
                                  | (refine s_cond_t rfl ?_
                                     all_goals (refine s_seq ?_; refine s_ops ?_; refine s_mov (by conv => lhs; whnf) ?_; refine s_mov (by conv => lhs; whnf) ?_; refine s_and rfl rfl ?_; refine s_mov (by conv => lhs; whnf) ?_; refine s_mov (by conv => lhs; whnf) ?_; refine s_nil ?_; (repeat (first | refine s_then ?_ | refine s_blockN ?_)); refine s_ret ?_; (repeat (first | refine s_retT ?_ | refine s_retB ?_)); refine q_ret2 (by conv => lhs; whnf) (by conv => lhs; whnf) ?_)
                                     all_goals (refine ⟨_, rfl, ?_, rfl⟩; first | (rw [‹a = _›, ‹b = -1›, ‹k = 4›, e4]) | (rw [‹a = _›, ‹b = -1›, ‹k = 5›, e5]) | (rw [‹k = 4›, g4 ‹¬ b = 0›]) | (rw [‹k = 5›, g5 ‹¬ b = 0›]) | (rw [‹k = 4›, z4 ‹b = 0›]) | (rw [‹k = 5›, z5 ‹b = 0›]) | (rw [‹k = 9›, g9]) | simp [opF, *]))
                                  | (refine s_cond_f rfl ?_
                                     all_goals (refine s_seq ?_; refine s_ops ?_)
                                     all_goals (first | (refine s_eql_t rfl rfl (by omega) ?_) | (refine s_eql_f rfl rfl (by omega) ?_) | (refine s_eql_s rfl rfl (fun hc => ?_) (fun hc => ?_)))
                                     all_goals (refine s_mov (by conv => lhs; whnf) ?_; refine s_nil ?_; (repeat (first | refine s_then ?_ | refine s_blockN ?_)))
                                     all_goals
                                       first
                                       | (refine s_cond_t rfl ?_
                                          all_goals (refine s_seq ?_; refine s_ops ?_; refine s_mov (by conv => lhs; whnf) ?_; refine s_mov (by conv => lhs; whnf) ?_; refine s_or rfl rfl ?_; refine s_mov (by conv => lhs; whnf) ?_; refine s_mov (by conv => lhs; whnf) ?_; refine s_and rfl rfl ?_; (first | (refine s_addw rfl rfl ?_) | (refine s_subiw rfl rfl ?_) | (refine s_mulw rfl rfl ?_) | (refine s_subi rfl rfl (by omega) (by omega) ?_) | (refine s_subiw rfl rfl ?_)); refine s_mov (by conv => lhs; whnf) ?_; refine s_mov (by conv => lhs; whnf) ?_; refine s_nil ?_; (repeat (first | refine s_then ?_ | refine s_blockN ?_)); refine s_ret ?_; (repeat (first | refine s_retT ?_ | refine s_retB ?_)); refine q_ret2 (by conv => lhs; whnf) (by conv => lhs; whnf) ?_)
                                          all_goals (refine ⟨_, rfl, ?_, rfl⟩; first | (rw [‹a = _›, ‹b = -1›, ‹k = 4›, e4]) | (rw [‹a = _›, ‹b = -1›, ‹k = 5›, e5]) | (rw [‹k = 4›, g4 ‹¬ b = 0›]) | (rw [‹k = 5›, g5 ‹¬ b = 0›]) | (rw [‹k = 4›, z4 ‹b = 0›]) | (rw [‹k = 5›, z5 ‹b = 0›]) | (rw [‹k = 9›, g9]) | simp [opF, *]))
                                       | (refine s_cond_f rfl ?_
                                          all_goals (refine s_skip ?_; (repeat (first | refine s_then ?_ | refine s_blockN ?_)))))))))))
  all_goals (refine s_seq ?_; refine s_ops ?_; refine s_mov (by conv => lhs; whnf) ?_; refine s_mov (by conv => lhs; whnf) ?_; refine s_nil ?_; (repeat (first | refine s_then ?_ | refine s_blockN ?_)); refine s_ret ?_; (repeat (first | refine s_retT ?_ | refine s_retB ?_)); refine q_ret2 (by conv => lhs; whnf) (by conv => lhs; whnf) ?_; refine ⟨_, rfl, ?_, rfl⟩; first | (rw [‹a = _›, ‹b = -1›, ‹k = 4›, e4]) | (rw [‹a = _›, ‹b = -1›, ‹k = 5›, e5]) | (rw [‹k = 4›, g4 ‹¬ b = 0›]) | (rw [‹k = 5›, g5 ‹¬ b = 0›]) | (rw [‹k = 4›, z4 ‹b = 0›]) | (rw [‹k = 5›, z5 ‹b = 0›]) | (rw [‹k = 9›, g9]) | simp [opF, *])

theorem begun_c (w : World) : Rets Try.prog Law_arithBegun [] w fun v w' => v = .bool true ∧ w' = w := by
  have e1 : opF 4 (-7) 2 = (-3, true) := by decide
  have e2 : opF 5 (-7) 2 = (-1, true) := by decide
  have e3 : opF 4 1 0 = (0, false) := by decide
  refine Law_arithBegun_in ?_
  unfold Law_arithBegun_lc
  all_goals (refine s_seq ?_; refine s_ops ?_; refine s_mov (by conv => lhs; whnf) ?_; refine s_nil ?_; (repeat (first | refine s_then ?_ | refine s_blockN ?_)); refine s_seq ?_; refine s_ops ?_; refine s_rets rfl (op_c _ _ _ _) ?_; (first | rw [e1] | rw [e2] | rw [e3]); rintro _ _ ⟨rfl, rfl⟩; refine s_mov (by conv => lhs; whnf) ?_; refine s_ext rfl rfl ?_; refine s_ext rfl rfl ?_; refine s_mov (by conv => lhs; whnf) ?_; refine s_mov (by conv => lhs; whnf) ?_; refine s_nil ?_; (repeat (first | refine s_then ?_ | refine s_blockN ?_)); refine s_seq ?_; refine s_ops ?_; refine s_rets rfl (op_c _ _ _ _) ?_; (first | rw [e1] | rw [e2] | rw [e3]); rintro _ _ ⟨rfl, rfl⟩; refine s_mov (by conv => lhs; whnf) ?_; refine s_ext rfl rfl ?_; refine s_ext rfl rfl ?_; refine s_mov (by conv => lhs; whnf) ?_; refine s_mov (by conv => lhs; whnf) ?_; refine s_nil ?_; (repeat (first | refine s_then ?_ | refine s_blockN ?_)); refine s_seq ?_; refine s_ops ?_; refine s_rets rfl (op_c _ _ _ _) ?_; (first | rw [e1] | rw [e2] | rw [e3]); rintro _ _ ⟨rfl, rfl⟩; refine s_mov (by conv => lhs; whnf) ?_; refine s_ext rfl rfl ?_; refine s_ext rfl rfl ?_; refine s_mov (by conv => lhs; whnf) ?_; refine s_mov (by conv => lhs; whnf) ?_; refine s_nil ?_; (repeat (first | refine s_then ?_ | refine s_blockN ?_)); refine s_seq ?_; refine s_ops ?_; refine s_mov (by conv => lhs; whnf) ?_; refine s_mov (by conv => lhs; whnf) ?_; (first | (refine s_gy rfl ?_; refine s_mov (by conv => lhs; whnf) ?_) | refine s_gn rfl rfl ?_))
  all_goals ((first | refine s_pick_t rfl (by conv => lhs; whnf) ?_ | refine s_pick_f rfl (by conv => lhs; whnf) ?_); refine s_mov (by conv => lhs; whnf) ?_; (first | (refine s_gy rfl ?_; refine s_mov (by conv => lhs; whnf) ?_) | refine s_gn rfl rfl ?_); (first | (refine s_gy rfl ?_; refine s_not rfl ?_) | refine s_gn rfl rfl ?_); (first | refine s_pick_t rfl (by conv => lhs; whnf) ?_ | refine s_pick_f rfl (by conv => lhs; whnf) ?_); refine s_mov (by conv => lhs; whnf) ?_; (first | (refine s_gy rfl ?_; refine s_mov (by conv => lhs; whnf) ?_) | refine s_gn rfl rfl ?_))
  all_goals (first | (refine s_gy rfl ?_; (first | (refine s_eql_t rfl rfl (by omega) ?_) | (refine s_eql_f rfl rfl (by omega) ?_) | (refine s_eql_s rfl rfl (fun hc => ?_) (fun hc => ?_)))) | refine s_gn rfl rfl ?_)
  all_goals ((first | refine s_pick_t rfl (by conv => lhs; whnf) ?_ | refine s_pick_f rfl (by conv => lhs; whnf) ?_); refine s_mov (by conv => lhs; whnf) ?_; (first | (refine s_gy rfl ?_; refine s_mov (by conv => lhs; whnf) ?_) | refine s_gn rfl rfl ?_))
  all_goals (first | (refine s_gy rfl ?_; (first | (refine s_eql_t rfl rfl (by omega) ?_) | (refine s_eql_f rfl rfl (by omega) ?_) | (refine s_eql_s rfl rfl (fun hc => ?_) (fun hc => ?_)))) | refine s_gn rfl rfl ?_)
  all_goals ((first | refine s_pick_t rfl (by conv => lhs; whnf) ?_ | refine s_pick_f rfl (by conv => lhs; whnf) ?_); refine s_mov (by conv => lhs; whnf) ?_; refine s_nil ?_; (repeat (first | refine s_then ?_ | refine s_blockN ?_)); refine s_ret ?_; (repeat (first | refine s_retT ?_ | refine s_retB ?_)); refine q_ret1 (by conv => lhs; whnf) ?_; exact ⟨_, rfl, rfl, rfl⟩)

theorem arithOps_c (k a b : Int) (ha : inI a) (hb : inI b) (w : World) : Rets Try.prog Law_ArithOps [.int .i64 k, .int .i64 a, .int .i64 b] w fun v w' => v = .bool true ∧ w' = w := by
  have hop := fun w => op_c k a b w
  have hof := fun w => opOf_c k a b ha hb w
  generalize opF k a b = r at hop hof
  obtain ⟨x, ok⟩ := r
  cases ok
  all_goals
    refine Law_ArithOps_in ?_
    unfold Law_ArithOps_lc
    all_goals (refine s_seq ?_; refine s_ops ?_; refine s_mov (by conv => lhs; whnf) ?_; refine s_nil ?_; (repeat (first | refine s_then ?_ | refine s_blockN ?_)); refine s_seq ?_; refine s_seq ?_; refine s_ops ?_; refine s_rets rfl (begun_c _) ?_; rintro _ _ ⟨rfl, rfl⟩; refine s_not rfl ?_; refine s_nil ?_; (repeat (first | refine s_then ?_ | refine s_blockN ?_)))
    all_goals
      first
      | (refine s_cond_t rfl ?_
         all_goals (refine s_seq ?_; refine s_ops ?_; refine s_mov (by conv => lhs; whnf) ?_; refine s_nil ?_; (repeat (first | refine s_then ?_ | refine s_blockN ?_)); refine s_ret ?_; (repeat (first | refine s_retT ?_ | refine s_retB ?_)); refine q_ret1 (by conv => lhs; whnf) ?_)
         all_goals (exact ⟨_, rfl, rfl, rfl⟩))
      | (refine s_cond_f rfl ?_
         all_goals (refine s_skip ?_; (repeat (first | refine s_then ?_ | refine s_blockN ?_))))
    all_goals (refine s_seq ?_; refine s_ops ?_; refine s_mov (by conv => lhs; whnf) ?_; refine s_mov (by conv => lhs; whnf) ?_; refine s_mov (by conv => lhs; whnf) ?_; refine s_rets rfl (hop _) ?_; rintro _ _ ⟨rfl, rfl⟩; refine s_mov (by conv => lhs; whnf) ?_; refine s_ext rfl rfl ?_; refine s_ext rfl rfl ?_; refine s_mov (by conv => lhs; whnf) ?_; refine s_mov (by conv => lhs; whnf) ?_; refine s_nil ?_; (repeat (first | refine s_then ?_ | refine s_blockN ?_)); refine s_seq ?_; refine s_ops ?_; refine s_mov (by conv => lhs; whnf) ?_; refine s_mov (by conv => lhs; whnf) ?_; refine s_mov (by conv => lhs; whnf) ?_; refine s_rets rfl (hof _) ?_; rintro _ _ ⟨rfl, rfl⟩; refine s_mov (by conv => lhs; whnf) ?_; refine s_ext rfl rfl ?_; refine s_ext rfl rfl ?_; refine s_mov (by conv => lhs; whnf) ?_; refine s_mov (by conv => lhs; whnf) ?_; refine s_nil ?_; (repeat (first | refine s_then ?_ | refine s_blockN ?_)); refine s_seq ?_; refine s_ops ?_; refine s_mov (by conv => lhs; whnf) ?_; refine s_mov (by conv => lhs; whnf) ?_; refine s_beq (by kernel_rfl) rfl rfl ?_; refine s_mov (by conv => lhs; whnf) ?_; (first | (refine s_gy rfl ?_; refine s_mov (by conv => lhs; whnf) ?_) | refine s_gn rfl rfl ?_); (first | (refine s_gy rfl ?_; refine s_mov (by conv => lhs; whnf) ?_) | refine s_gn rfl rfl ?_))
    all_goals (first | (refine s_gy rfl ?_; (first | (refine s_eql_t rfl rfl (by omega) ?_) | (refine s_eql_f rfl rfl (by omega) ?_) | (refine s_eql_s rfl rfl (fun hc => ?_) (fun hc => ?_)))) | refine s_gn rfl rfl ?_)
    all_goals ((first | refine s_pick_t rfl (by conv => lhs; whnf) ?_ | refine s_pick_f rfl (by conv => lhs; whnf) ?_); refine s_mov (by conv => lhs; whnf) ?_; refine s_nil ?_; (repeat (first | refine s_then ?_ | refine s_blockN ?_)); refine s_ret ?_; (repeat (first | refine s_retT ?_ | refine s_retB ?_)); refine q_ret1 (by conv => lhs; whnf) ?_; exact ⟨_, rfl, rfl, rfl⟩)

theorem parts_law (a b : Int) (ha : inI a) (hb : inI b) (h0 : b ≠ 0) : wr (wr ((opF 4 a b).1 * b) + a.tmod b) = a ∧ wr (a - wr ((opF 4 a b).1 * b)) = a.tmod b := by
  have hd : (opF 4 a b).1 = wr (a.tdiv b) := by
    simp only [opF, divF, if_neg h0]
    simp
    split
    · rename_i h1; subst h1; rw [Int.tdiv_neg, Int.tdiv_one]
    · rfl
  rw [hd]
  have hm := mod_by_quo hb h0 (a := a)
  refine ⟨?_, hm⟩
  obtain ⟨q, h1⟩ := wr_mod (a - wr (wr (a.tdiv b) * b))
  have h2 : wr (wr (wr (a.tdiv b) * b) + a.tmod b) = wr a := wr_congr ⟨q, by rw [← hm, h1]; omega⟩
  rw [h2, wr_in ha]

theorem arithParts_c (a b : Int) (ha : inI a) (hb : inI b) (w : World) : Rets Try.prog Law_ArithParts [.int .i64 a, .int .i64 b] w fun v w' => v = .bool true ∧ w' = w := by
  have h6 := fun w => op_c 6 a b w
  have h6' := fun w => op_c 6 b a w
  have h7 := fun w => op_c 7 a b w
  have h4 := fun w => op_c 4 a b w
  have h5 := fun w => op_c 5 a b w
  rw [show opF 6 a b = (if a < b then 1 else 0, true) from rfl] at h6
  rw [show opF 6 b a = (if b < a then 1 else 0, true) from rfl] at h6'
  rw [show opF 7 a b = (if a = b then 1 else 0, true) from rfl] at h7
  have hcase : ∃ x y z : Int, (if a < b then (1 : Int) else 0) = x ∧ (if b < a then (1 : Int) else 0) = y ∧ (if a = b then (1 : Int) else 0) = z ∧ x + y + z = 1 ∧ 0 ≤ x ∧ 0 ≤ y ∧ 0 ≤ z ∧ x + y ≤ 1 ∧ 0 ≤ x + y :=
    ⟨_, _, _, rfl, rfl, rfl, by split <;> split <;> split <;> omega, by split <;> omega, by split <;> omega, by split <;> omega, by split <;> split <;> omega, by split <;> split <;> omega⟩
  obtain ⟨x, y, z, e1, e2, e3, hs, hx, hy, hz, hxy, hxy0⟩ := hcase
  rw [e1] at h6
  rw [e2] at h6'
  rw [e3] at h7
  by_cases h0 : b = 0
  · rw [show opF 4 a b = (0, false) by rw [h0]; rfl] at h4
    rw [show opF 5 a b = (0, false) by rw [h0]; rfl] at h5
    refine Law_ArithParts_in ?_
    unfold Law_ArithParts_lc
    all_goals (refine s_seq ?_; refine s_ops ?_; refine s_mov (by conv => lhs; whnf) ?_; refine s_nil ?_; (repeat (first | refine s_then ?_ | refine s_blockN ?_)); refine s_seq ?_; refine s_seq ?_; refine s_ops ?_; refine s_rets rfl (begun_c _) ?_; rintro _ _ ⟨rfl, rfl⟩; refine s_not rfl ?_; refine s_nil ?_; (repeat (first | refine s_then ?_ | refine s_blockN ?_)))
    all_goals
      first
      | (refine s_cond_t rfl ?_
         all_goals (refine s_seq ?_; refine s_ops ?_; refine s_mov (by conv => lhs; whnf) ?_; refine s_nil ?_; (repeat (first | refine s_then ?_ | refine s_blockN ?_)); refine s_ret ?_; (repeat (first | refine s_retT ?_ | refine s_retB ?_)); refine q_ret1 (by conv => lhs; whnf) ?_)
         all_goals (exact ⟨_, rfl, rfl, rfl⟩))
      | (refine s_cond_f rfl ?_
         all_goals (refine s_skip ?_; (repeat (first | refine s_then ?_ | refine s_blockN ?_))))
    all_goals (refine s_seq ?_; refine s_ops ?_; refine s_mov (by conv => lhs; whnf) ?_; refine s_mov (by conv => lhs; whnf) ?_; (first | refine s_rets rfl (h6 _) ?_ | refine s_rets rfl (h6' _) ?_ | refine s_rets rfl (h7 _) ?_ | refine s_rets rfl (h4 _) ?_ | refine s_rets rfl (h5 _) ?_); rintro _ _ ⟨rfl, rfl⟩; refine s_mov (by conv => lhs; whnf) ?_; refine s_ext rfl rfl ?_; refine s_ext rfl rfl ?_; refine s_mov (by conv => lhs; whnf) ?_; refine s_mov (by conv => lhs; whnf) ?_; refine s_nil ?_; (repeat (first | refine s_then ?_ | refine s_blockN ?_)); refine s_seq ?_; refine s_ops ?_; refine s_mov (by conv => lhs; whnf) ?_; refine s_mov (by conv => lhs; whnf) ?_; (first | refine s_rets rfl (h6 _) ?_ | refine s_rets rfl (h6' _) ?_ | refine s_rets rfl (h7 _) ?_ | refine s_rets rfl (h4 _) ?_ | refine s_rets rfl (h5 _) ?_); rintro _ _ ⟨rfl, rfl⟩; refine s_mov (by conv => lhs; whnf) ?_; refine s_ext rfl rfl ?_; refine s_ext rfl rfl ?_; refine s_mov (by conv => lhs; whnf) ?_; refine s_mov (by conv => lhs; whnf) ?_; refine s_nil ?_; (repeat (first | refine s_then ?_ | refine s_blockN ?_)); refine s_seq ?_; refine s_ops ?_; refine s_mov (by conv => lhs; whnf) ?_; refine s_mov (by conv => lhs; whnf) ?_; (first | refine s_rets rfl (h6 _) ?_ | refine s_rets rfl (h6' _) ?_ | refine s_rets rfl (h7 _) ?_ | refine s_rets rfl (h4 _) ?_ | refine s_rets rfl (h5 _) ?_); rintro _ _ ⟨rfl, rfl⟩; refine s_mov (by conv => lhs; whnf) ?_; refine s_ext rfl rfl ?_; refine s_ext rfl rfl ?_; refine s_mov (by conv => lhs; whnf) ?_)
    all_goals (refine s_mov (by conv => lhs; whnf) ?_; refine s_nil ?_; (repeat (first | refine s_then ?_ | refine s_blockN ?_)); refine s_seq ?_; refine s_seq ?_; refine s_ops ?_; refine s_mov (by conv => lhs; whnf) ?_; refine s_mov (by conv => lhs; whnf) ?_; (first | (refine s_add rfl rfl (by omega) (by omega) ?_) | (refine s_addw rfl rfl ?_)); refine s_mov (by conv => lhs; whnf) ?_; (first | (refine s_add rfl rfl (by omega) (by omega) ?_) | (refine s_addw rfl rfl ?_)))
    all_goals (first | (refine s_neq_t rfl rfl (by omega) ?_) | (refine s_neq_f rfl rfl (by omega) ?_) | (refine s_neq_s rfl rfl (fun hc => ?_) (fun hc => ?_)))
    all_goals (refine s_mov (by conv => lhs; whnf) ?_; (first | (refine s_gy rfl ?_; refine s_mov (by conv => lhs; whnf) ?_) | refine s_gn rfl rfl ?_))
    all_goals (first | (refine s_gy rfl ?_; (first | (refine s_lss_t rfl rfl (by omega) ?_) | (refine s_lss_f rfl rfl (by omega) ?_) | (refine s_lss_s rfl rfl (fun hc => ?_) (fun hc => ?_)))) | refine s_gn rfl rfl ?_)
    all_goals ((first | refine s_pick_t rfl (by conv => lhs; whnf) ?_ | refine s_pick_f rfl (by conv => lhs; whnf) ?_); refine s_mov (by conv => lhs; whnf) ?_; (first | (refine s_gy rfl ?_; refine s_mov (by conv => lhs; whnf) ?_) | refine s_gn rfl rfl ?_))
    all_goals (first | (refine s_gy rfl ?_; (first | (refine s_lss_t rfl rfl (by omega) ?_) | (refine s_lss_f rfl rfl (by omega) ?_) | (refine s_lss_s rfl rfl (fun hc => ?_) (fun hc => ?_)))) | refine s_gn rfl rfl ?_)
    all_goals ((first | refine s_pick_t rfl (by conv => lhs; whnf) ?_ | refine s_pick_f rfl (by conv => lhs; whnf) ?_); refine s_mov (by conv => lhs; whnf) ?_; (first | (refine s_gy rfl ?_; refine s_mov (by conv => lhs; whnf) ?_) | refine s_gn rfl rfl ?_))
    all_goals (first | (refine s_gy rfl ?_; (first | (refine s_lss_t rfl rfl (by omega) ?_) | (refine s_lss_f rfl rfl (by omega) ?_) | (refine s_lss_s rfl rfl (fun hc => ?_) (fun hc => ?_)))) | refine s_gn rfl rfl ?_)
    all_goals ((first | refine s_pick_t rfl (by conv => lhs; whnf) ?_ | refine s_pick_f rfl (by conv => lhs; whnf) ?_); refine s_nil ?_; (repeat (first | refine s_then ?_ | refine s_blockN ?_)))
    all_goals
      first
      | (refine s_cond_t rfl ?_
         all_goals (refine s_seq ?_; refine s_ops ?_; refine s_mov (by conv => lhs; whnf) ?_; refine s_nil ?_; (repeat (first | refine s_then ?_ | refine s_blockN ?_)); refine s_ret ?_; (repeat (first | refine s_retT ?_ | refine s_retB ?_)); refine q_ret1 (by conv => lhs; whnf) ?_)
         all_goals (exact ⟨_, rfl, rfl, rfl⟩))
      | (refine s_cond_f rfl ?_
         all_goals (refine s_skip ?_; (repeat (first | refine s_then ?_ | refine s_blockN ?_))))
    all_goals (refine s_seq ?_; refine s_ops ?_; refine s_mov (by conv => lhs; whnf) ?_; refine s_mov (by conv => lhs; whnf) ?_; (first | refine s_rets rfl (h6 _) ?_ | refine s_rets rfl (h6' _) ?_ | refine s_rets rfl (h7 _) ?_ | refine s_rets rfl (h4 _) ?_ | refine s_rets rfl (h5 _) ?_); rintro _ _ ⟨rfl, rfl⟩; refine s_mov (by conv => lhs; whnf) ?_; refine s_ext rfl rfl ?_; refine s_ext rfl rfl ?_; refine s_mov (by conv => lhs; whnf) ?_; refine s_mov (by conv => lhs; whnf) ?_; refine s_nil ?_; (repeat (first | refine s_then ?_ | refine s_blockN ?_)); refine s_seq ?_; refine s_ops ?_; refine s_mov (by conv => lhs; whnf) ?_; refine s_mov (by conv => lhs; whnf) ?_; (first | refine s_rets rfl (h6 _) ?_ | refine s_rets rfl (h6' _) ?_ | refine s_rets rfl (h7 _) ?_ | refine s_rets rfl (h4 _) ?_ | refine s_rets rfl (h5 _) ?_); rintro _ _ ⟨rfl, rfl⟩; refine s_mov (by conv => lhs; whnf) ?_; refine s_ext rfl rfl ?_; refine s_ext rfl rfl ?_; refine s_mov (by conv => lhs; whnf) ?_; refine s_mov (by conv => lhs; whnf) ?_; refine s_nil ?_; (repeat (first | refine s_then ?_ | refine s_blockN ?_)); refine s_seq ?_; refine s_seq ?_; refine s_ops ?_; refine s_mov (by conv => lhs; whnf) ?_)
    all_goals (first | (refine s_eql_t rfl rfl (by omega) ?_) | (refine s_eql_f rfl rfl (by omega) ?_) | (refine s_eql_s rfl rfl (fun hc => ?_) (fun hc => ?_)))
    all_goals (refine s_nil ?_; (repeat (first | refine s_then ?_ | refine s_blockN ?_)))
    all_goals
      first
      | (refine s_cond_t rfl ?_
         all_goals (refine s_seq ?_; refine s_ops ?_; refine s_mov (by conv => lhs; whnf) ?_; refine s_not rfl ?_; refine s_mov (by conv => lhs; whnf) ?_; (first | (refine s_gy rfl ?_; refine s_mov (by conv => lhs; whnf) ?_) | refine s_gn rfl rfl ?_); (first | (refine s_gy rfl ?_; refine s_not rfl ?_) | refine s_gn rfl rfl ?_); (first | refine s_pick_t rfl (by conv => lhs; whnf) ?_ | refine s_pick_f rfl (by conv => lhs; whnf) ?_); refine s_mov (by conv => lhs; whnf) ?_; refine s_nil ?_; (repeat (first | refine s_then ?_ | refine s_blockN ?_)); refine s_ret ?_; (repeat (first | refine s_retT ?_ | refine s_retB ?_)); refine q_ret1 (by conv => lhs; whnf) ?_)
         all_goals (exact ⟨_, rfl, rfl, rfl⟩))
      | (refine s_cond_f rfl ?_
         all_goals (refine s_skip ?_; (repeat (first | refine s_then ?_ | refine s_blockN ?_))))
    all_goals (refine s_seq ?_; refine s_ops ?_; refine s_mov (by conv => lhs; whnf) ?_; refine s_mov (by conv => lhs; whnf) ?_; (first | refine s_rets rfl (h6 _) ?_ | refine s_rets rfl (h6' _) ?_ | refine s_rets rfl (h7 _) ?_ | refine s_rets rfl (h4 _) ?_ | refine s_rets rfl (h5 _) ?_); rintro _ _ ⟨rfl, rfl⟩; refine s_mov (by conv => lhs; whnf) ?_; refine s_ext rfl rfl ?_; refine s_ext rfl rfl ?_; refine s_mov (by conv => lhs; whnf) ?_; refine s_mov (by conv => lhs; whnf) ?_; refine s_nil ?_; (repeat (first | refine s_then ?_ | refine s_blockN ?_)); refine s_seq ?_; refine s_ops ?_; refine s_mov (by conv => lhs; whnf) ?_; refine s_mov (by conv => lhs; whnf) ?_; (first | refine s_rets rfl (h6 _) ?_ | refine s_rets rfl (h6' _) ?_ | refine s_rets rfl (h7 _) ?_ | refine s_rets rfl (h4 _) ?_ | refine s_rets rfl (h5 _) ?_); rintro _ _ ⟨rfl, rfl⟩; refine s_mov (by conv => lhs; whnf) ?_; refine s_ext rfl rfl ?_; refine s_ext rfl rfl ?_; refine s_mov (by conv => lhs; whnf) ?_; refine s_mov (by conv => lhs; whnf) ?_; refine s_nil ?_; (repeat (first | refine s_then ?_ | refine s_blockN ?_)); refine s_seq ?_; refine s_ops ?_; refine s_mov (by conv => lhs; whnf) ?_; refine s_mov (by conv => lhs; whnf) ?_; (first | refine s_rets rfl (h6 _) ?_ | refine s_rets rfl (h6' _) ?_ | refine s_rets rfl (h7 _) ?_ | refine s_rets rfl (h4 _) ?_ | refine s_rets rfl (h5 _) ?_); rintro _ _ ⟨rfl, rfl⟩; refine s_mov (by conv => lhs; whnf) ?_; refine s_ext rfl rfl ?_; refine s_ext rfl rfl ?_; refine s_mov (by conv => lhs; whnf) ?_)
    all_goals (refine s_mov (by conv => lhs; whnf) ?_; refine s_nil ?_; (repeat (first | refine s_then ?_ | refine s_blockN ?_)); refine s_seq ?_; refine s_ops ?_; refine s_mov (by conv => lhs; whnf) ?_; refine s_mov (by conv => lhs; whnf) ?_; (first | (refine s_gy rfl ?_; refine s_mov (by conv => lhs; whnf) ?_) | refine s_gn rfl rfl ?_); (first | refine s_pick_t rfl (by conv => lhs; whnf) ?_ | refine s_pick_f rfl (by conv => lhs; whnf) ?_); refine s_mov (by conv => lhs; whnf) ?_; (first | (refine s_gy rfl ?_; refine s_mov (by conv => lhs; whnf) ?_) | refine s_gn rfl rfl ?_); (first | (refine s_gy rfl ?_; refine s_mov (by conv => lhs; whnf) ?_) | refine s_gn rfl rfl ?_))
    all_goals (first | (refine s_gy rfl ?_; (first | (refine s_eql_t rfl rfl (by omega) ?_) | (refine s_eql_f rfl rfl (by omega) ?_) | (refine s_eql_s rfl rfl (fun hc => ?_) (fun hc => ?_)))) | refine s_gn rfl rfl ?_)
    all_goals ((first | refine s_pick_t rfl (by conv => lhs; whnf) ?_ | refine s_pick_f rfl (by conv => lhs; whnf) ?_); refine s_mov (by conv => lhs; whnf) ?_; (first | (refine s_gy rfl ?_; refine s_mov (by conv => lhs; whnf) ?_) | refine s_gn rfl rfl ?_); (first | (refine s_gy rfl ?_; refine s_mov (by conv => lhs; whnf) ?_) | refine s_gn rfl rfl ?_))
    all_goals (first | (refine s_gy rfl ?_; (first | (refine s_eql_t rfl rfl (by omega) ?_) | (refine s_eql_f rfl rfl (by omega) ?_) | (refine s_eql_s rfl rfl (fun hc => ?_) (fun hc => ?_)))) | refine s_gn rfl rfl ?_)
    all_goals ((first | refine s_pick_t rfl (by conv => lhs; whnf) ?_ | refine s_pick_f rfl (by conv => lhs; whnf) ?_); refine s_mov (by conv => lhs; whnf) ?_; (first | (refine s_gy rfl ?_; refine s_mov (by conv => lhs; whnf) ?_) | refine s_gn rfl rfl ?_))
    all_goals (first | (refine s_gy rfl ?_; (first | (refine s_eql_t rfl rfl (by omega) ?_) | (refine s_eql_f rfl rfl (by omega) ?_) | (refine s_eql_s rfl rfl (fun hc => ?_) (fun hc => ?_)))) | refine s_gn rfl rfl ?_)
    all_goals ((first | (refine s_gy rfl ?_; refine s_mov (by conv => lhs; whnf) ?_) | refine s_gn rfl rfl ?_); (first | (refine s_gy rfl ?_; refine s_mov (by conv => lhs; whnf) ?_) | refine s_gn rfl rfl ?_))
    all_goals (first | (refine s_gy rfl ?_; (first | (refine s_lss_t rfl rfl (by omega) ?_) | (refine s_lss_f rfl rfl (by omega) ?_) | (refine s_lss_s rfl rfl (fun hc => ?_) (fun hc => ?_)))) | refine s_gn rfl rfl ?_)
    all_goals ((first | (refine s_gy rfl ?_; refine s_mov (by conv => lhs; whnf) ?_) | refine s_gn rfl rfl ?_))
    all_goals (first | (refine s_gy rfl ?_; (first | (refine s_lss_t rfl rfl (by omega) ?_) | (refine s_lss_f rfl rfl (by omega) ?_) | (refine s_lss_s rfl rfl (fun hc => ?_) (fun hc => ?_)))) | refine s_gn rfl rfl ?_)
    all_goals ((first | (refine s_gy rfl ?_; refine s_beq (by kernel_rfl) rfl rfl ?_) | refine s_gn rfl rfl ?_); (first | (refine s_gy rfl ?_; (first | refine s_pick_t rfl (by conv => lhs; whnf) ?_ | refine s_pick_f rfl (by conv => lhs; whnf) ?_)) | refine s_gn rfl rfl ?_); (first | refine s_pick_t rfl (by conv => lhs; whnf) ?_ | refine s_pick_f rfl (by conv => lhs; whnf) ?_); refine s_mov (by conv => lhs; whnf) ?_; refine s_nil ?_; (repeat (first | refine s_then ?_ | refine s_blockN ?_)); refine s_ret ?_; (repeat (first | refine s_retT ?_ | refine s_retB ?_)); refine q_ret1 (by conv => lhs; whnf) ?_; exact ⟨_, rfl, rfl, rfl⟩)
  · obtain ⟨hp1, hp2⟩ := parts_law a b ha hb h0
    have hsgn : a.tmod b = 0 ∨ (a.tmod b < 0 ↔ a < 0) := by
      rcases Int.lt_or_le a 0 with h | h
      · have := Int.tmod_nonneg (a := -a) b (by omega)
        rw [Int.neg_tmod] at this
        omega
      · have := Int.tmod_nonneg (a := a) b h
        omega
    have hm5 : opF 5 a b = (a.tmod b, true) := by
      have hm := mod_by_quo hb h0 (a := a)
      simp only [opF, divF, if_neg h0]
      simp
      split
      · rename_i h1; subst h1; simp [Int.tdiv_neg, Int.tdiv_one] at hm; simpa using hm
      · simpa using hm
    rw [hm5] at h5
    have h42 : (opF 4 a b).2 = true := by simp only [opF, divF, if_neg h0]; simp; split <;> rfl
    rw [h42] at h4
    generalize hq : (opF 4 a b).1 = q at h4 hp1 hp2
    have h3 := fun w => op_c 3 q b w
    rw [show opF 3 q b = (wr (q * b), true) from rfl] at h3
    generalize hp : wr (q * b) = p at h3 hp1 hp2
    generalize hr : a.tmod b = r at h5 hp1 hp2 hsgn
    have h1 := fun w => op_c 1 p r w
    rw [show opF 1 p r = (wr (p + r), true) from rfl, hp1] at h1
    have h2 := fun w => op_c 2 a p w
    rw [show opF 2 a p = (wr (a - p), true) from rfl, hp2] at h2
    refine Law_ArithParts_in ?_
    unfold Law_ArithParts_lc
    all_goals (refine s_seq ?_; refine s_ops ?_; refine s_mov (by conv => lhs; whnf) ?_; refine s_nil ?_; (repeat (first | refine s_then ?_ | refine s_blockN ?_)); refine s_seq ?_; refine s_seq ?_; refine s_ops ?_; refine s_rets rfl (begun_c _) ?_; rintro _ _ ⟨rfl, rfl⟩; refine s_not rfl ?_; refine s_nil ?_; (repeat (first | refine s_then ?_ | refine s_blockN ?_)))
    all_goals
      first
      | (refine s_cond_t rfl ?_
         all_goals (refine s_seq ?_; refine s_ops ?_; refine s_mov (by conv => lhs; whnf) ?_; refine s_nil ?_; (repeat (first | refine s_then ?_ | refine s_blockN ?_)); refine s_ret ?_; (repeat (first | refine s_retT ?_ | refine s_retB ?_)); refine q_ret1 (by conv => lhs; whnf) ?_)
         all_goals (exact ⟨_, rfl, rfl, rfl⟩))
      | (refine s_cond_f rfl ?_
         all_goals (refine s_skip ?_; (repeat (first | refine s_then ?_ | refine s_blockN ?_))))
    all_goals (refine s_seq ?_; refine s_ops ?_; refine s_mov (by conv => lhs; whnf) ?_; refine s_mov (by conv => lhs; whnf) ?_; (first | refine s_rets rfl (h6 _) ?_ | refine s_rets rfl (h6' _) ?_ | refine s_rets rfl (h7 _) ?_ | refine s_rets rfl (h4 _) ?_ | refine s_rets rfl (h5 _) ?_ | refine s_rets rfl (h3 _) ?_ | refine s_rets rfl (h1 _) ?_ | refine s_rets rfl (h2 _) ?_); rintro _ _ ⟨rfl, rfl⟩; refine s_mov (by conv => lhs; whnf) ?_; refine s_ext rfl rfl ?_; refine s_ext rfl rfl ?_; refine s_mov (by conv => lhs; whnf) ?_; refine s_mov (by conv => lhs; whnf) ?_; refine s_nil ?_; (repeat (first | refine s_then ?_ | refine s_blockN ?_)); refine s_seq ?_; refine s_ops ?_; refine s_mov (by conv => lhs; whnf) ?_; refine s_mov (by conv => lhs; whnf) ?_; (first | refine s_rets rfl (h6 _) ?_ | refine s_rets rfl (h6' _) ?_ | refine s_rets rfl (h7 _) ?_ | refine s_rets rfl (h4 _) ?_ | refine s_rets rfl (h5 _) ?_ | refine s_rets rfl (h3 _) ?_ | refine s_rets rfl (h1 _) ?_ | refine s_rets rfl (h2 _) ?_); rintro _ _ ⟨rfl, rfl⟩; refine s_mov (by conv => lhs; whnf) ?_; refine s_ext rfl rfl ?_; refine s_ext rfl rfl ?_; refine s_mov (by conv => lhs; whnf) ?_; refine s_mov (by conv => lhs; whnf) ?_; refine s_nil ?_; (repeat (first | refine s_then ?_ | refine s_blockN ?_)); refine s_seq ?_; refine s_ops ?_; refine s_mov (by conv => lhs; whnf) ?_; refine s_mov (by conv => lhs; whnf) ?_; (first | refine s_rets rfl (h6 _) ?_ | refine s_rets rfl (h6' _) ?_ | refine s_rets rfl (h7 _) ?_ | refine s_rets rfl (h4 _) ?_ | refine s_rets rfl (h5 _) ?_ | refine s_rets rfl (h3 _) ?_ | refine s_rets rfl (h1 _) ?_ | refine s_rets rfl (h2 _) ?_); rintro _ _ ⟨rfl, rfl⟩)
    all_goals (refine s_mov (by conv => lhs; whnf) ?_; refine s_ext rfl rfl ?_; refine s_ext rfl rfl ?_; refine s_mov (by conv => lhs; whnf) ?_; refine s_mov (by conv => lhs; whnf) ?_; refine s_nil ?_; (repeat (first | refine s_then ?_ | refine s_blockN ?_)); refine s_seq ?_; refine s_seq ?_; refine s_ops ?_; refine s_mov (by conv => lhs; whnf) ?_; refine s_mov (by conv => lhs; whnf) ?_; (first | (refine s_add rfl rfl (by omega) (by omega) ?_) | (refine s_addw rfl rfl ?_)); refine s_mov (by conv => lhs; whnf) ?_; (first | (refine s_add rfl rfl (by omega) (by omega) ?_) | (refine s_addw rfl rfl ?_)))
    all_goals (first | (refine s_neq_t rfl rfl (by omega) ?_) | (refine s_neq_f rfl rfl (by omega) ?_) | (refine s_neq_s rfl rfl (fun hc => ?_) (fun hc => ?_)))
    all_goals (refine s_mov (by conv => lhs; whnf) ?_; (first | (refine s_gy rfl ?_; refine s_mov (by conv => lhs; whnf) ?_) | refine s_gn rfl rfl ?_))
    all_goals (first | (refine s_gy rfl ?_; (first | (refine s_lss_t rfl rfl (by omega) ?_) | (refine s_lss_f rfl rfl (by omega) ?_) | (refine s_lss_s rfl rfl (fun hc => ?_) (fun hc => ?_)))) | refine s_gn rfl rfl ?_)
    all_goals ((first | refine s_pick_t rfl (by conv => lhs; whnf) ?_ | refine s_pick_f rfl (by conv => lhs; whnf) ?_); refine s_mov (by conv => lhs; whnf) ?_; (first | (refine s_gy rfl ?_; refine s_mov (by conv => lhs; whnf) ?_) | refine s_gn rfl rfl ?_))
    all_goals (first | (refine s_gy rfl ?_; (first | (refine s_lss_t rfl rfl (by omega) ?_) | (refine s_lss_f rfl rfl (by omega) ?_) | (refine s_lss_s rfl rfl (fun hc => ?_) (fun hc => ?_)))) | refine s_gn rfl rfl ?_)
    all_goals ((first | refine s_pick_t rfl (by conv => lhs; whnf) ?_ | refine s_pick_f rfl (by conv => lhs; whnf) ?_); refine s_mov (by conv => lhs; whnf) ?_; (first | (refine s_gy rfl ?_; refine s_mov (by conv => lhs; whnf) ?_) | refine s_gn rfl rfl ?_))
    all_goals (first | (refine s_gy rfl ?_; (first | (refine s_lss_t rfl rfl (by omega) ?_) | (refine s_lss_f rfl rfl (by omega) ?_) | (refine s_lss_s rfl rfl (fun hc => ?_) (fun hc => ?_)))) | refine s_gn rfl rfl ?_)
    all_goals ((first | refine s_pick_t rfl (by conv => lhs; whnf) ?_ | refine s_pick_f rfl (by conv => lhs; whnf) ?_); refine s_nil ?_; (repeat (first | refine s_then ?_ | refine s_blockN ?_)))
    all_goals
      first
      | (refine s_cond_t rfl ?_
         all_goals (refine s_seq ?_; refine s_ops ?_; refine s_mov (by conv => lhs; whnf) ?_; refine s_nil ?_; (repeat (first | refine s_then ?_ | refine s_blockN ?_)); refine s_ret ?_; (repeat (first | refine s_retT ?_ | refine s_retB ?_)); refine q_ret1 (by conv => lhs; whnf) ?_)
         all_goals (exact ⟨_, rfl, rfl, rfl⟩))
      | (refine s_cond_f rfl ?_
         all_goals (refine s_skip ?_; (repeat (first | refine s_then ?_ | refine s_blockN ?_))))
    all_goals (refine s_seq ?_; refine s_ops ?_; refine s_mov (by conv => lhs; whnf) ?_; refine s_mov (by conv => lhs; whnf) ?_; (first | refine s_rets rfl (h6 _) ?_ | refine s_rets rfl (h6' _) ?_ | refine s_rets rfl (h7 _) ?_ | refine s_rets rfl (h4 _) ?_ | refine s_rets rfl (h5 _) ?_ | refine s_rets rfl (h3 _) ?_ | refine s_rets rfl (h1 _) ?_ | refine s_rets rfl (h2 _) ?_); rintro _ _ ⟨rfl, rfl⟩; refine s_mov (by conv => lhs; whnf) ?_; refine s_ext rfl rfl ?_; refine s_ext rfl rfl ?_; refine s_mov (by conv => lhs; whnf) ?_; refine s_mov (by conv => lhs; whnf) ?_; refine s_nil ?_; (repeat (first | refine s_then ?_ | refine s_blockN ?_)); refine s_seq ?_; refine s_ops ?_; refine s_mov (by conv => lhs; whnf) ?_; refine s_mov (by conv => lhs; whnf) ?_; (first | refine s_rets rfl (h6 _) ?_ | refine s_rets rfl (h6' _) ?_ | refine s_rets rfl (h7 _) ?_ | refine s_rets rfl (h4 _) ?_ | refine s_rets rfl (h5 _) ?_ | refine s_rets rfl (h3 _) ?_ | refine s_rets rfl (h1 _) ?_ | refine s_rets rfl (h2 _) ?_); rintro _ _ ⟨rfl, rfl⟩; refine s_mov (by conv => lhs; whnf) ?_; refine s_ext rfl rfl ?_; refine s_ext rfl rfl ?_; refine s_mov (by conv => lhs; whnf) ?_; refine s_mov (by conv => lhs; whnf) ?_; refine s_nil ?_; (repeat (first | refine s_then ?_ | refine s_blockN ?_)); refine s_seq ?_; refine s_seq ?_; refine s_ops ?_; refine s_mov (by conv => lhs; whnf) ?_)
    all_goals (first | (refine s_eql_t rfl rfl (by omega) ?_) | (refine s_eql_f rfl rfl (by omega) ?_) | (refine s_eql_s rfl rfl (fun hc => ?_) (fun hc => ?_)))
    all_goals (refine s_nil ?_; (repeat (first | refine s_then ?_ | refine s_blockN ?_)))
    all_goals
      first
      | (refine s_cond_t rfl ?_
         all_goals (refine s_seq ?_; refine s_ops ?_; refine s_mov (by conv => lhs; whnf) ?_; refine s_not rfl ?_; refine s_mov (by conv => lhs; whnf) ?_; (first | (refine s_gy rfl ?_; refine s_mov (by conv => lhs; whnf) ?_) | refine s_gn rfl rfl ?_); (first | (refine s_gy rfl ?_; refine s_not rfl ?_) | refine s_gn rfl rfl ?_); (first | refine s_pick_t rfl (by conv => lhs; whnf) ?_ | refine s_pick_f rfl (by conv => lhs; whnf) ?_); refine s_mov (by conv => lhs; whnf) ?_; refine s_nil ?_; (repeat (first | refine s_then ?_ | refine s_blockN ?_)); refine s_ret ?_; (repeat (first | refine s_retT ?_ | refine s_retB ?_)); refine q_ret1 (by conv => lhs; whnf) ?_)
         all_goals (exact ⟨_, rfl, rfl, rfl⟩))
      | (refine s_cond_f rfl ?_
         all_goals (refine s_skip ?_; (repeat (first | refine s_then ?_ | refine s_blockN ?_))))
    all_goals (refine s_seq ?_; refine s_ops ?_; refine s_mov (by conv => lhs; whnf) ?_; refine s_mov (by conv => lhs; whnf) ?_; (first | refine s_rets rfl (h6 _) ?_ | refine s_rets rfl (h6' _) ?_ | refine s_rets rfl (h7 _) ?_ | refine s_rets rfl (h4 _) ?_ | refine s_rets rfl (h5 _) ?_ | refine s_rets rfl (h3 _) ?_ | refine s_rets rfl (h1 _) ?_ | refine s_rets rfl (h2 _) ?_); rintro _ _ ⟨rfl, rfl⟩; refine s_mov (by conv => lhs; whnf) ?_; refine s_ext rfl rfl ?_; refine s_ext rfl rfl ?_; refine s_mov (by conv => lhs; whnf) ?_; refine s_mov (by conv => lhs; whnf) ?_; refine s_nil ?_; (repeat (first | refine s_then ?_ | refine s_blockN ?_)); refine s_seq ?_; refine s_ops ?_; refine s_mov (by conv => lhs; whnf) ?_; refine s_mov (by conv => lhs; whnf) ?_; (first | refine s_rets rfl (h6 _) ?_ | refine s_rets rfl (h6' _) ?_ | refine s_rets rfl (h7 _) ?_ | refine s_rets rfl (h4 _) ?_ | refine s_rets rfl (h5 _) ?_ | refine s_rets rfl (h3 _) ?_ | refine s_rets rfl (h1 _) ?_ | refine s_rets rfl (h2 _) ?_); rintro _ _ ⟨rfl, rfl⟩; refine s_mov (by conv => lhs; whnf) ?_; refine s_ext rfl rfl ?_; refine s_ext rfl rfl ?_; refine s_mov (by conv => lhs; whnf) ?_; refine s_mov (by conv => lhs; whnf) ?_; refine s_nil ?_; (repeat (first | refine s_then ?_ | refine s_blockN ?_)); refine s_seq ?_; refine s_ops ?_; refine s_mov (by conv => lhs; whnf) ?_; refine s_mov (by conv => lhs; whnf) ?_; (first | refine s_rets rfl (h6 _) ?_ | refine s_rets rfl (h6' _) ?_ | refine s_rets rfl (h7 _) ?_ | refine s_rets rfl (h4 _) ?_ | refine s_rets rfl (h5 _) ?_ | refine s_rets rfl (h3 _) ?_ | refine s_rets rfl (h1 _) ?_ | refine s_rets rfl (h2 _) ?_); rintro _ _ ⟨rfl, rfl⟩)
    all_goals (refine s_mov (by conv => lhs; whnf) ?_; refine s_ext rfl rfl ?_; refine s_ext rfl rfl ?_; refine s_mov (by conv => lhs; whnf) ?_; refine s_mov (by conv => lhs; whnf) ?_; refine s_nil ?_; (repeat (first | refine s_then ?_ | refine s_blockN ?_)); refine s_seq ?_; refine s_ops ?_; refine s_mov (by conv => lhs; whnf) ?_; refine s_mov (by conv => lhs; whnf) ?_; (first | (refine s_gy rfl ?_; refine s_mov (by conv => lhs; whnf) ?_) | refine s_gn rfl rfl ?_); (first | refine s_pick_t rfl (by conv => lhs; whnf) ?_ | refine s_pick_f rfl (by conv => lhs; whnf) ?_); refine s_mov (by conv => lhs; whnf) ?_; (first | (refine s_gy rfl ?_; refine s_mov (by conv => lhs; whnf) ?_) | refine s_gn rfl rfl ?_); (first | (refine s_gy rfl ?_; refine s_mov (by conv => lhs; whnf) ?_) | refine s_gn rfl rfl ?_))
    all_goals (first | (refine s_gy rfl ?_; (first | (refine s_eql_t rfl rfl (by omega) ?_) | (refine s_eql_f rfl rfl (by omega) ?_) | (refine s_eql_s rfl rfl (fun hc => ?_) (fun hc => ?_)))) | refine s_gn rfl rfl ?_)
    all_goals ((first | refine s_pick_t rfl (by conv => lhs; whnf) ?_ | refine s_pick_f rfl (by conv => lhs; whnf) ?_); refine s_mov (by conv => lhs; whnf) ?_; (first | (refine s_gy rfl ?_; refine s_mov (by conv => lhs; whnf) ?_) | refine s_gn rfl rfl ?_); (first | (refine s_gy rfl ?_; refine s_mov (by conv => lhs; whnf) ?_) | refine s_gn rfl rfl ?_))
    all_goals (first | (refine s_gy rfl ?_; (first | (refine s_eql_t rfl rfl (by omega) ?_) | (refine s_eql_f rfl rfl (by omega) ?_) | (refine s_eql_s rfl rfl (fun hc => ?_) (fun hc => ?_)))) | refine s_gn rfl rfl ?_)
    all_goals ((first | refine s_pick_t rfl (by conv => lhs; whnf) ?_ | refine s_pick_f rfl (by conv => lhs; whnf) ?_); refine s_mov (by conv => lhs; whnf) ?_; (first | (refine s_gy rfl ?_; refine s_mov (by conv => lhs; whnf) ?_) | refine s_gn rfl rfl ?_))
    all_goals (first | (refine s_gy rfl ?_; (first | (refine s_eql_t rfl rfl (by omega) ?_) | (refine s_eql_f rfl rfl (by omega) ?_) | (refine s_eql_s rfl rfl (fun hc => ?_) (fun hc => ?_)))) | refine s_gn rfl rfl ?_)
    all_goals ((first | (refine s_gy rfl ?_; refine s_mov (by conv => lhs; whnf) ?_) | refine s_gn rfl rfl ?_); (first | (refine s_gy rfl ?_; refine s_mov (by conv => lhs; whnf) ?_) | refine s_gn rfl rfl ?_))
    all_goals (first | (refine s_gy rfl ?_; (first | (refine s_lss_t rfl rfl (by omega) ?_) | (refine s_lss_f rfl rfl (by omega) ?_) | (refine s_lss_s rfl rfl (fun hc => ?_) (fun hc => ?_)))) | refine s_gn rfl rfl ?_)
    all_goals ((first | (refine s_gy rfl ?_; refine s_mov (by conv => lhs; whnf) ?_) | refine s_gn rfl rfl ?_))
    all_goals (first | (refine s_gy rfl ?_; (first | (refine s_lss_t rfl rfl (by omega) ?_) | (refine s_lss_f rfl rfl (by omega) ?_) | (refine s_lss_s rfl rfl (fun hc => ?_) (fun hc => ?_)))) | refine s_gn rfl rfl ?_)
    all_goals ((first | (refine s_gy rfl ?_; refine s_beq (by kernel_rfl) rfl rfl ?_) | refine s_gn rfl rfl ?_); (first | (refine s_gy rfl ?_; (first | refine s_pick_t rfl (by conv => lhs; whnf) ?_ | refine s_pick_f rfl (by conv => lhs; whnf) ?_)) | refine s_gn rfl rfl ?_); (first | refine s_pick_t rfl (by conv => lhs; whnf) ?_ | refine s_pick_f rfl (by conv => lhs; whnf) ?_); refine s_mov (by conv => lhs; whnf) ?_; refine s_nil ?_; (repeat (first | refine s_then ?_ | refine s_blockN ?_)); refine s_ret ?_; (repeat (first | refine s_retT ?_ | refine s_retB ?_)); refine q_ret1 (by conv => lhs; whnf) ?_; exact ⟨_, rfl, rfl, rfl⟩)
end Go.Proofs.Ytocllfbfogcbgaa
