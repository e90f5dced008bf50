/- The reference's look at a module's form (contracts). -/
import Derived.Test.YtanlkfeogoganaaCodeW
namespace Go.Proofs.Ytanlkfeogoganaa
open Go.Lir
attribute [local irreducible] LC.wp opsWp thenQ blockQ retQ resWp LO.wp callPost Calls
set_option linter.unusedSimpArgs false
set_option linter.unusedVariables false
variable {cx : Cx} {w : World} {L : List Res}
theorem rFuncAt_c (f : Nat) (hf : f ≤ 1000000) (hS : St cx w L) : Rets Try.prog R_AtFunc [.int .i64 f] w fun u w' => u = .int .i64 (atFunc f) ∧ St cx w' L := by
  unfold atFunc
  all_goals refine R_AtFunc_in ?_
  all_goals (unfold R_AtFunc_lc; refine s_seq ?_; refine s_ops ?_; refine s_mov (by (conv => lhs; whnf); first | done | exact rfl) ?_; refine s_nil ?_; (repeat (first | refine s_then ?_ | refine s_blockN ?_)); refine s_seq ?_; refine s_ops ?_; refine s_mov (by (conv => lhs; whnf); first | done | exact rfl) ?_; ((refine s_mul rfl rfl (by omega) (by omega) ?_)); ((refine s_add rfl rfl (by omega) (by omega) ?_)); refine s_mov (by (conv => lhs; whnf); first | done | exact rfl) ?_; refine s_nil ?_; (repeat (first | refine s_then ?_ | refine s_blockN ?_)); refine s_ret ?_; (repeat (first | refine s_retT ?_ | refine s_retB ?_)); refine q_ret1 (by (conv => lhs; whnf); first | done | exact rfl) ?_; (((refine ⟨_, rfl, ?_, (hS.subP (by (repeat constructor); first | done | fail))⟩; (first | rfl | (congr 1; omega)); done))))
theorem pFuncAt_c (f : Nat) (hf : f ≤ 1000000) (hS : St cx w L) : Rets Try.prog code_FuncAt [.int .i64 f] w fun u w' => u = .int .i64 (atFunc f) ∧ St cx w' L := by
  unfold atFunc
  all_goals refine code_FuncAt_in ?_
  all_goals (unfold code_FuncAt_lc; refine s_seq ?_; refine s_ops ?_; refine s_mov (by (conv => lhs; whnf); first | done | exact rfl) ?_; refine s_nil ?_; (repeat (first | refine s_then ?_ | refine s_blockN ?_)); refine s_seq ?_; refine s_ops ?_; refine s_mov (by (conv => lhs; whnf); first | done | exact rfl) ?_; ((refine s_mul rfl rfl (by omega) (by omega) ?_)); ((refine s_add rfl rfl (by omega) (by omega) ?_)); refine s_mov (by (conv => lhs; whnf); first | done | exact rfl) ?_; refine s_nil ?_; (repeat (first | refine s_then ?_ | refine s_blockN ?_)); refine s_ret ?_; (repeat (first | refine s_retT ?_ | refine s_retB ?_)); refine q_ret1 (by (conv => lhs; whnf); first | done | exact rfl) ?_; (((refine ⟨_, rfl, ?_, (hS.subP (by (repeat constructor); first | done | fail))⟩; (rfl); done))))
theorem rBlockAt_c (f b : Nat) (hf : f ≤ 1000000) (hb : b ≤ 1000000) (hS : St cx w L) : Rets Try.prog R_AtBlock [.int .i64 f, .int .i64 b] w fun u w' => u = .int .i64 (atBlock f b) ∧ St cx w' L := by
  unfold atBlock
  all_goals refine R_AtBlock_in ?_
  all_goals (unfold R_AtBlock_lc; refine s_seq ?_; refine s_ops ?_; refine s_mov (by (conv => lhs; whnf); first | done | exact rfl) ?_; refine s_nil ?_; (repeat (first | refine s_then ?_ | refine s_blockN ?_)); refine s_seq ?_; refine s_ops ?_; refine s_mov (by (conv => lhs; whnf); first | done | exact rfl) ?_; ((refine s_mul rfl rfl (by omega) (by omega) ?_)); refine s_mov (by (conv => lhs; whnf); first | done | exact rfl) ?_; ((refine s_mul rfl rfl (by omega) (by omega) ?_)); ((refine s_add rfl rfl (by omega) (by omega) ?_)); ((refine s_add rfl rfl (by omega) (by omega) ?_)); refine s_mov (by (conv => lhs; whnf); first | done | exact rfl) ?_; refine s_nil ?_; (repeat (first | refine s_then ?_ | refine s_blockN ?_)); refine s_ret ?_; (repeat (first | refine s_retT ?_ | refine s_retB ?_)); refine q_ret1 (by (conv => lhs; whnf); first | done | exact rfl) ?_; (((refine ⟨_, rfl, ?_, (hS.subP (by (repeat constructor); first | done | fail))⟩; (first | rfl | (congr 1; omega)); done))))
theorem pBlockAt_c (f b : Nat) (hf : f ≤ 1000000) (hb : b ≤ 1000000) (hS : St cx w L) : Rets Try.prog code_BlockAt [.int .i64 f, .int .i64 b] w fun u w' => u = .int .i64 (atBlock f b) ∧ St cx w' L := by
  unfold atBlock
  all_goals refine code_BlockAt_in ?_
  all_goals (unfold code_BlockAt_lc; refine s_seq ?_; refine s_ops ?_; refine s_mov (by (conv => lhs; whnf); first | done | exact rfl) ?_; refine s_nil ?_; (repeat (first | refine s_then ?_ | refine s_blockN ?_)); refine s_seq ?_; refine s_ops ?_; refine s_mov (by (conv => lhs; whnf); first | done | exact rfl) ?_; ((refine s_mul rfl rfl (by omega) (by omega) ?_)); refine s_mov (by (conv => lhs; whnf); first | done | exact rfl) ?_; ((refine s_mul rfl rfl (by omega) (by omega) ?_)); ((refine s_add rfl rfl (by omega) (by omega) ?_)); ((refine s_add rfl rfl (by omega) (by omega) ?_)); refine s_mov (by (conv => lhs; whnf); first | done | exact rfl) ?_; refine s_nil ?_; (repeat (first | refine s_then ?_ | refine s_blockN ?_)); refine s_ret ?_; (repeat (first | refine s_retT ?_ | refine s_retB ?_)); refine q_ret1 (by (conv => lhs; whnf); first | done | exact rfl) ?_; (((refine ⟨_, rfl, ?_, (hS.subP (by (repeat constructor); first | done | fail))⟩; (rfl); done))))
theorem rEndAt_c (f b : Nat) (hf : f ≤ 1000000) (hb : b ≤ 1000000) (hS : St cx w L) : Rets Try.prog R_AtEnd [.int .i64 f, .int .i64 b] w fun u w' => u = .int .i64 (atEnd f b) ∧ St cx w' L := by
  unfold atEnd
  all_goals refine R_AtEnd_in ?_
  all_goals (unfold R_AtEnd_lc; refine s_seq ?_; refine s_ops ?_; refine s_mov (by (conv => lhs; whnf); first | done | exact rfl) ?_; refine s_nil ?_; (repeat (first | refine s_then ?_ | refine s_blockN ?_)); refine s_seq ?_; refine s_ops ?_; refine s_mov (by (conv => lhs; whnf); first | done | exact rfl) ?_; ((refine s_mul rfl rfl (by omega) (by omega) ?_)); refine s_mov (by (conv => lhs; whnf); first | done | exact rfl) ?_; ((refine s_mul rfl rfl (by omega) (by omega) ?_)); ((refine s_add rfl rfl (by omega) (by omega) ?_)); ((refine s_add rfl rfl (by omega) (by omega) ?_)); refine s_mov (by (conv => lhs; whnf); first | done | exact rfl) ?_; refine s_nil ?_; (repeat (first | refine s_then ?_ | refine s_blockN ?_)); refine s_ret ?_; (repeat (first | refine s_retT ?_ | refine s_retB ?_)); refine q_ret1 (by (conv => lhs; whnf); first | done | exact rfl) ?_; (((refine ⟨_, rfl, ?_, (hS.subP (by (repeat constructor); first | done | fail))⟩; (first | rfl | (congr 1; omega)); done))))
theorem pEndAt_c (f b : Nat) (hf : f ≤ 1000000) (hb : b ≤ 1000000) (hS : St cx w L) : Rets Try.prog code_EndAt [.int .i64 f, .int .i64 b] w fun u w' => u = .int .i64 (atEnd f b) ∧ St cx w' L := by
  unfold atEnd
  all_goals refine code_EndAt_in ?_
  all_goals (unfold code_EndAt_lc; refine s_seq ?_; refine s_ops ?_; refine s_mov (by (conv => lhs; whnf); first | done | exact rfl) ?_; refine s_nil ?_; (repeat (first | refine s_then ?_ | refine s_blockN ?_)); refine s_seq ?_; refine s_ops ?_; refine s_mov (by (conv => lhs; whnf); first | done | exact rfl) ?_; ((refine s_mul rfl rfl (by omega) (by omega) ?_)); refine s_mov (by (conv => lhs; whnf); first | done | exact rfl) ?_; ((refine s_mul rfl rfl (by omega) (by omega) ?_)); ((refine s_add rfl rfl (by omega) (by omega) ?_)); ((refine s_add rfl rfl (by omega) (by omega) ?_)); refine s_mov (by (conv => lhs; whnf); first | done | exact rfl) ?_; refine s_nil ?_; (repeat (first | refine s_then ?_ | refine s_blockN ?_)); refine s_ret ?_; (repeat (first | refine s_retT ?_ | refine s_retB ?_)); refine q_ret1 (by (conv => lhs; whnf); first | done | exact rfl) ?_; (((refine ⟨_, rfl, ?_, (hS.subP (by (repeat constructor); first | done | fail))⟩; (rfl); done))))
theorem rInsAt_c (f b i : Nat) (hf : f ≤ 1000000) (hb : b ≤ 1000000) (hi : i ≤ 1000000) (hS : St cx w L) : Rets Try.prog R_AtIns [.int .i64 f, .int .i64 b, .int .i64 i] w fun u w' => u = .int .i64 (atIns f b i) ∧ St cx w' L := by
  unfold atIns
  all_goals refine R_AtIns_in ?_
  all_goals (unfold R_AtIns_lc; refine s_seq ?_; refine s_ops ?_; refine s_mov (by (conv => lhs; whnf); first | done | exact rfl) ?_; refine s_nil ?_; (repeat (first | refine s_then ?_ | refine s_blockN ?_)); refine s_seq ?_; refine s_ops ?_; refine s_mov (by (conv => lhs; whnf); first | done | exact rfl) ?_; ((refine s_mul rfl rfl (by omega) (by omega) ?_)); refine s_mov (by (conv => lhs; whnf); first | done | exact rfl) ?_; ((refine s_mul rfl rfl (by omega) (by omega) ?_)); ((refine s_add rfl rfl (by omega) (by omega) ?_)); refine s_mov (by (conv => lhs; whnf); first | done | exact rfl) ?_; ((refine s_add rfl rfl (by omega) (by omega) ?_)); refine s_mov (by (conv => lhs; whnf); first | done | exact rfl) ?_; refine s_nil ?_; (repeat (first | refine s_then ?_ | refine s_blockN ?_)); refine s_ret ?_; (repeat (first | refine s_retT ?_ | refine s_retB ?_)); refine q_ret1 (by (conv => lhs; whnf); first | done | exact rfl) ?_; (((refine ⟨_, rfl, ?_, (hS.subP (by (repeat constructor); first | done | fail))⟩; (first | rfl | (congr 1; omega)); done))))
theorem pInsAt_c (f b i : Nat) (hf : f ≤ 1000000) (hb : b ≤ 1000000) (hi : i ≤ 1000000) (hS : St cx w L) : Rets Try.prog code_InsAt [.int .i64 f, .int .i64 b, .int .i64 i] w fun u w' => u = .int .i64 (atIns f b i) ∧ St cx w' L := by
  unfold atIns
  all_goals refine code_InsAt_in ?_
  all_goals (unfold code_InsAt_lc; refine s_seq ?_; refine s_ops ?_; refine s_mov (by (conv => lhs; whnf); first | done | exact rfl) ?_; refine s_nil ?_; (repeat (first | refine s_then ?_ | refine s_blockN ?_)); refine s_seq ?_; refine s_ops ?_; refine s_mov (by (conv => lhs; whnf); first | done | exact rfl) ?_; ((refine s_mul rfl rfl (by omega) (by omega) ?_)); refine s_mov (by (conv => lhs; whnf); first | done | exact rfl) ?_; ((refine s_mul rfl rfl (by omega) (by omega) ?_)); ((refine s_add rfl rfl (by omega) (by omega) ?_)); refine s_mov (by (conv => lhs; whnf); first | done | exact rfl) ?_; ((refine s_add rfl rfl (by omega) (by omega) ?_)); refine s_mov (by (conv => lhs; whnf); first | done | exact rfl) ?_; refine s_nil ?_; (repeat (first | refine s_then ?_ | refine s_blockN ?_)); refine s_ret ?_; (repeat (first | refine s_retT ?_ | refine s_retB ?_)); refine q_ret1 (by (conv => lhs; whnf); first | done | exact rfl) ?_; (((refine ⟨_, rfl, ?_, (hS.subP (by (repeat constructor); first | done | fail))⟩; (rfl); done))))
theorem fields_c {op : Int} (hS : St cx w L) : Rets Try.prog R_FieldsOf [.int .i64 op] w fun u w' => u = .tuple #[.agg ⟨[.bool (fA op), .bool (fB op), .bool (fC op), .bool (fK op), .bool (fN op), .bool (fG op), .bool (fR op)]⟩, .bool (decide (1 ≤ op ∧ op ≤ 14))] ∧ St cx w' L := by
  have hbad : (op < 1 ∨ 14 < op) → fA op = false ∧ fB op = false ∧ fC op = false ∧ fK op = false ∧ fN op = false ∧ fG op = false ∧ fR op = false ∧ decide (1 ≤ op ∧ op ≤ 14) = false := by
    intro h
    refine ⟨?_, ?_, ?_, ?_, ?_, ?_, ?_, ?_⟩ <;> (first | unfold fA | unfold fB | unfold fC | unfold fK | unfold fN | unfold fG | unfold fR | skip) <;> rw [decide_eq_false_iff_not] <;> omega
  by_cases hb : op < 1 ∨ 14 < op
  · obtain ⟨h1, h2, h3, h4, h5, h6, h7, h8⟩ := hbad hb
    rw [h1, h2, h3, h4, h5, h6, h7, h8]
    clear hbad h1 h2 h3 h4 h5 h6 h7 h8
    all_goals refine R_FieldsOf_in ?_
    all_goals (unfold R_FieldsOf_lc; refine s_seq ?_; refine s_ops ?_; refine s_allocB hS ?_; (intro p2 w1 hS); refine s_mov (by (conv => lhs; whnf); first | done | exact rfl) ?_; refine s_nil ?_; (repeat (first | refine s_then ?_ | refine s_blockN ?_)); refine s_seq ?_; refine s_seq ?_; refine s_ops ?_; refine s_mov (by (conv => lhs; whnf); first | done | exact rfl) ?_; refine s_nil ?_; (repeat (first | refine s_then ?_ | refine s_blockN ?_)); refine s_block ?_; refine s_seq ?_; refine s_ops ?_)
    all_goals (first | (refine s_eql_t rfl rfl (by omega) ?_) | (refine s_eql_f rfl rfl (by omega) ?_))
    all_goals (refine s_mov (by (conv => lhs; whnf); first | done | exact rfl) ?_; refine s_nil ?_; (repeat (first | refine s_then ?_ | refine s_blockN ?_)))
    all_goals
      first
      | (refine s_cond_t rfl ?_ -- R_FieldsOf c0
         all_goals (refine s_seq ?_; refine s_ops ?_; refine s_build1 (cs := [_, _, _, _, _, _, _]) (by (conv => lhs; whnf); first | done | exact rfl) (by rfl) ?_; ((refine s_storenF hS rfl rfl (by rfl) (NthP.nth (by repeat constructor)) (by rfl) (by (simp [oneC]; done)) ?_; intro w1 hS; simp only [List.set_cons_zero, List.set_cons_succ] at hS)); refine s_mov (by (conv => lhs; whnf); first | done | exact rfl) ?_; refine s_nil ?_; (repeat (refine s_then ?_)); refine s_ret ?_; (repeat (refine s_retT ?_)); refine q_retc1 (by (conv => lhs; whnf); first | done | exact rfl) (holds_blk (n := 7) (by kernel_rfl) (by kernel_rfl) (hS.blkAt (NthP.nth (by repeat constructor))) (by rfl) (by rfl)) (by (conv => lhs; whnf); first | done | exact rfl) ?_)
         all_goals (((refine ⟨_, rfl, ?_, (hS.subP (by (repeat constructor); first | done | fail))⟩; (rfl); done))))
      | (refine s_cond_f rfl ?_ -- R_FieldsOf c0
         all_goals (refine s_seq ?_; refine s_seq ?_; refine s_ops ?_)
         all_goals (first | (refine s_eql_t rfl rfl (by omega) ?_) | (refine s_eql_f rfl rfl (by omega) ?_))
         all_goals (refine s_mov (by (conv => lhs; whnf); first | done | exact rfl) ?_; refine s_nil ?_; (repeat (first | refine s_then ?_ | refine s_blockN ?_)))
         all_goals
           first
           | (refine s_cond_t rfl ?_ -- R_FieldsOf c1
              all_goals (refine s_skip ?_; (repeat (refine s_then ?_))))
           | (refine s_cond_f rfl ?_ -- R_FieldsOf c1
              all_goals (refine s_ops ?_)
              all_goals (first | (refine s_eql_t rfl rfl (by omega) ?_) | (refine s_eql_f rfl rfl (by omega) ?_))
              all_goals (refine s_mov (by (conv => lhs; whnf); first | done | exact rfl) ?_)
              all_goals (refine s_nil ?_; (repeat (first | refine s_then ?_ | refine s_blockN ?_))))
         all_goals
           first
           | (refine s_cond_t rfl ?_ -- R_FieldsOf c2
              all_goals (refine s_seq ?_; refine s_ops ?_; refine s_build3 (cs := [_, _, _, _, _, _, _]) (by (conv => lhs; whnf); first | done | exact rfl) (by (conv => lhs; whnf); first | done | exact rfl) (by (conv => lhs; whnf); first | done | exact rfl) (by rfl) ?_; ((refine s_storenF hS rfl rfl (by rfl) (NthP.nth (by repeat constructor)) (by rfl) (by (simp [oneC]; done)) ?_; intro w1 hS; simp only [List.set_cons_zero, List.set_cons_succ] at hS)); refine s_mov (by (conv => lhs; whnf); first | done | exact rfl) ?_; refine s_nil ?_; (repeat (refine s_then ?_)); refine s_ret ?_; (repeat (refine s_retT ?_)); refine q_retc1 (by (conv => lhs; whnf); first | done | exact rfl) (holds_blk (n := 7) (by kernel_rfl) (by kernel_rfl) (hS.blkAt (NthP.nth (by repeat constructor))) (by rfl) (by rfl)) (by (conv => lhs; whnf); first | done | exact rfl) ?_)
              all_goals (((refine ⟨_, rfl, ?_, (hS.subP (by (repeat constructor); first | done | fail))⟩; (rfl); done))))
           | (refine s_cond_f rfl ?_ -- R_FieldsOf c2
              all_goals (refine s_seq ?_; refine s_seq ?_; refine s_ops ?_)
              all_goals (first | (refine s_eql_t rfl rfl (by omega) ?_) | (refine s_eql_f rfl rfl (by omega) ?_))
              all_goals (refine s_mov (by (conv => lhs; whnf); first | done | exact rfl) ?_; refine s_nil ?_; (repeat (first | refine s_then ?_ | refine s_blockN ?_)))
              all_goals
                first
                | (refine s_cond_t rfl ?_ -- R_FieldsOf c3
                   all_goals (refine s_skip ?_; (repeat (refine s_then ?_))))
                | (refine s_cond_f rfl ?_ -- R_FieldsOf c3
                   all_goals (refine s_ops ?_)
                   all_goals (first | (refine s_eql_t rfl rfl (by omega) ?_) | (refine s_eql_f rfl rfl (by omega) ?_))
                   all_goals (refine s_mov (by (conv => lhs; whnf); first | done | exact rfl) ?_)
                   all_goals (refine s_nil ?_; (repeat (first | refine s_then ?_ | refine s_blockN ?_))))
              all_goals
                first
                | (refine s_cond_t rfl ?_ -- R_FieldsOf c4
                   all_goals (refine s_seq ?_; refine s_ops ?_; refine s_build0 (cs := [_, _, _, _, _, _, _]) (by rfl) ?_; ((refine s_storenF hS rfl rfl (by rfl) (NthP.nth (by repeat constructor)) (by rfl) (by (simp [oneC]; done)) ?_; intro w1 hS; simp only [List.set_cons_zero, List.set_cons_succ] at hS)); refine s_mov (by (conv => lhs; whnf); first | done | exact rfl) ?_; refine s_nil ?_; (repeat (refine s_then ?_)); refine s_ret ?_; (repeat (refine s_retT ?_)); refine q_retc1 (by (conv => lhs; whnf); first | done | exact rfl) (holds_blk (n := 7) (by kernel_rfl) (by kernel_rfl) (hS.blkAt (NthP.nth (by repeat constructor))) (by rfl) (by rfl)) (by (conv => lhs; whnf); first | done | exact rfl) ?_)
                   all_goals (((refine ⟨_, rfl, ?_, (hS.subP (by (repeat constructor); first | done | fail))⟩; (rfl); done))))
                | (refine s_cond_f rfl ?_ -- R_FieldsOf c4
                   all_goals (refine s_seq ?_; refine s_seq ?_; refine s_ops ?_)
                   all_goals (first | (refine s_eql_t rfl rfl (by omega) ?_) | (refine s_eql_f rfl rfl (by omega) ?_))
                   all_goals (refine s_mov (by (conv => lhs; whnf); first | done | exact rfl) ?_; refine s_nil ?_; (repeat (first | refine s_then ?_ | refine s_blockN ?_)))
                   all_goals
                     first
                     | (refine s_cond_t rfl ?_ -- R_FieldsOf c5
                        all_goals (refine s_skip ?_; (repeat (refine s_then ?_))))
                     | (refine s_cond_f rfl ?_ -- R_FieldsOf c5
                        all_goals (refine s_seq ?_; refine s_ops ?_)
                        all_goals (first | (refine s_eql_t rfl rfl (by omega) ?_) | (refine s_eql_f rfl rfl (by omega) ?_))
                        all_goals (refine s_mov (by (conv => lhs; whnf); first | done | exact rfl) ?_; refine s_nil ?_; (repeat (first | refine s_then ?_ | refine s_blockN ?_)))
                        all_goals
                          first
                          | (refine s_cond_t rfl ?_ -- R_FieldsOf c6
                             all_goals (refine s_skip ?_; (repeat (refine s_then ?_))))
                          | (refine s_cond_f rfl ?_ -- R_FieldsOf c6
                             all_goals (refine s_ops ?_)
                             all_goals (first | (refine s_eql_t rfl rfl (by omega) ?_) | (refine s_eql_f rfl rfl (by omega) ?_))
                             all_goals (refine s_mov (by (conv => lhs; whnf); first | done | exact rfl) ?_)
                             all_goals (refine s_nil ?_; (repeat (first | refine s_then ?_ | refine s_blockN ?_)))))
                   all_goals
                     first
                     | (refine s_cond_t rfl ?_ -- R_FieldsOf c7
                        all_goals (refine s_seq ?_; refine s_ops ?_; refine s_build1 (cs := [_, _, _, _, _, _, _]) (by (conv => lhs; whnf); first | done | exact rfl) (by rfl) ?_; ((refine s_storenF hS rfl rfl (by rfl) (NthP.nth (by repeat constructor)) (by rfl) (by (simp [oneC]; done)) ?_; intro w1 hS; simp only [List.set_cons_zero, List.set_cons_succ] at hS)); refine s_mov (by (conv => lhs; whnf); first | done | exact rfl) ?_; refine s_nil ?_; (repeat (refine s_then ?_)); refine s_ret ?_; (repeat (refine s_retT ?_)); refine q_retc1 (by (conv => lhs; whnf); first | done | exact rfl) (holds_blk (n := 7) (by kernel_rfl) (by kernel_rfl) (hS.blkAt (NthP.nth (by repeat constructor))) (by rfl) (by rfl)) (by (conv => lhs; whnf); first | done | exact rfl) ?_)
                        all_goals (((refine ⟨_, rfl, ?_, (hS.subP (by (repeat constructor); first | done | fail))⟩; (rfl); done))))
                     | (refine s_cond_f rfl ?_ -- R_FieldsOf c7
                        all_goals (refine s_seq ?_; refine s_ops ?_)
                        all_goals (first | (refine s_eql_t rfl rfl (by omega) ?_) | (refine s_eql_f rfl rfl (by omega) ?_))
                        all_goals (refine s_mov (by (conv => lhs; whnf); first | done | exact rfl) ?_; refine s_nil ?_; (repeat (first | refine s_then ?_ | refine s_blockN ?_)))
                        all_goals
                          first
                          | (refine s_cond_t rfl ?_ -- R_FieldsOf c8
                             all_goals (refine s_seq ?_; refine s_ops ?_; refine s_build2 (cs := [_, _, _, _, _, _, _]) (by (conv => lhs; whnf); first | done | exact rfl) (by (conv => lhs; whnf); first | done | exact rfl) (by rfl) ?_; ((refine s_storenF hS rfl rfl (by rfl) (NthP.nth (by repeat constructor)) (by rfl) (by (simp [oneC]; done)) ?_; intro w1 hS; simp only [List.set_cons_zero, List.set_cons_succ] at hS)); refine s_mov (by (conv => lhs; whnf); first | done | exact rfl) ?_; refine s_nil ?_; (repeat (refine s_then ?_)); refine s_ret ?_; (repeat (refine s_retT ?_)); refine q_retc1 (by (conv => lhs; whnf); first | done | exact rfl) (holds_blk (n := 7) (by kernel_rfl) (by kernel_rfl) (hS.blkAt (NthP.nth (by repeat constructor))) (by rfl) (by rfl)) (by (conv => lhs; whnf); first | done | exact rfl) ?_)
                             all_goals (((refine ⟨_, rfl, ?_, (hS.subP (by (repeat constructor); first | done | fail))⟩; (rfl); done))))
                          | (refine s_cond_f rfl ?_ -- R_FieldsOf c8
                             all_goals (refine s_seq ?_; refine s_ops ?_)
                             all_goals (first | (refine s_eql_t rfl rfl (by omega) ?_) | (refine s_eql_f rfl rfl (by omega) ?_))
                             all_goals (refine s_mov (by (conv => lhs; whnf); first | done | exact rfl) ?_; refine s_nil ?_; (repeat (first | refine s_then ?_ | refine s_blockN ?_)))
                             all_goals
                               first
                               | (refine s_cond_t rfl ?_ -- R_FieldsOf c9
                                  all_goals (refine s_seq ?_; refine s_ops ?_; refine s_build2 (cs := [_, _, _, _, _, _, _]) (by (conv => lhs; whnf); first | done | exact rfl) (by (conv => lhs; whnf); first | done | exact rfl) (by rfl) ?_; ((refine s_storenF hS rfl rfl (by rfl) (NthP.nth (by repeat constructor)) (by rfl) (by (simp [oneC]; done)) ?_; intro w1 hS; simp only [List.set_cons_zero, List.set_cons_succ] at hS)); refine s_mov (by (conv => lhs; whnf); first | done | exact rfl) ?_; refine s_nil ?_; (repeat (refine s_then ?_)); refine s_ret ?_; (repeat (refine s_retT ?_)); refine q_retc1 (by (conv => lhs; whnf); first | done | exact rfl) (holds_blk (n := 7) (by kernel_rfl) (by kernel_rfl) (hS.blkAt (NthP.nth (by repeat constructor))) (by rfl) (by rfl)) (by (conv => lhs; whnf); first | done | exact rfl) ?_)
                                  all_goals (((refine ⟨_, rfl, ?_, (hS.subP (by (repeat constructor); first | done | fail))⟩; (rfl); done))))
                               | (refine s_cond_f rfl ?_ -- R_FieldsOf c9
                                  all_goals (refine s_seq ?_; refine s_seq ?_; refine s_ops ?_)
                                  all_goals (first | (refine s_eql_t rfl rfl (by omega) ?_) | (refine s_eql_f rfl rfl (by omega) ?_))
                                  all_goals (refine s_mov (by (conv => lhs; whnf); first | done | exact rfl) ?_; refine s_nil ?_; (repeat (first | refine s_then ?_ | refine s_blockN ?_)))
                                  all_goals
                                    first
                                    | (refine s_cond_t rfl ?_ -- R_FieldsOf c10
                                       all_goals (refine s_skip ?_; (repeat (refine s_then ?_))))
                                    | (refine s_cond_f rfl ?_ -- R_FieldsOf c10
                                       all_goals (refine s_ops ?_)
                                       all_goals (first | (refine s_eql_t rfl rfl (by omega) ?_) | (refine s_eql_f rfl rfl (by omega) ?_))
                                       all_goals (refine s_mov (by (conv => lhs; whnf); first | done | exact rfl) ?_)
                                       all_goals (refine s_nil ?_; (repeat (first | refine s_then ?_ | refine s_blockN ?_))))
                                  all_goals
                                    first
                                    | (refine s_cond_t rfl ?_ -- R_FieldsOf c11
                                       all_goals (refine s_seq ?_; refine s_ops ?_; refine s_build2 (cs := [_, _, _, _, _, _, _]) (by (conv => lhs; whnf); first | done | exact rfl) (by (conv => lhs; whnf); first | done | exact rfl) (by rfl) ?_; ((refine s_storenF hS rfl rfl (by rfl) (NthP.nth (by repeat constructor)) (by rfl) (by (simp [oneC]; done)) ?_; intro w1 hS; simp only [List.set_cons_zero, List.set_cons_succ] at hS)); refine s_mov (by (conv => lhs; whnf); first | done | exact rfl) ?_; refine s_nil ?_; (repeat (refine s_then ?_)); refine s_ret ?_; (repeat (refine s_retT ?_)); refine q_retc1 (by (conv => lhs; whnf); first | done | exact rfl) (holds_blk (n := 7) (by kernel_rfl) (by kernel_rfl) (hS.blkAt (NthP.nth (by repeat constructor))) (by rfl) (by rfl)) (by (conv => lhs; whnf); first | done | exact rfl) ?_)
                                       all_goals (((refine ⟨_, rfl, ?_, (hS.subP (by (repeat constructor); first | done | fail))⟩; (rfl); done))))
                                    | (refine s_cond_f rfl ?_ -- R_FieldsOf c11
                                       all_goals (refine s_seq ?_; refine s_ops ?_)
                                       all_goals (first | (refine s_eql_t rfl rfl (by omega) ?_) | (refine s_eql_f rfl rfl (by omega) ?_))
                                       all_goals (refine s_mov (by (conv => lhs; whnf); first | done | exact rfl) ?_; refine s_nil ?_; (repeat (first | refine s_then ?_ | refine s_blockN ?_)))
                                       all_goals
                                         first
                                         | (refine s_cond_t rfl ?_ -- R_FieldsOf c12
                                            all_goals (refine s_seq ?_; refine s_ops ?_; refine s_build3 (cs := [_, _, _, _, _, _, _]) (by (conv => lhs; whnf); first | done | exact rfl) (by (conv => lhs; whnf); first | done | exact rfl) (by (conv => lhs; whnf); first | done | exact rfl) (by rfl) ?_; ((refine s_storenF hS rfl rfl (by rfl) (NthP.nth (by repeat constructor)) (by rfl) (by (simp [oneC]; done)) ?_; intro w1 hS; simp only [List.set_cons_zero, List.set_cons_succ] at hS)); refine s_mov (by (conv => lhs; whnf); first | done | exact rfl) ?_; refine s_nil ?_; (repeat (refine s_then ?_)); refine s_ret ?_; (repeat (refine s_retT ?_)); refine q_retc1 (by (conv => lhs; whnf); first | done | exact rfl) (holds_blk (n := 7) (by kernel_rfl) (by kernel_rfl) (hS.blkAt (NthP.nth (by repeat constructor))) (by rfl) (by rfl)) (by (conv => lhs; whnf); first | done | exact rfl) ?_)
                                            all_goals (((refine ⟨_, rfl, ?_, (hS.subP (by (repeat constructor); first | done | fail))⟩; (rfl); done))))
                                         | (refine s_cond_f rfl ?_ -- R_FieldsOf c12
                                            all_goals (refine s_seq ?_; refine s_ops ?_)
                                            all_goals (first | (refine s_eql_t rfl rfl (by omega) ?_) | (refine s_eql_f rfl rfl (by omega) ?_))
                                            all_goals (refine s_mov (by (conv => lhs; whnf); first | done | exact rfl) ?_; refine s_nil ?_; (repeat (first | refine s_then ?_ | refine s_blockN ?_)))
                                            all_goals
                                              first
                                              | (refine s_cond_t rfl ?_ -- R_FieldsOf c13
                                                 all_goals (refine s_seq ?_; refine s_ops ?_; refine s_build3 (cs := [_, _, _, _, _, _, _]) (by (conv => lhs; whnf); first | done | exact rfl) (by (conv => lhs; whnf); first | done | exact rfl) (by (conv => lhs; whnf); first | done | exact rfl) (by rfl) ?_; ((refine s_storenF hS rfl rfl (by rfl) (NthP.nth (by repeat constructor)) (by rfl) (by (simp [oneC]; done)) ?_; intro w1 hS; simp only [List.set_cons_zero, List.set_cons_succ] at hS)); refine s_mov (by (conv => lhs; whnf); first | done | exact rfl) ?_; refine s_nil ?_; (repeat (refine s_then ?_)); refine s_ret ?_; (repeat (refine s_retT ?_)); refine q_retc1 (by (conv => lhs; whnf); first | done | exact rfl) (holds_blk (n := 7) (by kernel_rfl) (by kernel_rfl) (hS.blkAt (NthP.nth (by repeat constructor))) (by rfl) (by rfl)) (by (conv => lhs; whnf); first | done | exact rfl) ?_)
                                                 all_goals (((refine ⟨_, rfl, ?_, (hS.subP (by (repeat constructor); first | done | fail))⟩; (rfl); done))))
                                              | (refine s_cond_f rfl ?_ -- R_FieldsOf c13
                                                 all_goals (refine s_skip ?_; (repeat (first | refine s_then ?_ | refine s_blockN ?_))))))))))))
    all_goals (refine s_seq ?_; refine s_ops ?_; refine s_build0 (cs := [_, _, _, _, _, _, _]) (by rfl) ?_; ((refine s_storenF hS rfl rfl (by rfl) (NthP.nth (by repeat constructor)) (by rfl) (by (simp [oneC]; done)) ?_; intro w1 hS; simp only [List.set_cons_zero, List.set_cons_succ] at hS)); refine s_mov (by (conv => lhs; whnf); first | done | exact rfl) ?_; refine s_nil ?_; (repeat (first | refine s_then ?_ | refine s_blockN ?_)); refine s_ret ?_; (repeat (first | refine s_retT ?_ | refine s_retB ?_)); refine q_retc1 (by (conv => lhs; whnf); first | done | exact rfl) (holds_blk (n := 7) (by kernel_rfl) (by kernel_rfl) (hS.blkAt (NthP.nth (by repeat constructor))) (by rfl) (by rfl)) (by (conv => lhs; whnf); first | done | exact rfl) ?_; (((refine ⟨_, rfl, ?_, (hS.subP (by (repeat constructor); first | done | fail))⟩; (rfl); done))))
  · clear hbad
    rcases op_cases (op := op) (by omega) (by omega) with rfl | rfl | rfl | rfl | rfl | rfl | rfl | rfl | rfl | rfl | rfl | rfl | rfl | rfl
    all_goals clear hb
    all_goals refine R_FieldsOf_in ?_
    all_goals (unfold R_FieldsOf_lc; skip; refine s_seq ?_; refine s_ops ?_; refine s_allocB hS ?_; (intro p2 w1 hS); refine s_mov (by (conv => lhs; whnf); first | done | exact rfl) ?_; refine s_nil ?_; (repeat (first | refine s_then ?_ | refine s_blockN ?_)); refine s_seq ?_; refine s_seq ?_; refine s_ops ?_; refine s_mov (by (conv => lhs; whnf); first | done | exact rfl) ?_; refine s_nil ?_; (repeat (first | refine s_then ?_ | refine s_blockN ?_)); refine s_block ?_; refine s_seq ?_; refine s_ops ?_)
    all_goals (first | (refine s_eql_t rfl rfl (by omega) ?_) | (refine s_eql_f rfl rfl (by omega) ?_))
    all_goals (refine s_mov (by (conv => lhs; whnf); first | done | exact rfl) ?_; refine s_nil ?_; (repeat (first | refine s_then ?_ | refine s_blockN ?_)))
    all_goals
      first
      | (refine s_cond_t rfl ?_ -- R_FieldsOf c0
         all_goals (refine s_seq ?_; refine s_ops ?_; refine s_build1 (cs := [_, _, _, _, _, _, _]) (by (conv => lhs; whnf); first | done | exact rfl) (by rfl) ?_; ((refine s_storenF hS rfl rfl (by rfl) (NthP.nth (by repeat constructor)) (by rfl) (by (simp [oneC]; done)) ?_; intro w1 hS; simp only [List.set_cons_zero, List.set_cons_succ] at hS)); refine s_mov (by (conv => lhs; whnf); first | done | exact rfl) ?_; refine s_nil ?_; (repeat (first | refine s_then ?_ | refine s_blockN ?_)); refine s_ret ?_; (repeat (first | refine s_retT ?_ | refine s_retB ?_)); refine q_retc1 (by (conv => lhs; whnf); first | done | exact rfl) (holds_blk (n := 7) (by kernel_rfl) (by kernel_rfl) (hS.blkAt (NthP.nth (by repeat constructor))) (by rfl) (by rfl)) (by (conv => lhs; whnf); first | done | exact rfl) ?_)
         all_goals (((refine ⟨_, rfl, ?_, (hS.subP (by (repeat constructor); first | done | fail))⟩; (rfl); done))))
      | (refine s_cond_f rfl ?_ -- R_FieldsOf c0
         all_goals (refine s_seq ?_; refine s_seq ?_; refine s_ops ?_)
         all_goals (first | (refine s_eql_t rfl rfl (by omega) ?_) | (refine s_eql_f rfl rfl (by omega) ?_))
         all_goals (refine s_mov (by (conv => lhs; whnf); first | done | exact rfl) ?_; refine s_nil ?_; (repeat (first | refine s_then ?_ | refine s_blockN ?_)))
         all_goals
           first
           | (refine s_cond_t rfl ?_ -- R_FieldsOf c1
              all_goals (refine s_skip ?_; (repeat (first | refine s_then ?_ | refine s_blockN ?_))))
           | (refine s_cond_f rfl ?_ -- R_FieldsOf c1
              all_goals (refine s_ops ?_)
              all_goals (first | (refine s_eql_t rfl rfl (by omega) ?_) | (refine s_eql_f rfl rfl (by omega) ?_))
              all_goals (refine s_mov (by (conv => lhs; whnf); first | done | exact rfl) ?_)
              all_goals (refine s_nil ?_; (repeat (first | refine s_then ?_ | refine s_blockN ?_))))
         all_goals
           first
           | (refine s_cond_t rfl ?_ -- R_FieldsOf c2
              all_goals (refine s_seq ?_; refine s_ops ?_; refine s_build3 (cs := [_, _, _, _, _, _, _]) (by (conv => lhs; whnf); first | done | exact rfl) (by (conv => lhs; whnf); first | done | exact rfl) (by (conv => lhs; whnf); first | done | exact rfl) (by rfl) ?_; ((refine s_storenF hS rfl rfl (by rfl) (NthP.nth (by repeat constructor)) (by rfl) (by (simp [oneC]; done)) ?_; intro w1 hS; simp only [List.set_cons_zero, List.set_cons_succ] at hS)); refine s_mov (by (conv => lhs; whnf); first | done | exact rfl) ?_; refine s_nil ?_; (repeat (first | refine s_then ?_ | refine s_blockN ?_)); refine s_ret ?_; (repeat (first | refine s_retT ?_ | refine s_retB ?_)); refine q_retc1 (by (conv => lhs; whnf); first | done | exact rfl) (holds_blk (n := 7) (by kernel_rfl) (by kernel_rfl) (hS.blkAt (NthP.nth (by repeat constructor))) (by rfl) (by rfl)) (by (conv => lhs; whnf); first | done | exact rfl) ?_)
              all_goals (((refine ⟨_, rfl, ?_, (hS.subP (by (repeat constructor); first | done | fail))⟩; (rfl); done))))
           | (refine s_cond_f rfl ?_ -- R_FieldsOf c2
              all_goals (refine s_seq ?_; refine s_seq ?_; refine s_ops ?_)
              all_goals (first | (refine s_eql_t rfl rfl (by omega) ?_) | (refine s_eql_f rfl rfl (by omega) ?_))
              all_goals (refine s_mov (by (conv => lhs; whnf); first | done | exact rfl) ?_; refine s_nil ?_; (repeat (first | refine s_then ?_ | refine s_blockN ?_)))
              all_goals
                first
                | (refine s_cond_t rfl ?_ -- R_FieldsOf c3
                   all_goals (refine s_skip ?_; (repeat (first | refine s_then ?_ | refine s_blockN ?_))))
                | (refine s_cond_f rfl ?_ -- R_FieldsOf c3
                   all_goals (refine s_ops ?_)
                   all_goals (first | (refine s_eql_t rfl rfl (by omega) ?_) | (refine s_eql_f rfl rfl (by omega) ?_))
                   all_goals (refine s_mov (by (conv => lhs; whnf); first | done | exact rfl) ?_)
                   all_goals (refine s_nil ?_; (repeat (first | refine s_then ?_ | refine s_blockN ?_))))
              all_goals
                first
                | (refine s_cond_t rfl ?_ -- R_FieldsOf c4
                   all_goals (refine s_seq ?_; refine s_ops ?_; refine s_build0 (cs := [_, _, _, _, _, _, _]) (by rfl) ?_; ((refine s_storenF hS rfl rfl (by rfl) (NthP.nth (by repeat constructor)) (by rfl) (by (simp [oneC]; done)) ?_; intro w1 hS; simp only [List.set_cons_zero, List.set_cons_succ] at hS)); refine s_mov (by (conv => lhs; whnf); first | done | exact rfl) ?_; refine s_nil ?_; (repeat (first | refine s_then ?_ | refine s_blockN ?_)); refine s_ret ?_; (repeat (first | refine s_retT ?_ | refine s_retB ?_)); refine q_retc1 (by (conv => lhs; whnf); first | done | exact rfl) (holds_blk (n := 7) (by kernel_rfl) (by kernel_rfl) (hS.blkAt (NthP.nth (by repeat constructor))) (by rfl) (by rfl)) (by (conv => lhs; whnf); first | done | exact rfl) ?_)
                   all_goals (((refine ⟨_, rfl, ?_, (hS.subP (by (repeat constructor); first | done | fail))⟩; (rfl); done))))
                | (refine s_cond_f rfl ?_ -- R_FieldsOf c4
                   all_goals (refine s_seq ?_; refine s_seq ?_; refine s_ops ?_)
                   all_goals (first | (refine s_eql_t rfl rfl (by omega) ?_) | (refine s_eql_f rfl rfl (by omega) ?_))
                   all_goals (refine s_mov (by (conv => lhs; whnf); first | done | exact rfl) ?_; refine s_nil ?_; (repeat (first | refine s_then ?_ | refine s_blockN ?_)))
                   all_goals
                     first
                     | (refine s_cond_t rfl ?_ -- R_FieldsOf c5
                        all_goals (refine s_skip ?_; (repeat (first | refine s_then ?_ | refine s_blockN ?_))))
                     | (refine s_cond_f rfl ?_ -- R_FieldsOf c5
                        all_goals (refine s_seq ?_; refine s_ops ?_)
                        all_goals (first | (refine s_eql_t rfl rfl (by omega) ?_) | (refine s_eql_f rfl rfl (by omega) ?_))
                        all_goals (refine s_mov (by (conv => lhs; whnf); first | done | exact rfl) ?_; refine s_nil ?_; (repeat (first | refine s_then ?_ | refine s_blockN ?_)))
                        all_goals
                          first
                          | (refine s_cond_t rfl ?_ -- R_FieldsOf c6
                             all_goals (refine s_skip ?_; (repeat (first | refine s_then ?_ | refine s_blockN ?_))))
                          | (refine s_cond_f rfl ?_ -- R_FieldsOf c6
                             all_goals (refine s_ops ?_)
                             all_goals (first | (refine s_eql_t rfl rfl (by omega) ?_) | (refine s_eql_f rfl rfl (by omega) ?_))
                             all_goals (refine s_mov (by (conv => lhs; whnf); first | done | exact rfl) ?_)
                             all_goals (refine s_nil ?_; (repeat (first | refine s_then ?_ | refine s_blockN ?_)))))
                   all_goals
                     first
                     | (refine s_cond_t rfl ?_ -- R_FieldsOf c7
                        all_goals (refine s_seq ?_; refine s_ops ?_; refine s_build1 (cs := [_, _, _, _, _, _, _]) (by (conv => lhs; whnf); first | done | exact rfl) (by rfl) ?_; ((refine s_storenF hS rfl rfl (by rfl) (NthP.nth (by repeat constructor)) (by rfl) (by (simp [oneC]; done)) ?_; intro w1 hS; simp only [List.set_cons_zero, List.set_cons_succ] at hS)); refine s_mov (by (conv => lhs; whnf); first | done | exact rfl) ?_; refine s_nil ?_; (repeat (first | refine s_then ?_ | refine s_blockN ?_)); refine s_ret ?_; (repeat (first | refine s_retT ?_ | refine s_retB ?_)); refine q_retc1 (by (conv => lhs; whnf); first | done | exact rfl) (holds_blk (n := 7) (by kernel_rfl) (by kernel_rfl) (hS.blkAt (NthP.nth (by repeat constructor))) (by rfl) (by rfl)) (by (conv => lhs; whnf); first | done | exact rfl) ?_)
                        all_goals (((refine ⟨_, rfl, ?_, (hS.subP (by (repeat constructor); first | done | fail))⟩; (rfl); done))))
                     | (refine s_cond_f rfl ?_ -- R_FieldsOf c7
                        all_goals (refine s_seq ?_; refine s_ops ?_)
                        all_goals (first | (refine s_eql_t rfl rfl (by omega) ?_) | (refine s_eql_f rfl rfl (by omega) ?_))
                        all_goals (refine s_mov (by (conv => lhs; whnf); first | done | exact rfl) ?_; refine s_nil ?_; (repeat (first | refine s_then ?_ | refine s_blockN ?_)))
                        all_goals
                          first
                          | (refine s_cond_t rfl ?_ -- R_FieldsOf c8
                             all_goals (refine s_seq ?_; refine s_ops ?_; refine s_build2 (cs := [_, _, _, _, _, _, _]) (by (conv => lhs; whnf); first | done | exact rfl) (by (conv => lhs; whnf); first | done | exact rfl) (by rfl) ?_; ((refine s_storenF hS rfl rfl (by rfl) (NthP.nth (by repeat constructor)) (by rfl) (by (simp [oneC]; done)) ?_; intro w1 hS; simp only [List.set_cons_zero, List.set_cons_succ] at hS)); refine s_mov (by (conv => lhs; whnf); first | done | exact rfl) ?_; refine s_nil ?_; (repeat (first | refine s_then ?_ | refine s_blockN ?_)); refine s_ret ?_; (repeat (first | refine s_retT ?_ | refine s_retB ?_)); refine q_retc1 (by (conv => lhs; whnf); first | done | exact rfl) (holds_blk (n := 7) (by kernel_rfl) (by kernel_rfl) (hS.blkAt (NthP.nth (by repeat constructor))) (by rfl) (by rfl)) (by (conv => lhs; whnf); first | done | exact rfl) ?_)
                             all_goals (((refine ⟨_, rfl, ?_, (hS.subP (by (repeat constructor); first | done | fail))⟩; (rfl); done))))
                          | (refine s_cond_f rfl ?_ -- R_FieldsOf c8
                             all_goals (refine s_seq ?_; refine s_ops ?_)
                             all_goals (first | (refine s_eql_t rfl rfl (by omega) ?_) | (refine s_eql_f rfl rfl (by omega) ?_))
                             all_goals (refine s_mov (by (conv => lhs; whnf); first | done | exact rfl) ?_; refine s_nil ?_; (repeat (first | refine s_then ?_ | refine s_blockN ?_)))
                             all_goals
                               first
                               | (refine s_cond_t rfl ?_ -- R_FieldsOf c9
                                  all_goals (refine s_seq ?_; refine s_ops ?_; refine s_build2 (cs := [_, _, _, _, _, _, _]) (by (conv => lhs; whnf); first | done | exact rfl) (by (conv => lhs; whnf); first | done | exact rfl) (by rfl) ?_; ((refine s_storenF hS rfl rfl (by rfl) (NthP.nth (by repeat constructor)) (by rfl) (by (simp [oneC]; done)) ?_; intro w1 hS; simp only [List.set_cons_zero, List.set_cons_succ] at hS)); refine s_mov (by (conv => lhs; whnf); first | done | exact rfl) ?_; refine s_nil ?_; (repeat (first | refine s_then ?_ | refine s_blockN ?_)); refine s_ret ?_; (repeat (first | refine s_retT ?_ | refine s_retB ?_)); refine q_retc1 (by (conv => lhs; whnf); first | done | exact rfl) (holds_blk (n := 7) (by kernel_rfl) (by kernel_rfl) (hS.blkAt (NthP.nth (by repeat constructor))) (by rfl) (by rfl)) (by (conv => lhs; whnf); first | done | exact rfl) ?_)
                                  all_goals (((refine ⟨_, rfl, ?_, (hS.subP (by (repeat constructor); first | done | fail))⟩; (rfl); done))))
                               | (refine s_cond_f rfl ?_ -- R_FieldsOf c9
                                  all_goals (refine s_seq ?_; refine s_seq ?_; refine s_ops ?_)
                                  all_goals (first | (refine s_eql_t rfl rfl (by omega) ?_) | (refine s_eql_f rfl rfl (by omega) ?_))
                                  all_goals (refine s_mov (by (conv => lhs; whnf); first | done | exact rfl) ?_; refine s_nil ?_; (repeat (first | refine s_then ?_ | refine s_blockN ?_)))
                                  all_goals
                                    first
                                    | (refine s_cond_t rfl ?_ -- R_FieldsOf c10
                                       all_goals (refine s_skip ?_; (repeat (first | refine s_then ?_ | refine s_blockN ?_))))
                                    | (refine s_cond_f rfl ?_ -- R_FieldsOf c10
                                       all_goals (refine s_ops ?_)
                                       all_goals (first | (refine s_eql_t rfl rfl (by omega) ?_) | (refine s_eql_f rfl rfl (by omega) ?_))
                                       all_goals (refine s_mov (by (conv => lhs; whnf); first | done | exact rfl) ?_)
                                       all_goals (refine s_nil ?_; (repeat (first | refine s_then ?_ | refine s_blockN ?_))))
                                  all_goals
                                    first
                                    | (refine s_cond_t rfl ?_ -- R_FieldsOf c11
                                       all_goals (refine s_seq ?_; refine s_ops ?_; refine s_build2 (cs := [_, _, _, _, _, _, _]) (by (conv => lhs; whnf); first | done | exact rfl) (by (conv => lhs; whnf); first | done | exact rfl) (by rfl) ?_; ((refine s_storenF hS rfl rfl (by rfl) (NthP.nth (by repeat constructor)) (by rfl) (by (simp [oneC]; done)) ?_; intro w1 hS; simp only [List.set_cons_zero, List.set_cons_succ] at hS)); refine s_mov (by (conv => lhs; whnf); first | done | exact rfl) ?_; refine s_nil ?_; (repeat (first | refine s_then ?_ | refine s_blockN ?_)); refine s_ret ?_; (repeat (first | refine s_retT ?_ | refine s_retB ?_)); refine q_retc1 (by (conv => lhs; whnf); first | done | exact rfl) (holds_blk (n := 7) (by kernel_rfl) (by kernel_rfl) (hS.blkAt (NthP.nth (by repeat constructor))) (by rfl) (by rfl)) (by (conv => lhs; whnf); first | done | exact rfl) ?_)
                                       all_goals (((refine ⟨_, rfl, ?_, (hS.subP (by (repeat constructor); first | done | fail))⟩; (rfl); done))))
                                    | (refine s_cond_f rfl ?_ -- R_FieldsOf c11
                                       all_goals (refine s_seq ?_; refine s_ops ?_)
                                       all_goals (first | (refine s_eql_t rfl rfl (by omega) ?_) | (refine s_eql_f rfl rfl (by omega) ?_))
                                       all_goals (refine s_mov (by (conv => lhs; whnf); first | done | exact rfl) ?_; refine s_nil ?_; (repeat (first | refine s_then ?_ | refine s_blockN ?_)))
                                       all_goals
                                         first
                                         | (refine s_cond_t rfl ?_ -- R_FieldsOf c12
                                            all_goals (refine s_seq ?_; refine s_ops ?_; refine s_build3 (cs := [_, _, _, _, _, _, _]) (by (conv => lhs; whnf); first | done | exact rfl) (by (conv => lhs; whnf); first | done | exact rfl) (by (conv => lhs; whnf); first | done | exact rfl) (by rfl) ?_; ((refine s_storenF hS rfl rfl (by rfl) (NthP.nth (by repeat constructor)) (by rfl) (by (simp [oneC]; done)) ?_; intro w1 hS; simp only [List.set_cons_zero, List.set_cons_succ] at hS)); refine s_mov (by (conv => lhs; whnf); first | done | exact rfl) ?_; refine s_nil ?_; (repeat (first | refine s_then ?_ | refine s_blockN ?_)); refine s_ret ?_; (repeat (first | refine s_retT ?_ | refine s_retB ?_)); refine q_retc1 (by (conv => lhs; whnf); first | done | exact rfl) (holds_blk (n := 7) (by kernel_rfl) (by kernel_rfl) (hS.blkAt (NthP.nth (by repeat constructor))) (by rfl) (by rfl)) (by (conv => lhs; whnf); first | done | exact rfl) ?_)
                                            all_goals (((refine ⟨_, rfl, ?_, (hS.subP (by (repeat constructor); first | done | fail))⟩; (rfl); done))))
                                         | (refine s_cond_f rfl ?_ -- R_FieldsOf c12
                                            all_goals (refine s_seq ?_; refine s_ops ?_)
                                            all_goals ((refine s_eql_t rfl rfl (by omega) ?_))
                                            all_goals (refine s_mov (by (conv => lhs; whnf); first | done | exact rfl) ?_; refine s_nil ?_; (repeat (first | refine s_then ?_ | refine s_blockN ?_)))
                                            all_goals
                                              first
                                              | (refine s_cond_t rfl ?_ -- R_FieldsOf c13
                                                 all_goals (refine s_seq ?_; refine s_ops ?_; refine s_build3 (cs := [_, _, _, _, _, _, _]) (by (conv => lhs; whnf); first | done | exact rfl) (by (conv => lhs; whnf); first | done | exact rfl) (by (conv => lhs; whnf); first | done | exact rfl) (by rfl) ?_; ((refine s_storenF hS rfl rfl (by rfl) (NthP.nth (by repeat constructor)) (by rfl) (by (simp [oneC]; done)) ?_; intro w1 hS; simp only [List.set_cons_zero, List.set_cons_succ] at hS)); refine s_mov (by (conv => lhs; whnf); first | done | exact rfl) ?_; refine s_nil ?_; (repeat (first | refine s_then ?_ | refine s_blockN ?_)); refine s_ret ?_; (repeat (first | refine s_retT ?_ | refine s_retB ?_)); refine q_retc1 (by (conv => lhs; whnf); first | done | exact rfl) (holds_blk (n := 7) (by kernel_rfl) (by kernel_rfl) (hS.blkAt (NthP.nth (by repeat constructor))) (by rfl) (by rfl)) (by (conv => lhs; whnf); first | done | exact rfl) ?_)
                                                 all_goals (((refine ⟨_, rfl, ?_, (hS.subP (by (repeat constructor); first | done | fail))⟩; (rfl); done))))))))))))
    all_goals (refine s_seq ?_; refine s_ops ?_; refine s_build0 (cs := [_, _, _, _, _, _, _]) (by rfl) ?_; ((refine s_storenF hS rfl rfl (by rfl) (NthP.nth (by repeat constructor)) (by rfl) (by (simp [oneC]; done)) ?_; intro w1 hS; simp only [List.set_cons_zero, List.set_cons_succ] at hS)); refine s_mov (by (conv => lhs; whnf); first | done | exact rfl) ?_; refine s_nil ?_; (repeat (refine s_then ?_)); refine s_ret ?_; (repeat (refine s_retT ?_)); refine q_retc1 (by (conv => lhs; whnf); first | done | exact rfl) (holds_blk (n := 7) (by kernel_rfl) (by kernel_rfl) (hS.blkAt (NthP.nth (by repeat constructor))) (by rfl) (by rfl)) (by (conv => lhs; whnf); first | done | exact rfl) ?_; (((refine ⟨_, rfl, ?_, (hS.subP (by (repeat constructor); first | done | fail))⟩; (rfl); done))))
theorem rins_c {x : Ins} {m : Module} {cs ds : List Value} (hm : modR.at cx cs m) (hx : insR.at cx ds x) (hS : St cx w L) : Rets Try.prog R_InsForm [.agg ⟨cs⟩, .agg ⟨ds⟩] w fun u w' => u = .int .i64 (insForm m.funcs.length x) ∧ St cx w' L := by
  obtain ⟨vf, rfl, hf⟩ := modR_out hm
  obtain ⟨vr, va, rfl, hr, ha⟩ := insR_out hx
  have hlr := hr.len
  have hla := ha.len
  have hln := hf.len
  unfold insForm
  all_goals refine R_InsForm_in ?_
  all_goals (unfold R_InsForm_lc; refine s_seq ?_; refine s_ops ?_; refine s_boxB hS (by (conv => lhs; whnf); first | done | exact rfl) (by rfl) ?_; (intro p2 w1 hS); refine s_boxB hS (by (conv => lhs; whnf); first | done | exact rfl) (by rfl) ?_; (intro p3 w1 hS); refine s_mov (by (conv => lhs; whnf); first | done | exact rfl) ?_; refine s_nil ?_; (repeat (first | refine s_then ?_ | refine s_blockN ?_)); refine s_seq ?_; refine s_ops ?_; (refine s_fld0 rfl ?_); ((refine s_loadB hS rfl (NthP.nth (by repeat constructor)) rfl ?_)); refine s_rets_1 (by (conv => lhs; whnf); first | done | exact rfl) (fields_c hS) ?_; rintro v1 w1 ⟨rfl, hS⟩; refine s_mov (by (conv => lhs; whnf); first | done | exact rfl) ?_; refine s_ext rfl rfl ?_; refine s_ext rfl rfl ?_; refine s_allocB hS ?_; (intro p5 w1 hS); ((refine s_storenF hS rfl rfl (by rfl) (NthP.nth (by repeat constructor)) (by rfl) (by (simp [oneC]; done)) ?_; intro w1 hS; simp only [List.set_cons_zero, List.set_cons_succ] at hS)))
  all_goals (refine s_mov (by (conv => lhs; whnf); first | done | exact rfl) ?_; refine s_nil ?_; (repeat (first | refine s_then ?_ | refine s_blockN ?_)))
  refine s_ask (i := 2) (by (conv => lhs; whnf); first | done | exact rfl) (fun e2 => ?_)
  refine s_ask (i := 3) (by (conv => lhs; whnf); first | done | exact rfl) (fun e3 => ?_)
  refine s_ask (i := 5) (by (conv => lhs; whnf); first | done | exact rfl) (fun e5 => ?_)
  refine s_mid ((fun {xx2 V2 : Value} (_ : xx2 = V2) {xx3 V3 : Value} (_ : xx3 = V3) {xx5 V5 : Value} (_ : xx5 = V5) {cc : Cx} {ww : World} {LL : List Res} (_ : St cc ww LL) => (fun ρ' w' => Has ρ' [(2, V2), (3, V3), (5, V5)] ∧ (1 ≤ x.op ∧ x.op ≤ 14) ∧ St cx w' (LL) : Env → World → Prop)) e2 e3 e5 hS) ?_ ?_
  · skip
    all_goals (refine s_seq ?_)
    all_goals (cases hop : decide (1 ≤ x.op ∧ x.op ≤ 14))
    all_goals (refine s_ops ?_; refine s_mov (by (conv => lhs; whnf); first | done | exact rfl) ?_; refine s_not rfl ?_; refine s_nil ?_; (repeat (first | refine s_then ?_ | refine s_blockN ?_)))
    all_goals
      first
      | (refine s_cond_t rfl ?_ -- R_InsForm c0
         all_goals (refine s_seq ?_; refine s_ops ?_; refine s_mov (by (conv => lhs; whnf); first | done | exact rfl) ?_; refine s_nil ?_; (repeat (first | refine s_then ?_ | refine s_blockN ?_)); refine s_ret ?_; (repeat (first | refine s_retT ?_ | refine s_retB ?_)); refine q_ret1 (by (conv => lhs; whnf); first | done | exact rfl) ?_)
         all_goals (((refine ⟨_, rfl, ?_, (hS.subP (by (repeat constructor); first | done | fail))⟩; (rw [if_pos (by have := of_decide_eq_false hop; omega)]); done))))
      | (refine s_cond_f rfl ?_ -- R_InsForm c0
         all_goals (refine s_skip ?_; (repeat (first | refine s_then ?_ | refine s_blockN ?_))))
    all_goals (((exact ⟨⟨rfl, rfl, rfl, trivial⟩, by exact of_decide_eq_true hop, (hS.subP (by (repeat constructor); first | done | fail))⟩)))
  dsimp only; clear e2 e3 e5; rintro ρ w1 ⟨hρ, hop, hS⟩; obtain ⟨ρ, rfl⟩ := env_intro _ hρ; obtain ⟨a1, ha1⟩ : ∃ b, fA x.op = b := ⟨_, rfl⟩; obtain ⟨a2, ha2⟩ : ∃ b, fB x.op = b := ⟨_, rfl⟩; obtain ⟨a3, ha3⟩ : ∃ b, fC x.op = b := ⟨_, rfl⟩; obtain ⟨a4, ha4⟩ : ∃ b, fK x.op = b := ⟨_, rfl⟩; obtain ⟨a5, ha5⟩ : ∃ b, fN x.op = b := ⟨_, rfl⟩; obtain ⟨a6, ha6⟩ : ∃ b, fG x.op = b := ⟨_, rfl⟩; obtain ⟨a7, ha7⟩ : ∃ b, fR x.op = b := ⟨_, rfl⟩; rw [ha1, ha2, ha3, ha4, ha5, ha6, ha7] at hS
  refine s_ask (i := 2) (by (conv => lhs; whnf); first | done | exact rfl) (fun e2 => ?_)
  refine s_ask (i := 3) (by (conv => lhs; whnf); first | done | exact rfl) (fun e3 => ?_)
  refine s_mid ((fun {xx2 V2 : Value} (_ : xx2 = V2) {xx3 V3 : Value} (_ : xx3 = V3) {cc : Cx} {ww : World} {LL : List Res} (_ : St cc ww LL) => (fun ρ' w' => Has ρ' [(2, V2), (3, V3)] ∧ (¬ x.odd) ∧ St cx w' (LL) : Env → World → Prop)) e2 e3 hS) ?_ ?_
  · skip
    all_goals (refine s_seq ?_; refine s_ops ?_)
    refine s_askO (i := 2) (by (conv => lhs; whnf); first | done | exact rfl) (fun e2 => ?_)
    refine s_askO (i := 3) (by (conv => lhs; whnf); first | done | exact rfl) (fun e3 => ?_)
    refine s_askO (i := 5) (by (conv => lhs; whnf); first | done | exact rfl) (fun e5 => ?_)
    refine s_cut 8 ((fun {xx2 V2 : Value} (_ : xx2 = V2) {xx3 V3 : Value} (_ : xx3 = V3) {xx5 V5 : Value} (_ : xx5 = V5) {cc : Cx} {ww : World} {LL : List Res} (_ : St cc ww LL) => (fun ρ' w' => ∃ (q1 : Bool), Has ρ' [(2, V2), (3, V3), (5, V5), (22, .bool q1)] ∧ (q1 = true ↔ (fA x.op = false ∧ x.a ≠ 0)) ∧ St cx w' (LL) : Env → World → Prop)) e2 e3 e5 hS) ?_ ?_
    · skip
      all_goals ((refine s_fld0 rfl ?_); ((refine s_loadB hS rfl (NthP.nth (by repeat constructor)) rfl ?_)))
      all_goals (cases a1)
      all_goals (refine s_not rfl ?_; refine s_mov (by (conv => lhs; whnf); first | done | exact rfl) ?_; (first | refine s_gn rfl rfl ?_ | (refine s_gy rfl ?_; (refine s_fld0 rfl ?_))); (first | refine s_gn rfl rfl ?_ | (refine s_gy rfl ?_; ((refine s_loadB hS rfl (NthP.nth (by repeat constructor)) rfl ?_)))))
      all_goals (first | refine s_gn rfl rfl ?_ | (refine s_gy rfl ?_; (first | (refine s_neq_t rfl rfl (by omega) ?_) | (refine s_neq_f rfl rfl (by omega) ?_) | (refine s_neq_s rfl rfl (fun hc => ?_) (fun hc => ?_)))))
      all_goals ((first | refine s_pick_t rfl (by (conv => lhs; whnf); first | done | exact rfl) ?_ | refine s_pick_f rfl (by (conv => lhs; whnf); first | done | exact rfl) ?_); refine s_nil ?_; refine s_then ?_)
      all_goals (first | (exact ⟨_, ⟨rfl, rfl, rfl, rfl, trivial⟩, by exact ⟨fun _ => ⟨(by first | rfl | assumption), by omega⟩, fun _ => rfl⟩, (hS.subP (by (repeat constructor); first | done | fail))⟩) | (exact ⟨_, ⟨rfl, rfl, rfl, rfl, trivial⟩, by exact ⟨fun h => Bool.noConfusion h, fun h => by obtain ⟨h1, h2⟩ := h; first | (exfalso; omega) | (simp_all; done)⟩, (hS.subP (by (repeat constructor); first | done | fail))⟩))
    dsimp only; clear e2 e3 e5; rintro ρ w1 ⟨q1, hρ, hq1, hS⟩; obtain ⟨ρ, rfl⟩ := env_intro _ hρ
    refine s_askO (i := 2) (by (conv => lhs; whnf); first | done | exact rfl) (fun e2 => ?_)
    refine s_askO (i := 3) (by (conv => lhs; whnf); first | done | exact rfl) (fun e3 => ?_)
    refine s_askO (i := 5) (by (conv => lhs; whnf); first | done | exact rfl) (fun e5 => ?_)
    refine s_cut 10 ((fun {xx2 V2 : Value} (_ : xx2 = V2) {xx3 V3 : Value} (_ : xx3 = V3) {xx5 V5 : Value} (_ : xx5 = V5) {cc : Cx} {ww : World} {LL : List Res} (_ : St cc ww LL) => (fun ρ' w' => ∃ (q2 : Bool), Has ρ' [(2, V2), (3, V3), (5, V5), (32, .bool q2)] ∧ (q2 = true ↔ ((fA x.op = false ∧ x.a ≠ 0) ∨ (fB x.op = false ∧ x.b ≠ 0))) ∧ St cx w' (LL) : Env → World → Prop)) e2 e3 e5 hS) ?_ ?_
    · skip
      all_goals (cases q1)
      all_goals (refine s_mov (by (conv => lhs; whnf); first | done | exact rfl) ?_; (first | refine s_gn rfl rfl ?_ | (refine s_gy rfl ?_; (refine s_fld0 rfl ?_))); (first | refine s_gn rfl rfl ?_ | (refine s_gy rfl ?_; ((refine s_loadB hS rfl (NthP.nth (by repeat constructor)) rfl ?_)))))
      all_goals (cases a2)
      all_goals ((first | refine s_gn rfl rfl ?_ | (refine s_gy rfl ?_; refine s_not rfl ?_)); (first | refine s_gn rfl rfl ?_ | (refine s_gy rfl ?_; refine s_mov (by (conv => lhs; whnf); first | done | exact rfl) ?_)); (first | refine s_gn rfl rfl ?_ | (refine s_gy rfl ?_; (refine s_fld0 rfl ?_))); (first | refine s_gn rfl rfl ?_ | (refine s_gy rfl ?_; ((refine s_loadB hS rfl (NthP.nth (by repeat constructor)) rfl ?_)))))
      all_goals (first | refine s_gn rfl rfl ?_ | (refine s_gy rfl ?_; (first | (refine s_neq_t rfl rfl (by omega) ?_) | (refine s_neq_f rfl rfl (by omega) ?_) | (refine s_neq_s rfl rfl (fun hc => ?_) (fun hc => ?_)))))
      all_goals ((first | refine s_gn rfl rfl ?_ | (refine s_gy rfl ?_; (first | refine s_pick_t rfl (by (conv => lhs; whnf); first | done | exact rfl) ?_ | refine s_pick_f rfl (by (conv => lhs; whnf); first | done | exact rfl) ?_))); (first | refine s_pick_t rfl (by (conv => lhs; whnf); first | done | exact rfl) ?_ | refine s_pick_f rfl (by (conv => lhs; whnf); first | done | exact rfl) ?_); refine s_nil ?_; refine s_then ?_)
      all_goals (first | (exact ⟨_, ⟨rfl, rfl, rfl, rfl, trivial⟩, by exact ⟨fun _ => .inl (hq1.1 rfl), fun _ => rfl⟩, (hS.subP (by (repeat constructor); first | done | fail))⟩) | (exact ⟨_, ⟨rfl, rfl, rfl, rfl, trivial⟩, by exact ⟨fun _ => .inr ⟨(by first | rfl | assumption), by omega⟩, fun _ => rfl⟩, (hS.subP (by (repeat constructor); first | done | fail))⟩) | (exact ⟨_, ⟨rfl, rfl, rfl, rfl, trivial⟩, by exact ⟨fun h => Bool.noConfusion h, fun h => h.elim (fun h => hq1.2 h) (fun h => by obtain ⟨h1, h2⟩ := h; first | (exfalso; omega) | (simp_all; done))⟩, (hS.subP (by (repeat constructor); first | done | fail))⟩))
    dsimp only; clear e2 e3 e5; rintro ρ w1 ⟨q2, hρ, hq2, hS⟩; obtain ⟨ρ, rfl⟩ := env_intro _ hρ
    refine s_askO (i := 2) (by (conv => lhs; whnf); first | done | exact rfl) (fun e2 => ?_)
    refine s_askO (i := 3) (by (conv => lhs; whnf); first | done | exact rfl) (fun e3 => ?_)
    refine s_askO (i := 5) (by (conv => lhs; whnf); first | done | exact rfl) (fun e5 => ?_)
    refine s_cut 10 ((fun {xx2 V2 : Value} (_ : xx2 = V2) {xx3 V3 : Value} (_ : xx3 = V3) {xx5 V5 : Value} (_ : xx5 = V5) {cc : Cx} {ww : World} {LL : List Res} (_ : St cc ww LL) => (fun ρ' w' => ∃ (q3 : Bool), Has ρ' [(2, V2), (3, V3), (5, V5), (42, .bool q3)] ∧ (q3 = true ↔ (((fA x.op = false ∧ x.a ≠ 0) ∨ (fB x.op = false ∧ x.b ≠ 0)) ∨ (fC x.op = false ∧ x.c ≠ 0))) ∧ St cx w' (LL) : Env → World → Prop)) e2 e3 e5 hS) ?_ ?_
    · skip
      all_goals (cases q2)
      all_goals (refine s_mov (by (conv => lhs; whnf); first | done | exact rfl) ?_; (first | refine s_gn rfl rfl ?_ | (refine s_gy rfl ?_; (refine s_fld0 rfl ?_))); (first | refine s_gn rfl rfl ?_ | (refine s_gy rfl ?_; ((refine s_loadB hS rfl (NthP.nth (by repeat constructor)) rfl ?_)))))
      all_goals (cases a3)
      all_goals ((first | refine s_gn rfl rfl ?_ | (refine s_gy rfl ?_; refine s_not rfl ?_)); (first | refine s_gn rfl rfl ?_ | (refine s_gy rfl ?_; refine s_mov (by (conv => lhs; whnf); first | done | exact rfl) ?_)); (first | refine s_gn rfl rfl ?_ | (refine s_gy rfl ?_; (refine s_fld0 rfl ?_))); (first | refine s_gn rfl rfl ?_ | (refine s_gy rfl ?_; ((refine s_loadB hS rfl (NthP.nth (by repeat constructor)) rfl ?_)))))
      all_goals (first | refine s_gn rfl rfl ?_ | (refine s_gy rfl ?_; (first | (refine s_neq_t rfl rfl (by omega) ?_) | (refine s_neq_f rfl rfl (by omega) ?_) | (refine s_neq_s rfl rfl (fun hc => ?_) (fun hc => ?_)))))
      all_goals ((first | refine s_gn rfl rfl ?_ | (refine s_gy rfl ?_; (first | refine s_pick_t rfl (by (conv => lhs; whnf); first | done | exact rfl) ?_ | refine s_pick_f rfl (by (conv => lhs; whnf); first | done | exact rfl) ?_))); (first | refine s_pick_t rfl (by (conv => lhs; whnf); first | done | exact rfl) ?_ | refine s_pick_f rfl (by (conv => lhs; whnf); first | done | exact rfl) ?_); refine s_nil ?_; refine s_then ?_)
      all_goals (first | (exact ⟨_, ⟨rfl, rfl, rfl, rfl, trivial⟩, by exact ⟨fun _ => .inl (hq2.1 rfl), fun _ => rfl⟩, (hS.subP (by (repeat constructor); first | done | fail))⟩) | (exact ⟨_, ⟨rfl, rfl, rfl, rfl, trivial⟩, by exact ⟨fun _ => .inr ⟨(by first | rfl | assumption), by omega⟩, fun _ => rfl⟩, (hS.subP (by (repeat constructor); first | done | fail))⟩) | (exact ⟨_, ⟨rfl, rfl, rfl, rfl, trivial⟩, by exact ⟨fun h => Bool.noConfusion h, fun h => h.elim (fun h => hq2.2 h) (fun h => by obtain ⟨h1, h2⟩ := h; first | (exfalso; omega) | (simp_all; done))⟩, (hS.subP (by (repeat constructor); first | done | fail))⟩))
    dsimp only; clear e2 e3 e5; rintro ρ w1 ⟨q3, hρ, hq3, hS⟩; obtain ⟨ρ, rfl⟩ := env_intro _ hρ
    refine s_askO (i := 2) (by (conv => lhs; whnf); first | done | exact rfl) (fun e2 => ?_)
    refine s_askO (i := 3) (by (conv => lhs; whnf); first | done | exact rfl) (fun e3 => ?_)
    refine s_askO (i := 5) (by (conv => lhs; whnf); first | done | exact rfl) (fun e5 => ?_)
    refine s_cut 10 ((fun {xx2 V2 : Value} (_ : xx2 = V2) {xx3 V3 : Value} (_ : xx3 = V3) {xx5 V5 : Value} (_ : xx5 = V5) {cc : Cx} {ww : World} {LL : List Res} (_ : St cc ww LL) => (fun ρ' w' => ∃ (q4 : Bool), Has ρ' [(2, V2), (3, V3), (5, V5), (52, .bool q4)] ∧ (q4 = true ↔ ((((fA x.op = false ∧ x.a ≠ 0) ∨ (fB x.op = false ∧ x.b ≠ 0)) ∨ (fC x.op = false ∧ x.c ≠ 0)) ∨ (fK x.op = false ∧ x.k ≠ 0))) ∧ St cx w' (LL) : Env → World → Prop)) e2 e3 e5 hS) ?_ ?_
    · skip
      all_goals (cases q3)
      all_goals (refine s_mov (by (conv => lhs; whnf); first | done | exact rfl) ?_; (first | refine s_gn rfl rfl ?_ | (refine s_gy rfl ?_; (refine s_fld0 rfl ?_))); (first | refine s_gn rfl rfl ?_ | (refine s_gy rfl ?_; ((refine s_loadB hS rfl (NthP.nth (by repeat constructor)) rfl ?_)))))
      all_goals (cases a4)
      all_goals ((first | refine s_gn rfl rfl ?_ | (refine s_gy rfl ?_; refine s_not rfl ?_)); (first | refine s_gn rfl rfl ?_ | (refine s_gy rfl ?_; refine s_mov (by (conv => lhs; whnf); first | done | exact rfl) ?_)); (first | refine s_gn rfl rfl ?_ | (refine s_gy rfl ?_; (refine s_fld0 rfl ?_))); (first | refine s_gn rfl rfl ?_ | (refine s_gy rfl ?_; ((refine s_loadB hS rfl (NthP.nth (by repeat constructor)) rfl ?_)))))
      all_goals (first | refine s_gn rfl rfl ?_ | (refine s_gy rfl ?_; (first | (refine s_neq_t rfl rfl (by omega) ?_) | (refine s_neq_f rfl rfl (by omega) ?_) | (refine s_neq_s rfl rfl (fun hc => ?_) (fun hc => ?_)))))
      all_goals ((first | refine s_gn rfl rfl ?_ | (refine s_gy rfl ?_; (first | refine s_pick_t rfl (by (conv => lhs; whnf); first | done | exact rfl) ?_ | refine s_pick_f rfl (by (conv => lhs; whnf); first | done | exact rfl) ?_))); (first | refine s_pick_t rfl (by (conv => lhs; whnf); first | done | exact rfl) ?_ | refine s_pick_f rfl (by (conv => lhs; whnf); first | done | exact rfl) ?_); refine s_nil ?_; refine s_then ?_)
      all_goals (first | (exact ⟨_, ⟨rfl, rfl, rfl, rfl, trivial⟩, by exact ⟨fun _ => .inl (hq3.1 rfl), fun _ => rfl⟩, (hS.subP (by (repeat constructor); first | done | fail))⟩) | (exact ⟨_, ⟨rfl, rfl, rfl, rfl, trivial⟩, by exact ⟨fun _ => .inr ⟨(by first | rfl | assumption), by omega⟩, fun _ => rfl⟩, (hS.subP (by (repeat constructor); first | done | fail))⟩) | (exact ⟨_, ⟨rfl, rfl, rfl, rfl, trivial⟩, by exact ⟨fun h => Bool.noConfusion h, fun h => h.elim (fun h => hq3.2 h) (fun h => by obtain ⟨h1, h2⟩ := h; first | (exfalso; omega) | (simp_all; done))⟩, (hS.subP (by (repeat constructor); first | done | fail))⟩))
    dsimp only; clear e2 e3 e5; rintro ρ w1 ⟨q4, hρ, hq4, hS⟩; obtain ⟨ρ, rfl⟩ := env_intro _ hρ
    refine s_askO (i := 2) (by (conv => lhs; whnf); first | done | exact rfl) (fun e2 => ?_)
    refine s_askO (i := 3) (by (conv => lhs; whnf); first | done | exact rfl) (fun e3 => ?_)
    refine s_askO (i := 5) (by (conv => lhs; whnf); first | done | exact rfl) (fun e5 => ?_)
    refine s_cut 10 ((fun {xx2 V2 : Value} (_ : xx2 = V2) {xx3 V3 : Value} (_ : xx3 = V3) {xx5 V5 : Value} (_ : xx5 = V5) {cc : Cx} {ww : World} {LL : List Res} (_ : St cc ww LL) => (fun ρ' w' => ∃ (q5 : Bool), Has ρ' [(2, V2), (3, V3), (5, V5), (62, .bool q5)] ∧ (q5 = true ↔ (((((fA x.op = false ∧ x.a ≠ 0) ∨ (fB x.op = false ∧ x.b ≠ 0)) ∨ (fC x.op = false ∧ x.c ≠ 0)) ∨ (fK x.op = false ∧ x.k ≠ 0)) ∨ (fN x.op = false ∧ x.n ≠ 0))) ∧ St cx w' (LL) : Env → World → Prop)) e2 e3 e5 hS) ?_ ?_
    · skip
      all_goals (cases q4)
      all_goals (refine s_mov (by (conv => lhs; whnf); first | done | exact rfl) ?_; (first | refine s_gn rfl rfl ?_ | (refine s_gy rfl ?_; (refine s_fld0 rfl ?_))); (first | refine s_gn rfl rfl ?_ | (refine s_gy rfl ?_; ((refine s_loadB hS rfl (NthP.nth (by repeat constructor)) rfl ?_)))))
      all_goals (cases a5)
      all_goals ((first | refine s_gn rfl rfl ?_ | (refine s_gy rfl ?_; refine s_not rfl ?_)); (first | refine s_gn rfl rfl ?_ | (refine s_gy rfl ?_; refine s_mov (by (conv => lhs; whnf); first | done | exact rfl) ?_)); (first | refine s_gn rfl rfl ?_ | (refine s_gy rfl ?_; (refine s_fld0 rfl ?_))); (first | refine s_gn rfl rfl ?_ | (refine s_gy rfl ?_; ((refine s_loadB hS rfl (NthP.nth (by repeat constructor)) rfl ?_)))))
      all_goals (first | refine s_gn rfl rfl ?_ | (refine s_gy rfl ?_; (first | (refine s_neq_t rfl rfl (by omega) ?_) | (refine s_neq_f rfl rfl (by omega) ?_) | (refine s_neq_s rfl rfl (fun hc => ?_) (fun hc => ?_)))))
      all_goals ((first | refine s_gn rfl rfl ?_ | (refine s_gy rfl ?_; (first | refine s_pick_t rfl (by (conv => lhs; whnf); first | done | exact rfl) ?_ | refine s_pick_f rfl (by (conv => lhs; whnf); first | done | exact rfl) ?_))); (first | refine s_pick_t rfl (by (conv => lhs; whnf); first | done | exact rfl) ?_ | refine s_pick_f rfl (by (conv => lhs; whnf); first | done | exact rfl) ?_); refine s_nil ?_; refine s_then ?_)
      all_goals (first | (exact ⟨_, ⟨rfl, rfl, rfl, rfl, trivial⟩, by exact ⟨fun _ => .inl (hq4.1 rfl), fun _ => rfl⟩, (hS.subP (by (repeat constructor); first | done | fail))⟩) | (exact ⟨_, ⟨rfl, rfl, rfl, rfl, trivial⟩, by exact ⟨fun _ => .inr ⟨(by first | rfl | assumption), by omega⟩, fun _ => rfl⟩, (hS.subP (by (repeat constructor); first | done | fail))⟩) | (exact ⟨_, ⟨rfl, rfl, rfl, rfl, trivial⟩, by exact ⟨fun h => Bool.noConfusion h, fun h => h.elim (fun h => hq4.2 h) (fun h => by obtain ⟨h1, h2⟩ := h; first | (exfalso; omega) | (simp_all; done))⟩, (hS.subP (by (repeat constructor); first | done | fail))⟩))
    dsimp only; clear e2 e3 e5; rintro ρ w1 ⟨q5, hρ, hq5, hS⟩; obtain ⟨ρ, rfl⟩ := env_intro _ hρ
    refine s_askO (i := 2) (by (conv => lhs; whnf); first | done | exact rfl) (fun e2 => ?_)
    refine s_askO (i := 3) (by (conv => lhs; whnf); first | done | exact rfl) (fun e3 => ?_)
    refine s_askO (i := 5) (by (conv => lhs; whnf); first | done | exact rfl) (fun e5 => ?_)
    refine s_cut 11 ((fun {xx2 V2 : Value} (_ : xx2 = V2) {xx3 V3 : Value} (_ : xx3 = V3) {xx5 V5 : Value} (_ : xx5 = V5) {cc : Cx} {ww : World} {LL : List Res} (_ : St cc ww LL) => (fun ρ' w' => ∃ (q6 : Bool), Has ρ' [(2, V2), (3, V3), (5, V5), (73, .bool q6)] ∧ (q6 = true ↔ ((((((fA x.op = false ∧ x.a ≠ 0) ∨ (fB x.op = false ∧ x.b ≠ 0)) ∨ (fC x.op = false ∧ x.c ≠ 0)) ∨ (fK x.op = false ∧ x.k ≠ 0)) ∨ (fN x.op = false ∧ x.n ≠ 0)) ∨ (fG x.op = false ∧ 0 < x.regs.length))) ∧ St cx w' (LL) : Env → World → Prop)) e2 e3 e5 hS) ?_ ?_
    · skip
      all_goals (cases q5)
      all_goals (refine s_mov (by (conv => lhs; whnf); first | done | exact rfl) ?_; (first | refine s_gn rfl rfl ?_ | (refine s_gy rfl ?_; (refine s_fld0 rfl ?_))); (first | refine s_gn rfl rfl ?_ | (refine s_gy rfl ?_; ((refine s_loadB hS rfl (NthP.nth (by repeat constructor)) rfl ?_)))))
      all_goals (cases a6)
      all_goals ((first | refine s_gn rfl rfl ?_ | (refine s_gy rfl ?_; refine s_not rfl ?_)); (first | refine s_gn rfl rfl ?_ | (refine s_gy rfl ?_; refine s_mov (by (conv => lhs; whnf); first | done | exact rfl) ?_)); (first | refine s_gn rfl rfl ?_ | (refine s_gy rfl ?_; (refine s_fld0 rfl ?_))); (first | refine s_gn rfl rfl ?_ | (refine s_gy rfl ?_; ((refine s_loadB hS rfl (NthP.nth (by repeat constructor)) rfl ?_)))); (first | refine s_gn rfl rfl ?_ | (refine s_gy rfl ?_; ((refine s_lenL (by (conv => lhs; whnf); first | done | exact rfl) (by assumption) ?_)))))
      all_goals (first | refine s_gn rfl rfl ?_ | (refine s_gy rfl ?_; (first | (refine s_gtr_t rfl rfl (by omega) ?_) | (refine s_gtr_f rfl rfl (by omega) ?_) | (refine s_gtr_s rfl rfl (fun hc => ?_) (fun hc => ?_)))))
      all_goals ((first | refine s_gn rfl rfl ?_ | (refine s_gy rfl ?_; (first | refine s_pick_t rfl (by (conv => lhs; whnf); first | done | exact rfl) ?_ | refine s_pick_f rfl (by (conv => lhs; whnf); first | done | exact rfl) ?_))); (first | refine s_pick_t rfl (by (conv => lhs; whnf); first | done | exact rfl) ?_ | refine s_pick_f rfl (by (conv => lhs; whnf); first | done | exact rfl) ?_); refine s_nil ?_; refine s_then ?_)
      all_goals (first | (exact ⟨_, ⟨rfl, rfl, rfl, rfl, trivial⟩, by exact ⟨fun _ => .inl (hq5.1 rfl), fun _ => rfl⟩, (hS.subP (by (repeat constructor); first | done | fail))⟩) | (exact ⟨_, ⟨rfl, rfl, rfl, rfl, trivial⟩, by exact ⟨fun _ => .inr ⟨(by first | rfl | assumption), by omega⟩, fun _ => rfl⟩, (hS.subP (by (repeat constructor); first | done | fail))⟩) | (exact ⟨_, ⟨rfl, rfl, rfl, rfl, trivial⟩, by exact ⟨fun h => Bool.noConfusion h, fun h => h.elim (fun h => hq5.2 h) (fun h => by obtain ⟨h1, h2⟩ := h; first | (exfalso; omega) | (simp_all; done))⟩, (hS.subP (by (repeat constructor); first | done | fail))⟩))
    dsimp only; clear e2 e3 e5; rintro ρ w1 ⟨q6, hρ, hq6, hS⟩; obtain ⟨ρ, rfl⟩ := env_intro _ hρ
    all_goals (cases q6)
    all_goals (refine s_mov (by (conv => lhs; whnf); first | done | exact rfl) ?_; (first | refine s_gn rfl rfl ?_ | (refine s_gy rfl ?_; (refine s_fld0 rfl ?_))); (first | refine s_gn rfl rfl ?_ | (refine s_gy rfl ?_; ((refine s_loadB hS rfl (NthP.nth (by repeat constructor)) rfl ?_)))))
    all_goals (cases a7)
    all_goals ((first | refine s_gn rfl rfl ?_ | (refine s_gy rfl ?_; refine s_not rfl ?_)); (first | refine s_gn rfl rfl ?_ | (refine s_gy rfl ?_; refine s_mov (by (conv => lhs; whnf); first | done | exact rfl) ?_)); (first | refine s_gn rfl rfl ?_ | (refine s_gy rfl ?_; (refine s_fld0 rfl ?_))); (first | refine s_gn rfl rfl ?_ | (refine s_gy rfl ?_; ((refine s_loadB hS rfl (NthP.nth (by repeat constructor)) rfl ?_)))); (first | refine s_gn rfl rfl ?_ | (refine s_gy rfl ?_; ((refine s_lenL (by (conv => lhs; whnf); first | done | exact rfl) (by assumption) ?_)))))
    all_goals (first | refine s_gn rfl rfl ?_ | (refine s_gy rfl ?_; (first | (refine s_gtr_t rfl rfl (by omega) ?_) | (refine s_gtr_f rfl rfl (by omega) ?_) | (refine s_gtr_s rfl rfl (fun hc => ?_) (fun hc => ?_)))))
    all_goals ((first | refine s_gn rfl rfl ?_ | (refine s_gy rfl ?_; (first | refine s_pick_t rfl (by (conv => lhs; whnf); first | done | exact rfl) ?_ | refine s_pick_f rfl (by (conv => lhs; whnf); first | done | exact rfl) ?_))); (first | refine s_pick_t rfl (by (conv => lhs; whnf); first | done | exact rfl) ?_ | refine s_pick_f rfl (by (conv => lhs; whnf); first | done | exact rfl) ?_); refine s_nil ?_; (repeat (first | refine s_then ?_ | refine s_blockN ?_)))
    all_goals
      first
      | (refine s_cond_t rfl ?_ -- R_InsForm c1
         all_goals (refine s_seq ?_; refine s_ops ?_; refine s_mov (by (conv => lhs; whnf); first | done | exact rfl) ?_; refine s_nil ?_; (repeat (first | refine s_then ?_ | refine s_blockN ?_)); refine s_ret ?_; (repeat (first | refine s_retT ?_ | refine s_retB ?_)); refine q_ret1 (by (conv => lhs; whnf); first | done | exact rfl) ?_)
         all_goals (first | ((refine ⟨_, rfl, ?_, (hS.subP (by (repeat constructor); first | done | fail))⟩; (rw [if_pos (by have := of_decide_eq_false hop; omega)]); done)) | ((refine ⟨_, rfl, ?_, (hS.subP (by (repeat constructor); first | done | fail))⟩; (have ho : x.odd := (by unfold Ins.odd; simp only [← or_assoc]; first | exact .inl (hq6.1 rfl) | exact .inr ⟨(by first | rfl | assumption), by omega⟩); rw [if_neg (by omega), if_pos ho]); done))))
      | (refine s_cond_f rfl ?_ -- R_InsForm c1
         all_goals (refine s_skip ?_; (repeat (first | refine s_then ?_ | refine s_blockN ?_))))
    all_goals ((exact ⟨⟨rfl, rfl, trivial⟩, by intro h; unfold Ins.odd at h; simp only [← or_assoc] at h; exact h.elim (fun h => Bool.noConfusion (hq6.2 h)) (fun h => by obtain ⟨h1, h2⟩ := h; first | (exfalso; omega) | (simp_all; done)), (hS.subP (by (repeat constructor); first | done | fail))⟩))
  dsimp only; clear e2 e3; rintro ρ w1 ⟨hρ, hodd, hS⟩; obtain ⟨ρ, rfl⟩ := env_intro _ hρ
  all_goals (refine s_seq ?_; refine s_seq ?_; clear hm hx; refine s_ops ?_; (refine s_fld0 rfl ?_); ((refine s_loadB hS rfl (NthP.nth (by repeat constructor)) rfl ?_)); refine s_nil ?_; (repeat (first | refine s_then ?_ | refine s_blockN ?_)); refine s_block ?_; refine s_seq ?_; refine s_ops ?_)
  all_goals (first | (refine s_eql_t rfl rfl (by omega) ?_) | (refine s_eql_f rfl rfl (by omega) ?_) | (refine s_eql_s rfl rfl (fun hc => ?_) (fun hc => ?_)))
  all_goals (refine s_mov (by (conv => lhs; whnf); first | done | exact rfl) ?_; refine s_nil ?_; (repeat (first | refine s_then ?_ | refine s_blockN ?_)))
  all_goals
    first
    | (refine s_cond_t rfl ?_ -- R_InsForm c2
       all_goals (refine s_seq ?_; refine s_ops ?_; (refine s_fld0 rfl ?_); ((refine s_loadB hS rfl (NthP.nth (by repeat constructor)) rfl ?_)))
       all_goals (first | (refine s_lss_t rfl rfl (by omega) ?_) | (refine s_lss_f rfl rfl (by omega) ?_) | (refine s_lss_s rfl rfl (fun hc => ?_) (fun hc => ?_)))
       all_goals (refine s_mov (by (conv => lhs; whnf); first | done | exact rfl) ?_; (first | refine s_gn rfl rfl ?_ | (refine s_gy rfl ?_; (refine s_fld0 rfl ?_))); (first | refine s_gn rfl rfl ?_ | (refine s_gy rfl ?_; ((refine s_loadB hS rfl (NthP.nth (by repeat constructor)) rfl ?_)))))
       all_goals (first | refine s_gn rfl rfl ?_ | (refine s_gy rfl ?_; (first | (refine s_gtr_t rfl rfl (by omega) ?_) | (refine s_gtr_f rfl rfl (by omega) ?_) | (refine s_gtr_s rfl rfl (fun hc => ?_) (fun hc => ?_)))))
       all_goals ((first | refine s_pick_t rfl (by (conv => lhs; whnf); first | done | exact rfl) ?_ | refine s_pick_f rfl (by (conv => lhs; whnf); first | done | exact rfl) ?_); refine s_nil ?_; (repeat (first | refine s_then ?_ | refine s_blockN ?_)))
       all_goals
         first
         | (refine s_cond_t rfl ?_ -- R_InsForm c3
            all_goals (refine s_seq ?_; refine s_ops ?_; refine s_mov (by (conv => lhs; whnf); first | done | exact rfl) ?_; refine s_nil ?_; (repeat (first | refine s_then ?_ | refine s_blockN ?_)); refine s_ret ?_; (repeat (first | refine s_retT ?_ | refine s_retB ?_)); refine q_ret1 (by (conv => lhs; whnf); first | done | exact rfl) ?_)
            all_goals (first | ((refine ⟨_, rfl, ?_, (hS.subP (by (repeat constructor); first | done | fail))⟩; (rw [if_pos (by have := of_decide_eq_false hop; omega)]); done)) | ((refine ⟨_, rfl, ?_, (hS.subP (by (repeat constructor); first | done | fail))⟩; (have ho : x.odd := (by unfold Ins.odd; simp only [← or_assoc]; first | exact .inl (hq6.1 rfl) | exact .inr ⟨(by first | rfl | assumption), by omega⟩); rw [if_neg (by omega), if_pos ho]); done)) | ((refine ⟨_, rfl, ?_, (hS.subP (by (repeat constructor); first | done | fail))⟩; (rw [if_neg (by omega), if_neg hodd]; unfold insKind; (repeat (first | rw [if_pos (by omega)] | rw [if_neg (by omega)]))); done))))
         | (refine s_cond_f rfl ?_ -- R_InsForm c3
            all_goals (refine s_skip ?_; (repeat (first | refine s_then ?_ | refine s_blockN ?_)))))
    | (refine s_cond_f rfl ?_ -- R_InsForm c2
       all_goals (refine s_seq ?_; refine s_ops ?_)
       all_goals (first | (refine s_eql_t rfl rfl (by omega) ?_) | (refine s_eql_f rfl rfl (by omega) ?_) | (refine s_eql_s rfl rfl (fun hc => ?_) (fun hc => ?_)))
       all_goals (refine s_mov (by (conv => lhs; whnf); first | done | exact rfl) ?_; refine s_nil ?_; (repeat (first | refine s_then ?_ | refine s_blockN ?_)))
       all_goals
         first
         | (refine s_cond_t rfl ?_ -- R_InsForm c4
            all_goals (refine s_seq ?_; refine s_ops ?_; (refine s_fld0 rfl ?_); ((refine s_loadB hS rfl (NthP.nth (by repeat constructor)) rfl ?_)); ((refine s_lenL (by (conv => lhs; whnf); first | done | exact rfl) (by assumption) ?_)))
            all_goals (first | (refine s_gtr_t rfl rfl (by omega) ?_) | (refine s_gtr_f rfl rfl (by omega) ?_) | (refine s_gtr_s rfl rfl (fun hc => ?_) (fun hc => ?_)))
            all_goals (refine s_nil ?_; (repeat (first | refine s_then ?_ | refine s_blockN ?_)))
            all_goals
              first
              | (refine s_cond_t rfl ?_ -- R_InsForm c5
                 all_goals (refine s_seq ?_; refine s_ops ?_; refine s_mov (by (conv => lhs; whnf); first | done | exact rfl) ?_; refine s_nil ?_; (repeat (first | refine s_then ?_ | refine s_blockN ?_)); refine s_ret ?_; (repeat (first | refine s_retT ?_ | refine s_retB ?_)); refine q_ret1 (by (conv => lhs; whnf); first | done | exact rfl) ?_)
                 all_goals (first | ((refine ⟨_, rfl, ?_, (hS.subP (by (repeat constructor); first | done | fail))⟩; (rw [if_pos (by have := of_decide_eq_false hop; omega)]); done)) | ((refine ⟨_, rfl, ?_, (hS.subP (by (repeat constructor); first | done | fail))⟩; (have ho : x.odd := (by unfold Ins.odd; simp only [← or_assoc]; first | exact .inl (hq6.1 rfl) | exact .inr ⟨(by first | rfl | assumption), by omega⟩); rw [if_neg (by omega), if_pos ho]); done)) | ((refine ⟨_, rfl, ?_, (hS.subP (by (repeat constructor); first | done | fail))⟩; (rw [if_neg (by omega), if_neg hodd]; unfold insKind; (repeat (first | rw [if_pos (by omega)] | rw [if_neg (by omega)]))); done))))
              | (refine s_cond_f rfl ?_ -- R_InsForm c5
                 all_goals (refine s_skip ?_; (repeat (first | refine s_then ?_ | refine s_blockN ?_)))))
         | (refine s_cond_f rfl ?_ -- R_InsForm c4
            all_goals (refine s_seq ?_; refine s_seq ?_; refine s_ops ?_)
            all_goals (first | (refine s_eql_t rfl rfl (by omega) ?_) | (refine s_eql_f rfl rfl (by omega) ?_) | (refine s_eql_s rfl rfl (fun hc => ?_) (fun hc => ?_)))
            all_goals (refine s_mov (by (conv => lhs; whnf); first | done | exact rfl) ?_; refine s_nil ?_; (repeat (first | refine s_then ?_ | refine s_blockN ?_)))
            all_goals
              first
              | (refine s_cond_t rfl ?_ -- R_InsForm c6
                 all_goals (refine s_skip ?_; (repeat (first | refine s_then ?_ | refine s_blockN ?_))))
              | (refine s_cond_f rfl ?_ -- R_InsForm c6
                 all_goals (refine s_ops ?_)
                 all_goals (first | (refine s_eql_t rfl rfl (by omega) ?_) | (refine s_eql_f rfl rfl (by omega) ?_) | (refine s_eql_s rfl rfl (fun hc => ?_) (fun hc => ?_)))
                 all_goals (refine s_mov (by (conv => lhs; whnf); first | done | exact rfl) ?_)
                 all_goals (refine s_nil ?_; (repeat (first | refine s_then ?_ | refine s_blockN ?_))))
            all_goals
              first
              | (refine s_cond_t rfl ?_ -- R_InsForm c7
                 all_goals (refine s_seq ?_; refine s_ops ?_; (refine s_fld0 rfl ?_); ((refine s_loadB hS rfl (NthP.nth (by repeat constructor)) rfl ?_)))
                 all_goals (first | (refine s_lss_t rfl rfl (by omega) ?_) | (refine s_lss_f rfl rfl (by omega) ?_) | (refine s_lss_s rfl rfl (fun hc => ?_) (fun hc => ?_)))
                 all_goals (refine s_mov (by (conv => lhs; whnf); first | done | exact rfl) ?_; (first | refine s_gn rfl rfl ?_ | (refine s_gy rfl ?_; (refine s_fld0 rfl ?_))); (first | refine s_gn rfl rfl ?_ | (refine s_gy rfl ?_; ((refine s_loadB hS rfl (NthP.nth (by repeat constructor)) rfl ?_)))))
                 all_goals (first | refine s_gn rfl rfl ?_ | (refine s_gy rfl ?_; (first | (refine s_gtr_t rfl rfl (by omega) ?_) | (refine s_gtr_f rfl rfl (by omega) ?_) | (refine s_gtr_s rfl rfl (fun hc => ?_) (fun hc => ?_)))))
                 all_goals ((first | refine s_pick_t rfl (by (conv => lhs; whnf); first | done | exact rfl) ?_ | refine s_pick_f rfl (by (conv => lhs; whnf); first | done | exact rfl) ?_); refine s_nil ?_; (repeat (first | refine s_then ?_ | refine s_blockN ?_)))
                 all_goals
                   first
                   | (refine s_cond_t rfl ?_ -- R_InsForm c8
                      all_goals (refine s_seq ?_; refine s_ops ?_; refine s_mov (by (conv => lhs; whnf); first | done | exact rfl) ?_; refine s_nil ?_; (repeat (first | refine s_then ?_ | refine s_blockN ?_)); refine s_ret ?_; (repeat (first | refine s_retT ?_ | refine s_retB ?_)); refine q_ret1 (by (conv => lhs; whnf); first | done | exact rfl) ?_)
                      all_goals (first | ((refine ⟨_, rfl, ?_, (hS.subP (by (repeat constructor); first | done | fail))⟩; (rw [if_pos (by have := of_decide_eq_false hop; omega)]); done)) | ((refine ⟨_, rfl, ?_, (hS.subP (by (repeat constructor); first | done | fail))⟩; (have ho : x.odd := (by unfold Ins.odd; simp only [← or_assoc]; first | exact .inl (hq6.1 rfl) | exact .inr ⟨(by first | rfl | assumption), by omega⟩); rw [if_neg (by omega), if_pos ho]); done)) | ((refine ⟨_, rfl, ?_, (hS.subP (by (repeat constructor); first | done | fail))⟩; (rw [if_neg (by omega), if_neg hodd]; unfold insKind; (repeat (first | rw [if_pos (by omega)] | rw [if_neg (by omega)]))); done))))
                   | (refine s_cond_f rfl ?_ -- R_InsForm c8
                      all_goals (refine s_skip ?_; (repeat (first | refine s_then ?_ | refine s_blockN ?_)))))
              | (refine s_cond_f rfl ?_ -- R_InsForm c7
                 all_goals (refine s_seq ?_; refine s_ops ?_)
                 all_goals (first | (refine s_eql_t rfl rfl (by omega) ?_) | (refine s_eql_f rfl rfl (by omega) ?_) | (refine s_eql_s rfl rfl (fun hc => ?_) (fun hc => ?_)))
                 all_goals (refine s_mov (by (conv => lhs; whnf); first | done | exact rfl) ?_; refine s_nil ?_; (repeat (first | refine s_then ?_ | refine s_blockN ?_)))
                 all_goals
                   first
                   | (refine s_cond_t rfl ?_ -- R_InsForm c9
                      all_goals (refine s_seq ?_; refine s_seq ?_; refine s_ops ?_; (refine s_fld0 rfl ?_); ((refine s_loadB hS rfl (NthP.nth (by repeat constructor)) rfl ?_)))
                      all_goals (first | (refine s_lss_t rfl rfl (by omega) ?_) | (refine s_lss_f rfl rfl (by omega) ?_) | (refine s_lss_s rfl rfl (fun hc => ?_) (fun hc => ?_)))
                      all_goals (refine s_mov (by (conv => lhs; whnf); first | done | exact rfl) ?_; (first | refine s_gn rfl rfl ?_ | (refine s_gy rfl ?_; (refine s_fld0 rfl ?_))); (first | refine s_gn rfl rfl ?_ | (refine s_gy rfl ?_; ((refine s_loadB hS rfl (NthP.nth (by repeat constructor)) rfl ?_)))); (first | refine s_gn rfl rfl ?_ | (refine s_gy rfl ?_; (refine s_fld0 rfl ?_))); (first | refine s_gn rfl rfl ?_ | (refine s_gy rfl ?_; ((refine s_loadB hS rfl (NthP.nth (by repeat constructor)) rfl ?_)))); (first | refine s_gn rfl rfl ?_ | (refine s_gy rfl ?_; ((refine s_lenL (by (conv => lhs; whnf); first | done | exact rfl) (by assumption) ?_)))))
                      all_goals (first | refine s_gn rfl rfl ?_ | (refine s_gy rfl ?_; (first | (refine s_geq_t rfl rfl (by omega) ?_) | (refine s_geq_f rfl rfl (by omega) ?_) | (refine s_geq_s rfl rfl (fun hc => ?_) (fun hc => ?_)))))
                      all_goals ((first | refine s_pick_t rfl (by (conv => lhs; whnf); first | done | exact rfl) ?_ | refine s_pick_f rfl (by (conv => lhs; whnf); first | done | exact rfl) ?_); refine s_nil ?_; (repeat (first | refine s_then ?_ | refine s_blockN ?_)))
                      all_goals
                        first
                        | (refine s_cond_t rfl ?_ -- R_InsForm c10
                           all_goals (refine s_seq ?_; refine s_ops ?_; refine s_mov (by (conv => lhs; whnf); first | done | exact rfl) ?_; refine s_nil ?_; (repeat (first | refine s_then ?_ | refine s_blockN ?_)); refine s_ret ?_; (repeat (first | refine s_retT ?_ | refine s_retB ?_)); refine q_ret1 (by (conv => lhs; whnf); first | done | exact rfl) ?_)
                           all_goals (first | ((refine ⟨_, rfl, ?_, (hS.subP (by (repeat constructor); first | done | fail))⟩; (rw [if_pos (by have := of_decide_eq_false hop; omega)]); done)) | ((refine ⟨_, rfl, ?_, (hS.subP (by (repeat constructor); first | done | fail))⟩; (have ho : x.odd := (by unfold Ins.odd; simp only [← or_assoc]; first | exact .inl (hq6.1 rfl) | exact .inr ⟨(by first | rfl | assumption), by omega⟩); rw [if_neg (by omega), if_pos ho]); done)) | ((refine ⟨_, rfl, ?_, (hS.subP (by (repeat constructor); first | done | fail))⟩; (rw [if_neg (by omega), if_neg hodd]; unfold insKind; (repeat (first | rw [if_pos (by omega)] | rw [if_neg (by omega)]))); done))))
                        | (refine s_cond_f rfl ?_ -- R_InsForm c10
                           all_goals (refine s_skip ?_; (repeat (first | refine s_then ?_ | refine s_blockN ?_))))
                      all_goals (refine s_seq ?_; refine s_ops ?_; (refine s_fld0 rfl ?_); ((refine s_loadB hS rfl (NthP.nth (by repeat constructor)) rfl ?_)); ((refine s_lenL (by (conv => lhs; whnf); first | done | exact rfl) (by assumption) ?_)))
                      all_goals (first | (refine s_gtr_t rfl rfl (by omega) ?_) | (refine s_gtr_f rfl rfl (by omega) ?_) | (refine s_gtr_s rfl rfl (fun hc => ?_) (fun hc => ?_)))
                      all_goals (refine s_mov (by (conv => lhs; whnf); first | done | exact rfl) ?_; (first | refine s_gn rfl rfl ?_ | (refine s_gy rfl ?_; (refine s_fld0 rfl ?_))); (first | refine s_gn rfl rfl ?_ | (refine s_gy rfl ?_; ((refine s_loadB hS rfl (NthP.nth (by repeat constructor)) rfl ?_)))); (first | refine s_gn rfl rfl ?_ | (refine s_gy rfl ?_; ((refine s_lenL (by (conv => lhs; whnf); first | done | exact rfl) (by assumption) ?_)))))
                      all_goals (first | refine s_gn rfl rfl ?_ | (refine s_gy rfl ?_; (first | (refine s_gtr_t rfl rfl (by omega) ?_) | (refine s_gtr_f rfl rfl (by omega) ?_) | (refine s_gtr_s rfl rfl (fun hc => ?_) (fun hc => ?_)))))
                      all_goals ((first | refine s_pick_t rfl (by (conv => lhs; whnf); first | done | exact rfl) ?_ | refine s_pick_f rfl (by (conv => lhs; whnf); first | done | exact rfl) ?_); refine s_nil ?_; (repeat (first | refine s_then ?_ | refine s_blockN ?_)))
                      all_goals
                        first
                        | (refine s_cond_t rfl ?_ -- R_InsForm c11
                           all_goals (refine s_seq ?_; refine s_ops ?_; refine s_mov (by (conv => lhs; whnf); first | done | exact rfl) ?_; refine s_nil ?_; (repeat (first | refine s_then ?_ | refine s_blockN ?_)); refine s_ret ?_; (repeat (first | refine s_retT ?_ | refine s_retB ?_)); refine q_ret1 (by (conv => lhs; whnf); first | done | exact rfl) ?_)
                           all_goals (first | ((refine ⟨_, rfl, ?_, (hS.subP (by (repeat constructor); first | done | fail))⟩; (rw [if_pos (by have := of_decide_eq_false hop; omega)]); done)) | ((refine ⟨_, rfl, ?_, (hS.subP (by (repeat constructor); first | done | fail))⟩; (have ho : x.odd := (by unfold Ins.odd; simp only [← or_assoc]; first | exact .inl (hq6.1 rfl) | exact .inr ⟨(by first | rfl | assumption), by omega⟩); rw [if_neg (by omega), if_pos ho]); done)) | ((refine ⟨_, rfl, ?_, (hS.subP (by (repeat constructor); first | done | fail))⟩; (rw [if_neg (by omega), if_neg hodd]; unfold insKind; (repeat (first | rw [if_pos (by omega)] | rw [if_neg (by omega)]))); done))))
                        | (refine s_cond_f rfl ?_ -- R_InsForm c11
                           all_goals (refine s_skip ?_; (repeat (first | refine s_then ?_ | refine s_blockN ?_)))))
                   | (refine s_cond_f rfl ?_ -- R_InsForm c9
                      all_goals (refine s_skip ?_; (repeat (first | refine s_then ?_ | refine s_blockN ?_)))))))
  all_goals (refine s_seq ?_; refine s_ops ?_; refine s_mov (by (conv => lhs; whnf); first | done | exact rfl) ?_; refine s_nil ?_; (repeat (first | refine s_then ?_ | refine s_blockN ?_)); refine s_ret ?_; (repeat (first | refine s_retT ?_ | refine s_retB ?_)); refine q_ret1 (by (conv => lhs; whnf); first | done | exact rfl) ?_; (first | ((refine ⟨_, rfl, ?_, (hS.subP (by (repeat constructor); first | done | fail))⟩; (rw [if_pos (by have := of_decide_eq_false hop; omega)]); done)) | ((refine ⟨_, rfl, ?_, (hS.subP (by (repeat constructor); first | done | fail))⟩; (have ho : x.odd := (by unfold Ins.odd; simp only [← or_assoc]; first | exact .inl (hq6.1 rfl) | exact .inr ⟨(by first | rfl | assumption), by omega⟩); rw [if_neg (by omega), if_pos ho]); done)) | ((refine ⟨_, rfl, ?_, (hS.subP (by (repeat constructor); first | done | fail))⟩; (rw [if_neg (by omega), if_neg hodd]; unfold insKind; (repeat (first | rw [if_pos (by omega)] | rw [if_neg (by omega)]))); done))))
end Go.Proofs.Ytanlkfeogoganaa
