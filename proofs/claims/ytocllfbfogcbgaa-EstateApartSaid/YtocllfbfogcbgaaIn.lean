/- In: is a number in a list. -/
import Derived.Test.YtocllfbfogcbgaaLc00
import Derived.Test.YtocllfbfogcbgaaLirMore
namespace Go.Proofs.Ytocllfbfogcbgaa
open Go.Lir
attribute [local irreducible] LC.wp opsWp thenQ blockQ retQ resWp LO.wp callPost Calls
set_option linter.unusedSimpArgs false
set_option linter.unusedVariables false

theorem in_c {vx : Value} {G : Nat → Prop} {xs : List Int} {w : World} (x : Int) (hx : SlR w.heap 1 vx G (xs.map icell)) (hl : xs.length ≤ 9223372036854775807) : Rets Try.prog R_In [vx, .int .i64 x] w fun v w' => v = .bool (decide (x ∈ xs)) ∧ w' = w := by
  have hlen : (xs.map icell).length = xs.length := List.length_map _
  refine R_In_in ?_
  unfold R_In_lc
  all_goals (refine s_seq ?_; refine s_ops ?_; refine s_mov (by (conv => lhs; whnf); first | done | fail) ?_; refine s_nil ?_; (repeat (first | refine s_then ?_ | refine s_blockN ?_)); refine s_seq ?_; refine s_seq ?_; refine s_ops ?_; refine s_mov (by (conv => lhs; whnf); first | done | fail) ?_; refine s_nil ?_; (repeat (first | refine s_then ?_ | refine s_blockN ?_)); refine s_block ?_)
  refine s_loop (fun ρ' w' => ∃ (i : Nat), Has ρ' [(0, vx), (1, .int .i64 x), (5, .int .i64 i)] ∧ i ≤ xs.length ∧ x ∉ xs.take i ∧ w' = w) (fun ρ' _ => (xs.length - iv (ρ' 5)).toNat) ?_ ?_
  · exact ⟨0, ⟨rfl, rfl, rfl, trivial⟩, Nat.zero_le _, by simp, rfl⟩
  rintro ρ w1 ⟨i, hρ, hi, hn, rfl⟩; obtain ⟨ρ, rfl⟩ := env_intro _ hρ
  unfold R_In_b2
  all_goals (refine s_seq ?_; refine s_seq ?_; refine s_ops ?_; refine s_mov (by (conv => lhs; whnf); first | done | fail) ?_; refine s_mov (by (conv => lhs; whnf); first | done | fail) ?_; (first | (refine s_lenR (by (conv => lhs; whnf); first | done | fail) hx ?_) | (refine s_lenS (by (conv => lhs; whnf); first | done | fail) (by assumption) ?_) | (refine s_len rfl ?_)); refine s_lss_d rfl rfl ?_; refine s_nil ?_; (repeat (first | refine s_then ?_ | refine s_blockN ?_)))
  refine s_cond_d rfl (fun hc => ?_) (fun hc => ?_)
  · skip
    all_goals (refine s_skip ?_; (repeat (first | refine s_then ?_ | refine s_blockN ?_)); refine s_seq ?_; refine s_block ?_; refine s_seq ?_; refine s_ops ?_; refine s_mov (by (conv => lhs; whnf); first | done | fail) ?_; refine s_mov (by (conv => lhs; whnf); first | done | fail) ?_; (first | (refine s_idxRn (by (conv => lhs; whnf); first | done | fail) rfl hx (map_get icell xs 0 (by omega)) ?_; intro b1 o1 hat1 hG1) | (refine s_idxS (by (conv => lhs; whnf); first | done | fail) rfl (by assumption) (by omega) (by omega) ?_; intro b1 o1 hel1)); (first | (refine s_loadA rfl (by assumption) rfl ?_) | (refine s_loadb rfl (by assumption) (by rfl) ?_)); refine s_mov (by (conv => lhs; whnf); first | done | fail) ?_; refine s_eql_d rfl rfl ?_; refine s_nil ?_; (repeat (first | refine s_then ?_ | refine s_blockN ?_)))
    refine s_cond_d rfl (fun hc => ?_) (fun hc => ?_)
    · skip
      all_goals (refine s_seq ?_; refine s_ops ?_; refine s_mov (by (conv => lhs; whnf); first | done | fail) ?_; refine s_nil ?_; (repeat (first | refine s_then ?_ | refine s_blockN ?_)); refine s_ret ?_; (repeat (first | refine s_retT ?_ | refine s_retB ?_)); refine q_ret1 (by (conv => lhs; whnf); first | done | fail) ?_; (first | (refine ⟨_, rfl, ?_, rfl⟩; rw [decide_eq_true]; rw [← hc]; exact getD_mem (by omega)) | (refine ⟨_, rfl, ?_, rfl⟩; rw [decide_eq_false]; rw [show i = xs.length by omega, List.take_length] at hn; exact hn)))
    · skip
      all_goals (refine s_skip ?_; (repeat (first | refine s_then ?_ | refine s_blockN ?_)); refine s_ops ?_; refine s_mov (by (conv => lhs; whnf); first | done | fail) ?_; (first | (refine s_add rfl rfl (by omega) (by omega) ?_) | (refine s_addw rfl rfl ?_)); refine s_mov (by (conv => lhs; whnf); first | done | fail) ?_; refine s_nil ?_; (repeat (first | refine s_then ?_ | refine s_blockN ?_)))
      all_goals (refine ⟨⟨i + 1, ⟨rfl, rfl, rfl, trivial⟩, by omega, ?_, rfl⟩, meas_lt (by omega)⟩; rw [take_succ_getD 0 (by omega), List.mem_append, List.mem_singleton]; rintro (h | h); (exact hn h); exact hc h.symm)
  · skip
    all_goals (refine s_exit ?_; (repeat (first | refine s_exitQ ?_ | refine s_exitT ?_ | refine s_exitB rfl ?_ | refine s_then ?_ | refine s_blockN ?_)); refine s_seq ?_; refine s_ops ?_; refine s_mov (by (conv => lhs; whnf); first | done | fail) ?_; refine s_nil ?_; (repeat (first | refine s_then ?_ | refine s_blockN ?_)); refine s_ret ?_; (repeat (first | refine s_retT ?_ | refine s_retB ?_)); refine q_ret1 (by (conv => lhs; whnf); first | done | fail) ?_; (first | (refine ⟨_, rfl, ?_, rfl⟩; rw [decide_eq_true]; rw [← hc]; exact getD_mem (by omega)) | (refine ⟨_, rfl, ?_, rfl⟩; rw [decide_eq_false]; rw [show i = xs.length by omega, List.take_length] at hn; exact hn)))
end Go.Proofs.Ytocllfbfogcbgaa
