/- Types: what the functions on them do (contracts). -/
import Derived.Test.YtanlkfeogoganaaLc05
import Derived.Test.YtanlkfeogoganaaModR
namespace Go.Proofs.Ytanlkfeogoganaa
open Go.Lir
set_option maxHeartbeats 1000000
attribute [local irreducible] LC.wp opsWp thenQ blockQ retQ resWp LO.wp callPost Calls
set_option linter.unusedSimpArgs false
set_option linter.unusedVariables false
theorem size_c : ∀ (t : Ty) {cx : Cx} {w : World} {L : List Res} {cs : List Value} {left : Int}, tyR.at cx cs t → -1 ≤ left → left ≤ 1000000 → St cx w L →
    Rets Try.prog R_typeSize [.agg ⟨cs⟩, .int .i64 left] w fun v w' => v = .int .i64 (t.size left) ∧ St cx w' L := by
  intro t
  induction t using Ty.ind with
  | h k r l ih =>
    intro cx w L cs left ht h1 h2 hS
    obtain ⟨v, rfl, hl⟩ := tyR_out ht
    simp only [Ty.kind, Ty.r, Ty.l] at hl ht ⊢
    have hlen := hl.len
    rw [Ty.size]
    all_goals refine R_typeSize_in ?_
    all_goals (unfold R_typeSize_lc; refine s_seq ?_; refine s_ops ?_; refine s_boxB hS (by (conv => lhs; whnf); first | done | exact rfl) (by rfl) ?_; (intro p2 w1 hS); refine s_mov (by (conv => lhs; whnf); first | done | exact rfl) ?_; refine s_nil ?_; (repeat (first | refine s_then ?_ | refine s_blockN ?_)); refine s_seq ?_; refine s_ops ?_; refine s_mov (by (conv => lhs; whnf); first | done | exact rfl) ?_; ((refine s_subi rfl rfl (by omega) (by omega) ?_)); refine s_mov (by (conv => lhs; whnf); first | done | exact rfl) ?_; refine s_nil ?_; (repeat (first | refine s_then ?_ | refine s_blockN ?_)); refine s_seq ?_; refine s_seq ?_; refine s_ops ?_; refine s_mov (by (conv => lhs; whnf); first | done | exact rfl) ?_; refine s_nil ?_; (repeat (first | refine s_then ?_ | refine s_blockN ?_)); refine s_block ?_)
    refine s_ask (i := 2) (by (conv => lhs; whnf); first | done | exact rfl) (fun e2 => ?_)
    refine s_loop ((fun {xx2 V2 : Value} (_ : xx2 = V2) {cc : Cx} {ww : World} {LL : List Res} (_ : St cc ww LL) => (fun ρ' w' => ∃ (j : Nat) (n : Int), Has ρ' [(2, V2), (1, .int .i64 n), (5, .int .i64 j)] ∧ (j ≤ l.length) ∧ (n ≤ 1000000) ∧ (-2 ≤ n) ∧ (Tys.size l (left - 1) = Tys.size (l.drop j) n) ∧ St cx w' (LL) : Env → World → Prop)) e2 hS) (fun ρ' _ => (l.length - iv (ρ' 5)).toNat) ?_ ?_
    · exact ⟨0, left - 1, ⟨rfl, rfl, rfl, trivial⟩, (by omega), (by omega), (by omega), by simp, (hS.subP (by (repeat constructor); first | done | fail))⟩
    dsimp only; clear e2; rintro ρ w1 ⟨j, n, hρ, hj, hn, hn1, hd, hS⟩; obtain ⟨ρ, rfl⟩ := env_intro _ hρ
    unfold R_typeSize_b3
    all_goals (refine s_seq ?_; refine s_seq ?_; refine s_ops ?_; refine s_mov (by (conv => lhs; whnf); first | done | exact rfl) ?_; (refine s_fld0 rfl ?_); ((refine s_loadB hS rfl (NthP.nth (by repeat constructor)) rfl ?_)); ((refine s_lenL (by (conv => lhs; whnf); first | done | exact rfl) (by assumption) ?_)))
    all_goals (first | (refine s_lss_t rfl rfl (by omega) ?_) | (refine s_lss_f rfl rfl (by omega) ?_) | (refine s_lss_s rfl rfl (fun hc => ?_) (fun hc => ?_)))
    all_goals (refine s_mov (by (conv => lhs; whnf); first | done | exact rfl) ?_; (first | refine s_gn rfl rfl ?_ | (refine s_gy rfl ?_; refine s_mov (by (conv => lhs; whnf); first | done | exact rfl) ?_)))
    all_goals (first | refine s_gn rfl rfl ?_ | (refine s_gy rfl ?_; (first | (refine s_geq_t rfl rfl (by omega) ?_) | (refine s_geq_f rfl rfl (by omega) ?_) | (refine s_geq_s rfl rfl (fun hc => ?_) (fun hc => ?_)))))
    all_goals ((first | refine s_pick_t rfl (by (conv => lhs; whnf); first | done | exact rfl) ?_ | refine s_pick_f rfl (by (conv => lhs; whnf); first | done | exact rfl) ?_); refine s_nil ?_; (repeat (first | refine s_then ?_ | refine s_blockN ?_)))
    all_goals
      first
      | (refine s_cond_t rfl ?_ -- R_typeSize c0
         all_goals (refine s_skip ?_; (repeat (first | refine s_then ?_ | refine s_blockN ?_)); refine s_seq ?_; refine s_block ?_; refine s_ops ?_; (refine s_fld0 rfl ?_); ((refine s_loadB hS rfl (NthP.nth (by repeat constructor)) rfl ?_)); refine s_mov (by (conv => lhs; whnf); first | done | exact rfl) ?_; (refine s_idxLn (by (conv => lhs; whnf); first | done | exact rfl) rfl (by assumption) rfl (by omega) ?_); intro b1 o1 cs1 x1 hat1 hx1 he1; ((obtain ⟨vl1, rfl, hl1⟩ := tyR_out he1)); (first | (refine s_loadnB hS rfl (NthP.nth (by repeat constructor)) rfl rfl ?_) | (refine s_loadnK hS (by assumption) rfl rfl ?_)); refine s_mov (by (conv => lhs; whnf); first | done | exact rfl) ?_; refine s_rets_2 (by (conv => lhs; whnf); first | done | exact rfl) (by (conv => lhs; whnf); first | done | exact rfl) (ih _ (List.mem_of_getElem? (by assumption)) (by assumption) (by omega) (by omega) hS) ?_; rintro v1 w1 ⟨rfl, hS⟩; refine s_mov (by (conv => lhs; whnf); first | done | exact rfl) ?_; refine s_nil ?_; (repeat (first | refine s_then ?_ | refine s_blockN ?_)); refine s_ops ?_; refine s_mov (by (conv => lhs; whnf); first | done | exact rfl) ?_)
         all_goals (((refine s_add rfl rfl (by omega) (by omega) ?_)); refine s_mov (by (conv => lhs; whnf); first | done | exact rfl) ?_; refine s_nil ?_; (repeat (first | refine s_then ?_ | refine s_blockN ?_)))
         all_goals ((exact ⟨⟨j + 1, _, ⟨rfl, rfl, rfl, trivial⟩, (by omega), by have := Ty.size_rng x1 (left := n) (by omega); omega, by have := Ty.size_rng x1 (left := n) (by omega); omega, by rw [hd, drop_cons hx1, Tys.size, if_pos (by omega)], (hS.subP (by (repeat constructor); first | done | fail))⟩, meas_lt (by omega)⟩)))
      | (refine s_cond_f rfl ?_ -- R_typeSize c0
         all_goals (refine s_exit ?_; (repeat (first | refine s_exitQ ?_ | refine s_exitT ?_ | refine s_exitB rfl ?_ | refine s_then ?_ | refine s_blockN ?_)); refine s_seq ?_; refine s_ops ?_; refine s_mov (by (conv => lhs; whnf); first | done | exact rfl) ?_; refine s_mov (by (conv => lhs; whnf); first | done | exact rfl) ?_; refine s_nil ?_; (repeat (first | refine s_then ?_ | refine s_blockN ?_)); refine s_ret ?_; (repeat (first | refine s_retT ?_ | refine s_retB ?_)); refine q_ret1 (by (conv => lhs; whnf); first | done | exact rfl) ?_)
         all_goals (((refine ⟨_, rfl, ?_, (hS.subP (by (repeat constructor); first | done | fail))⟩; (rw [hd]; congr 1; first | (rw [Tys.size_neg _ (by omega)]; done) | (rw [List.drop_of_length_le (by omega), Tys.size]; done)); done))))
theorem great_c {t : Ty} {cx : Cx} {w : World} {L : List Res} {cs : List Value} (ht : tyR.at cx cs t) (hS : St cx w L) :
    Rets Try.prog R_GreatType [.agg ⟨cs⟩] w fun v w' => v = .bool t.great ∧ St cx w' L := by
  obtain ⟨v, rfl, hl⟩ := tyR_out ht
  all_goals refine R_GreatType_in ?_
  all_goals (unfold R_GreatType_lc; refine s_seq ?_; refine s_ops ?_; refine s_boxB hS (by (conv => lhs; whnf); first | done | exact rfl) (by rfl) ?_; (intro p1 w1 hS); refine s_mov (by (conv => lhs; whnf); first | done | exact rfl) ?_; refine s_nil ?_; (repeat (first | refine s_then ?_ | refine s_blockN ?_)); refine s_seq ?_; refine s_ops ?_; ((refine s_loadnB hS rfl (NthP.nth (by repeat constructor)) rfl rfl ?_)); refine s_rets_2 (by (conv => lhs; whnf); first | done | exact rfl) (by (conv => lhs; whnf); first | done | exact rfl) (size_c t ht (by omega) (by omega) hS) ?_; rintro v1 w1 ⟨rfl, hS⟩; refine s_lss_d rfl rfl ?_; refine s_mov (by (conv => lhs; whnf); first | done | exact rfl) ?_; refine s_nil ?_; (repeat (first | refine s_then ?_ | refine s_blockN ?_)); refine s_ret ?_; (repeat (first | refine s_retT ?_ | refine s_retB ?_)); refine q_ret1 (by (conv => lhs; whnf); first | done | exact rfl) ?_; (((refine ⟨_, rfl, ?_, (hS.subP (by (repeat constructor); first | done | fail))⟩; (rfl); done))))
theorem greats_c {l : List Ty} {cx : Cx} {w : World} {L : List Res} {v : Value} (hl : tyR.sl cx v l) (hS : St cx w L) :
    Rets Try.prog R_greatTypes [v] w fun u w' => u = .bool (Tys.great l) ∧ St cx w' L := by
  have hlen := hl.len
  unfold Tys.great
  all_goals refine R_greatTypes_in ?_
  all_goals (unfold R_greatTypes_lc; refine s_seq ?_; refine s_ops ?_; refine s_mov (by (conv => lhs; whnf); first | done | exact rfl) ?_; refine s_nil ?_; (repeat (first | refine s_then ?_ | refine s_blockN ?_)); refine s_seq ?_; refine s_seq ?_; refine s_ops ?_; refine s_mov (by (conv => lhs; whnf); first | done | exact rfl) ?_; ((refine s_lenL (by (conv => lhs; whnf); first | done | exact rfl) (by assumption) ?_)))
  all_goals (first | (refine s_gtr_t rfl rfl (by omega) ?_) | (refine s_gtr_f rfl rfl (by omega) ?_) | (refine s_gtr_s rfl rfl (fun hc => ?_) (fun hc => ?_)))
  all_goals (refine s_nil ?_; (repeat (first | refine s_then ?_ | refine s_blockN ?_)))
  all_goals
    first
    | (refine s_cond_t rfl ?_ -- R_greatTypes c0
       all_goals (refine s_seq ?_; refine s_ops ?_; refine s_mov (by (conv => lhs; whnf); first | done | exact rfl) ?_; refine s_nil ?_; (repeat (first | refine s_then ?_ | refine s_blockN ?_)); refine s_ret ?_; (repeat (first | refine s_retT ?_ | refine s_retB ?_)); refine q_ret1 (by (conv => lhs; whnf); first | done | exact rfl) ?_)
       all_goals (((refine ⟨_, rfl, ?_, (hS.subP (by (repeat constructor); first | done | fail))⟩; (rw [decide_eq_true (by omega), Bool.true_or]); done))))
    | (refine s_cond_f rfl ?_ -- R_greatTypes c0
       all_goals (refine s_skip ?_; (repeat (first | refine s_then ?_ | refine s_blockN ?_))))
  all_goals (refine s_seq ?_; refine s_seq ?_; refine s_ops ?_; refine s_mov (by (conv => lhs; whnf); first | done | exact rfl) ?_; refine s_nil ?_; (repeat (first | refine s_then ?_ | refine s_blockN ?_)); refine s_block ?_)
  refine s_ask (i := 0) (by (conv => lhs; whnf); first | done | exact rfl) (fun e0 => ?_)
  refine s_loop ((fun {xx0 V0 : Value} (_ : xx0 = V0) {cc : Cx} {ww : World} {LL : List Res} (_ : St cc ww LL) => (fun ρ' w' => ∃ (j : Nat), Has ρ' [(0, V0), (3, .int .i64 j)] ∧ (j ≤ l.length) ∧ (l.any Ty.great = (l.drop j).any Ty.great) ∧ St cx w' (LL) : Env → World → Prop)) e0 hS) (fun ρ' _ => (l.length - iv (ρ' 3)).toNat) ?_ ?_
  · exact ⟨0, ⟨rfl, rfl, trivial⟩, (by omega), by simp, (hS.subP (by (repeat constructor); first | done | fail))⟩
  dsimp only; clear e0; rintro ρ w1 ⟨j, hρ, hj, hd, hS⟩; obtain ⟨ρ, rfl⟩ := env_intro _ hρ
  unfold R_greatTypes_b4
  all_goals (refine s_seq ?_; refine s_seq ?_; refine s_ops ?_; refine s_mov (by (conv => lhs; whnf); first | done | exact rfl) ?_; refine s_mov (by (conv => lhs; whnf); first | done | exact rfl) ?_; ((refine s_lenL (by (conv => lhs; whnf); first | done | exact rfl) (by assumption) ?_)); refine s_lss_d rfl rfl ?_; refine s_nil ?_; (repeat (first | refine s_then ?_ | refine s_blockN ?_)))
  refine s_cond_d rfl (fun hc => ?_) (fun hc => ?_)
  · skip
    all_goals (refine s_skip ?_; (repeat (first | refine s_then ?_ | refine s_blockN ?_)); refine s_seq ?_; refine s_block ?_; refine s_seq ?_; refine s_ops ?_; refine s_mov (by (conv => lhs; whnf); first | done | exact rfl) ?_; refine s_mov (by (conv => lhs; whnf); first | done | exact rfl) ?_; (refine s_idxLn (by (conv => lhs; whnf); first | done | exact rfl) rfl (by assumption) rfl (by omega) ?_); intro b1 o1 cs1 x1 hat1 hx1 he1; ((obtain ⟨vl1, rfl, hl1⟩ := tyR_out he1)); (first | (refine s_loadnB hS rfl (NthP.nth (by repeat constructor)) rfl rfl ?_) | (refine s_loadnK hS (by assumption) rfl rfl ?_)))
    all_goals (refine s_rets_1 (by (conv => lhs; whnf); first | done | exact rfl) (great_c (by assumption) hS) ?_; rintro v1 w1 ⟨rfl, hS⟩; cases hg : x1.great)
    all_goals (refine s_nil ?_; (repeat (first | refine s_then ?_ | refine s_blockN ?_)))
    all_goals
      first
      | (refine s_cond_t rfl ?_ -- R_greatTypes c2
         all_goals (refine s_seq ?_; refine s_ops ?_; refine s_mov (by (conv => lhs; whnf); first | done | exact rfl) ?_; refine s_nil ?_; (repeat (first | refine s_then ?_ | refine s_blockN ?_)); refine s_ret ?_; (repeat (first | refine s_retT ?_ | refine s_retB ?_)); refine q_ret1 (by (conv => lhs; whnf); first | done | exact rfl) ?_)
         all_goals (first | ((refine ⟨_, rfl, ?_, (hS.subP (by (repeat constructor); first | done | fail))⟩; (rw [decide_eq_true (by omega), Bool.true_or]); done)) | ((refine ⟨_, rfl, ?_, (hS.subP (by (repeat constructor); first | done | fail))⟩; (rw [decide_eq_false (by omega), hd, Bool.false_or, drop_cons hx1, List.any_cons, hg, Bool.true_or]); done))))
      | (refine s_cond_f rfl ?_ -- R_greatTypes c2
         all_goals (refine s_skip ?_; (repeat (first | refine s_then ?_ | refine s_blockN ?_))))
    all_goals (refine s_ops ?_; refine s_mov (by (conv => lhs; whnf); first | done | exact rfl) ?_; ((refine s_add rfl rfl (by omega) (by omega) ?_)); refine s_mov (by (conv => lhs; whnf); first | done | exact rfl) ?_; refine s_nil ?_; (repeat (first | refine s_then ?_ | refine s_blockN ?_)); ((exact ⟨⟨j + 1, ⟨rfl, rfl, trivial⟩, (by omega), by rw [hd, drop_cons hx1, List.any_cons, hg, Bool.false_or], (hS.subP (by (repeat constructor); first | done | fail))⟩, meas_lt (by omega)⟩)))
  · skip
    all_goals (refine s_exit ?_; (repeat (first | refine s_exitQ ?_ | refine s_exitT ?_ | refine s_exitB rfl ?_ | refine s_then ?_ | refine s_blockN ?_)); refine s_seq ?_; refine s_ops ?_; refine s_mov (by (conv => lhs; whnf); first | done | exact rfl) ?_; refine s_nil ?_; (repeat (first | refine s_then ?_ | refine s_blockN ?_)); refine s_ret ?_; (repeat (first | refine s_retT ?_ | refine s_retB ?_)); refine q_ret1 (by (conv => lhs; whnf); first | done | exact rfl) ?_; (first | ((refine ⟨_, rfl, ?_, (hS.subP (by (repeat constructor); first | done | fail))⟩; (rw [decide_eq_true (by omega), Bool.true_or]); done)) | ((refine ⟨_, rfl, ?_, (hS.subP (by (repeat constructor); first | done | fail))⟩; (rw [decide_eq_false (by omega), hd, Bool.false_or, drop_cons hx1, List.any_cons, hg, Bool.true_or]); done)) | ((refine ⟨_, rfl, ?_, (hS.subP (by (repeat constructor); first | done | fail))⟩; (rw [decide_eq_false (by omega), hd, Bool.false_or, List.drop_of_length_le (by omega)]; rfl); done))))
theorem deep_c : ∀ (t : Ty) {cx : Cx} {w : World} {L : List Res} {cs : List Value} {left : Int}, tyR.at cx cs t → left ≤ 1000000 → St cx w L →
    Rets Try.prog types_deep [.agg ⟨cs⟩, .int .i64 left] w fun v w' => v = .bool (t.deepB left) ∧ St cx w' L := by
  intro t
  induction t using Ty.ind with
  | h k r l ih =>
    intro cx w L cs left ht h1 hS
    obtain ⟨v, rfl, hl⟩ := tyR_out ht
    simp only [Ty.kind, Ty.r, Ty.l] at hl ht ⊢
    have hlen := hl.len
    rw [Ty.deepB]
    all_goals refine types_deep_in ?_
    all_goals (unfold types_deep_lc; refine s_seq ?_; refine s_ops ?_; refine s_boxB hS (by (conv => lhs; whnf); first | done | exact rfl) (by rfl) ?_; (intro p2 w1 hS); refine s_mov (by (conv => lhs; whnf); first | done | exact rfl) ?_; refine s_nil ?_; (repeat (first | refine s_then ?_ | refine s_blockN ?_)); refine s_seq ?_; refine s_seq ?_; refine s_ops ?_; refine s_mov (by (conv => lhs; whnf); first | done | exact rfl) ?_)
    all_goals (first | (refine s_lss_t rfl rfl (by omega) ?_) | (refine s_lss_f rfl rfl (by omega) ?_) | (refine s_lss_s rfl rfl (fun hc => ?_) (fun hc => ?_)))
    all_goals (refine s_nil ?_; (repeat (first | refine s_then ?_ | refine s_blockN ?_)))
    all_goals
      first
      | (refine s_cond_t rfl ?_ -- types_deep c0
         all_goals (refine s_seq ?_; refine s_ops ?_; refine s_mov (by (conv => lhs; whnf); first | done | exact rfl) ?_; refine s_nil ?_; (repeat (first | refine s_then ?_ | refine s_blockN ?_)); refine s_ret ?_; (repeat (first | refine s_retT ?_ | refine s_retB ?_)); refine q_ret1 (by (conv => lhs; whnf); first | done | exact rfl) ?_)
         all_goals (((refine ⟨_, rfl, ?_, (hS.subP (by (repeat constructor); first | done | fail))⟩; (rw [if_pos (by omega)]); done))))
      | (refine s_cond_f rfl ?_ -- types_deep c0
         all_goals (refine s_skip ?_; (repeat (first | refine s_then ?_ | refine s_blockN ?_))))
    all_goals (refine s_seq ?_; refine s_seq ?_; refine s_ops ?_; (refine s_fld0 rfl ?_); ((refine s_loadB hS rfl (NthP.nth (by repeat constructor)) rfl ?_)); ((refine s_lenL (by (conv => lhs; whnf); first | done | exact rfl) (by assumption) ?_)); refine s_mov (by (conv => lhs; whnf); first | done | exact rfl) ?_; refine s_nil ?_; (repeat (first | refine s_then ?_ | refine s_blockN ?_)); refine s_block ?_)
    refine s_ask (i := 1) (by (conv => lhs; whnf); first | done | exact rfl) (fun e1 => ?_)
    refine s_ask (i := 10) (by (conv => lhs; whnf); first | done | exact rfl) (fun e10 => ?_)
    refine s_ask (i := 11) (by (conv => lhs; whnf); first | done | exact rfl) (fun e11 => ?_)
    refine s_loop ((fun {xx1 V1 : Value} (_ : xx1 = V1) {xx10 V10 : Value} (_ : xx10 = V10) {xx11 V11 : Value} (_ : xx11 = V11) {cc : Cx} {ww : World} {LL : List Res} (_ : St cc ww LL) => (fun ρ' w' => ∃ (j : Nat), Has ρ' [(1, V1), (10, V10), (11, V11), (12, .int .i64 j)] ∧ (j ≤ l.length) ∧ (Tys.deepB l (left - 1) = Tys.deepB (l.drop j) (left - 1)) ∧ St cx w' (LL) : Env → World → Prop)) e1 e10 e11 hS) (fun ρ' _ => (l.length - iv (ρ' 12)).toNat) ?_ ?_
    · exact ⟨0, ⟨rfl, rfl, rfl, rfl, trivial⟩, (by omega), by simp, (hS.subP (by (repeat constructor); first | done | fail))⟩
    dsimp only; clear e1 e10 e11; rintro ρ w1 ⟨j, hρ, hj, hd, hS⟩; obtain ⟨ρ, rfl⟩ := env_intro _ hρ
    unfold types_deep_b4
    all_goals (refine s_seq ?_; refine s_ops ?_; refine s_lss_d rfl rfl ?_; refine s_nil ?_; (repeat (first | refine s_then ?_ | refine s_blockN ?_)); refine s_seq ?_)
    refine s_cond_d rfl (fun hc => ?_) (fun hc => ?_)
    · skip
      all_goals (refine s_skip ?_; (repeat (first | refine s_then ?_ | refine s_blockN ?_)); refine s_seq ?_; refine s_block ?_; refine s_seq ?_; refine s_ops ?_; (refine s_idxLn (by (conv => lhs; whnf); first | done | exact rfl) rfl (by assumption) rfl (by omega) ?_); intro b1 o1 cs1 x1 hat1 hx1 he1; ((obtain ⟨vl1, rfl, hl1⟩ := tyR_out he1)); (first | (refine s_loadnB hS rfl (NthP.nth (by repeat constructor)) rfl rfl ?_) | (refine s_loadnK hS (by assumption) rfl rfl ?_)); refine s_allocB hS ?_; (intro p6 w1 hS); ((refine s_storenF hS rfl rfl (by rfl) (NthP.nth (by repeat constructor)) (by rfl) (by first | (simp [oneC]; done) | assumption | exact Rep.one _ (by assumption)) ?_; intro w1 hS; simp only [List.set_cons_zero, List.set_cons_succ] at hS)))
      all_goals (refine s_nil ?_; (repeat (first | refine s_then ?_ | refine s_blockN ?_)); refine s_seq ?_; refine s_ops ?_; ((refine s_loadnB hS rfl (NthP.nth (by repeat constructor)) rfl rfl ?_)); refine s_mov (by (conv => lhs; whnf); first | done | exact rfl) ?_; ((refine s_subi rfl rfl (by omega) (by omega) ?_)))
      all_goals (refine s_rets_2 (by (conv => lhs; whnf); first | done | exact rfl) (by (conv => lhs; whnf); first | done | exact rfl) (ih _ (List.mem_of_getElem? (by assumption)) (by assumption) (by omega) hS) ?_; rintro v1 w1 ⟨rfl, hS⟩; cases hg : x1.deepB (left - 1))
      all_goals (refine s_not rfl ?_; refine s_nil ?_; (repeat (first | refine s_then ?_ | refine s_blockN ?_)))
      all_goals
        first
        | (refine s_cond_t rfl ?_ -- types_deep c2
           all_goals (refine s_seq ?_; refine s_ops ?_; refine s_mov (by (conv => lhs; whnf); first | done | exact rfl) ?_; refine s_nil ?_; (repeat (first | refine s_then ?_ | refine s_blockN ?_)); refine s_ret ?_; (repeat (first | refine s_retT ?_ | refine s_retB ?_)); refine q_ret1 (by (conv => lhs; whnf); first | done | exact rfl) ?_)
           all_goals (first | ((refine ⟨_, rfl, ?_, (hS.subP (by (repeat constructor); first | done | fail))⟩; (rw [if_pos (by omega)]); done)) | ((refine ⟨_, rfl, ?_, (hS.subP (by (repeat constructor); first | done | fail))⟩; (rw [if_neg (by omega), hd, drop_cons hx1, Tys.deepB, hg, Bool.false_and]); done))))
        | (refine s_cond_f rfl ?_ -- types_deep c2
           all_goals (refine s_skip ?_; (repeat (first | refine s_then ?_ | refine s_blockN ?_))))
      all_goals (refine s_ops ?_; ((refine s_add rfl rfl (by omega) (by omega) ?_)); refine s_mov (by (conv => lhs; whnf); first | done | exact rfl) ?_; refine s_nil ?_; (repeat (first | refine s_then ?_ | refine s_blockN ?_)); ((exact ⟨⟨j + 1, ⟨rfl, rfl, rfl, rfl, trivial⟩, (by omega), by rw [hd, drop_cons hx1, Tys.deepB, hg, Bool.true_and], (hS.subP (by (repeat constructor); first | done | fail))⟩, meas_lt (by omega)⟩)))
    · skip
      all_goals (refine s_exit ?_; (repeat (first | refine s_exitQ ?_ | refine s_exitT ?_ | refine s_exitB rfl ?_ | refine s_then ?_ | refine s_blockN ?_)); refine s_seq ?_; refine s_ops ?_; refine s_mov (by (conv => lhs; whnf); first | done | exact rfl) ?_; refine s_nil ?_; (repeat (first | refine s_then ?_ | refine s_blockN ?_)); refine s_ret ?_; (repeat (first | refine s_retT ?_ | refine s_retB ?_)); refine q_ret1 (by (conv => lhs; whnf); first | done | exact rfl) ?_; (first | ((refine ⟨_, rfl, ?_, (hS.subP (by (repeat constructor); first | done | fail))⟩; (rw [if_pos (by omega)]); done)) | ((refine ⟨_, rfl, ?_, (hS.subP (by (repeat constructor); first | done | fail))⟩; (rw [if_neg (by omega), hd, drop_cons hx1, Tys.deepB, hg, Bool.false_and]); done)) | ((refine ⟨_, rfl, ?_, (hS.subP (by (repeat constructor); first | done | fail))⟩; (rw [if_neg (by omega), hd, List.drop_of_length_le (by omega), Tys.deepB]); done))))
theorem wrong_c : ∀ (t : Ty) {cx : Cx} {w : World} {L : List Res} {cs : List Value} {regs : Int}, tyR.at cx cs t → St cx w L →
    Rets Try.prog types_wrong [.agg ⟨cs⟩, .int .i64 regs] w fun v w' => v = .int .i64 (t.wrong 8 regs) ∧ St cx w' L := by
  intro t
  induction t using Ty.ind with
  | h k r l ih =>
    intro cx w L cs regs ht hS
    obtain ⟨v, rfl, hl⟩ := tyR_out ht
    simp only [Ty.kind, Ty.r, Ty.l] at hl ht ⊢
    have hlen := hl.len
    rw [Ty.wrong]
    all_goals refine types_wrong_in ?_
    all_goals (unfold types_wrong_lc; refine s_seq ?_; refine s_ops ?_; refine s_boxB hS (by (conv => lhs; whnf); first | done | exact rfl) (by rfl) ?_; (intro p2 w1 hS); refine s_mov (by (conv => lhs; whnf); first | done | exact rfl) ?_; refine s_nil ?_; (repeat (first | refine s_then ?_ | refine s_blockN ?_)))
    refine s_ask (i := 1) (by (conv => lhs; whnf); first | done | exact rfl) (fun e1 => ?_)
    refine s_ask (i := 2) (by (conv => lhs; whnf); first | done | exact rfl) (fun e2 => ?_)
    refine s_mid ((fun {xx1 V1 : Value} (_ : xx1 = V1) {xx2 V2 : Value} (_ : xx2 = V2) {cc : Cx} {ww : World} {LL : List Res} (_ : St cc ww LL) => (fun ρ' w' => Has ρ' [(1, V1), (2, V2)] ∧ (1 ≤ k ∧ k ≤ 4 ∧ k ≠ 1 ∧ (k ≠ 3 → l.length = 0) ∧ l.length ≤ 8) ∧ St cx w' (LL) : Env → World → Prop)) e1 e2 hS) ?_ ?_
    · skip
      all_goals (refine s_seq ?_; refine s_ops ?_; (refine s_fld0 rfl ?_); ((refine s_loadB hS rfl (NthP.nth (by repeat constructor)) rfl ?_)); refine s_nil ?_; (repeat (first | refine s_then ?_ | refine s_blockN ?_)); refine s_block ?_; refine s_seq ?_; refine s_ops ?_)
      all_goals (first | (refine s_eql_t rfl rfl (by omega) ?_) | (refine s_eql_f rfl rfl (by omega) ?_) | (refine s_eql_s rfl rfl (fun hc => ?_) (fun hc => ?_)))
      all_goals (refine s_mov (by (conv => lhs; whnf); first | done | exact rfl) ?_; refine s_nil ?_; (repeat (first | refine s_then ?_ | refine s_blockN ?_)))
      all_goals
        first
        | (refine s_cond_t rfl ?_ -- types_wrong c0
           all_goals (refine s_seq ?_; refine s_seq ?_; refine s_ops ?_; (refine s_fld0 rfl ?_); ((refine s_loadB hS rfl (NthP.nth (by repeat constructor)) rfl ?_)))
           all_goals (first | (refine s_neq_t rfl rfl (by omega) ?_) | (refine s_neq_f rfl rfl (by omega) ?_) | (refine s_neq_s rfl rfl (fun hc => ?_) (fun hc => ?_)))
           all_goals (refine s_mov (by (conv => lhs; whnf); first | done | exact rfl) ?_; (first | refine s_gn rfl rfl ?_ | (refine s_gy rfl ?_; (refine s_fld0 rfl ?_))); (first | refine s_gn rfl rfl ?_ | (refine s_gy rfl ?_; ((refine s_loadB hS rfl (NthP.nth (by repeat constructor)) rfl ?_)))); (first | refine s_gn rfl rfl ?_ | (refine s_gy rfl ?_; ((refine s_lenL (by (conv => lhs; whnf); first | done | exact rfl) (by assumption) ?_)))))
           all_goals (first | refine s_gn rfl rfl ?_ | (refine s_gy rfl ?_; (first | (refine s_gtr_t rfl rfl (by omega) ?_) | (refine s_gtr_f rfl rfl (by omega) ?_) | (refine s_gtr_s rfl rfl (fun hc => ?_) (fun hc => ?_)))))
           all_goals ((first | refine s_pick_t rfl (by (conv => lhs; whnf); first | done | exact rfl) ?_ | refine s_pick_f rfl (by (conv => lhs; whnf); first | done | exact rfl) ?_); refine s_nil ?_; (repeat (first | refine s_then ?_ | refine s_blockN ?_)))
           all_goals
             first
             | (refine s_cond_t rfl ?_ -- types_wrong c1
                all_goals (refine s_seq ?_; refine s_ops ?_; refine s_mov (by (conv => lhs; whnf); first | done | exact rfl) ?_; refine s_nil ?_; (repeat (first | refine s_then ?_ | refine s_blockN ?_)); refine s_ret ?_; (repeat (first | refine s_retT ?_ | refine s_retB ?_)); refine q_ret1 (by (conv => lhs; whnf); first | done | exact rfl) ?_)
                all_goals (((refine ⟨_, rfl, ?_, (hS.subP (by (repeat constructor); first | done | fail))⟩; ((repeat (first | rw [if_pos (by omega)] | rw [if_neg (by omega)]))); done))))
             | (refine s_cond_f rfl ?_ -- types_wrong c1
                all_goals (refine s_skip ?_; (repeat (first | refine s_then ?_ | refine s_blockN ?_))))
           all_goals (refine s_seq ?_; refine s_ops ?_; refine s_mov (by (conv => lhs; whnf); first | done | exact rfl) ?_; refine s_nil ?_; (repeat (first | refine s_then ?_ | refine s_blockN ?_)); refine s_ret ?_; (repeat (first | refine s_retT ?_ | refine s_retB ?_)); refine q_ret1 (by (conv => lhs; whnf); first | done | exact rfl) ?_)
           all_goals (first | ((refine ⟨_, rfl, ?_, (hS.subP (by (repeat constructor); first | done | fail))⟩; ((repeat (first | rw [if_pos (by omega)] | rw [if_neg (by omega)]))); done)) | ((refine ⟨_, rfl, ?_, (hS.subP (by (repeat constructor); first | done | fail))⟩; ((repeat (first | rw [if_pos (by omega)] | rw [if_neg (by omega)])); rw [hd, drop_cons hx1, Tys.wrong, if_pos (by assumption)]); done)) | ((refine ⟨_, rfl, ?_, (hS.subP (by (repeat constructor); first | done | fail))⟩; ((repeat (first | rw [if_pos (by omega)] | rw [if_neg (by omega)])); rw [List.eq_nil_of_length_eq_zero (l := l) (by omega), Tys.wrong]); done))))
        | (refine s_cond_f rfl ?_ -- types_wrong c0
           all_goals (refine s_seq ?_; refine s_seq ?_; refine s_ops ?_)
           all_goals (first | (refine s_eql_t rfl rfl (by omega) ?_) | (refine s_eql_f rfl rfl (by omega) ?_) | (refine s_eql_s rfl rfl (fun hc => ?_) (fun hc => ?_)))
           all_goals (refine s_mov (by (conv => lhs; whnf); first | done | exact rfl) ?_; refine s_nil ?_; (repeat (first | refine s_then ?_ | refine s_blockN ?_)))
           all_goals
             first
             | (refine s_cond_t rfl ?_ -- types_wrong c2
                all_goals (refine s_skip ?_; (repeat (first | refine s_then ?_ | refine s_blockN ?_))))
             | (refine s_cond_f rfl ?_ -- types_wrong c2
                all_goals (refine s_ops ?_)
                all_goals (first | (refine s_eql_t rfl rfl (by omega) ?_) | (refine s_eql_f rfl rfl (by omega) ?_) | (refine s_eql_s rfl rfl (fun hc => ?_) (fun hc => ?_)))
                all_goals (refine s_mov (by (conv => lhs; whnf); first | done | exact rfl) ?_)
                all_goals (refine s_nil ?_; (repeat (first | refine s_then ?_ | refine s_blockN ?_))))
           all_goals
             first
             | (refine s_cond_t rfl ?_ -- types_wrong c3
                all_goals (refine s_seq ?_; refine s_ops ?_; (refine s_fld0 rfl ?_); ((refine s_loadB hS rfl (NthP.nth (by repeat constructor)) rfl ?_)); ((refine s_lenL (by (conv => lhs; whnf); first | done | exact rfl) (by assumption) ?_)))
                all_goals (first | (refine s_gtr_t rfl rfl (by omega) ?_) | (refine s_gtr_f rfl rfl (by omega) ?_) | (refine s_gtr_s rfl rfl (fun hc => ?_) (fun hc => ?_)))
                all_goals (refine s_nil ?_; (repeat (first | refine s_then ?_ | refine s_blockN ?_)))
                all_goals
                  first
                  | (refine s_cond_t rfl ?_ -- types_wrong c4
                     all_goals (refine s_seq ?_; refine s_ops ?_; refine s_mov (by (conv => lhs; whnf); first | done | exact rfl) ?_; refine s_nil ?_; (repeat (first | refine s_then ?_ | refine s_blockN ?_)); refine s_ret ?_; (repeat (first | refine s_retT ?_ | refine s_retB ?_)); refine q_ret1 (by (conv => lhs; whnf); first | done | exact rfl) ?_)
                     all_goals (((refine ⟨_, rfl, ?_, (hS.subP (by (repeat constructor); first | done | fail))⟩; ((repeat (first | rw [if_pos (by omega)] | rw [if_neg (by omega)]))); done))))
                  | (refine s_cond_f rfl ?_ -- types_wrong c4
                     all_goals (refine s_skip ?_; (repeat (first | refine s_then ?_ | refine s_blockN ?_)))))
             | (refine s_cond_f rfl ?_ -- types_wrong c3
                all_goals (refine s_seq ?_; refine s_ops ?_)
                all_goals (first | (refine s_eql_t rfl rfl (by omega) ?_) | (refine s_eql_f rfl rfl (by omega) ?_) | (refine s_eql_s rfl rfl (fun hc => ?_) (fun hc => ?_)))
                all_goals (refine s_mov (by (conv => lhs; whnf); first | done | exact rfl) ?_; refine s_nil ?_; (repeat (first | refine s_then ?_ | refine s_blockN ?_)))
                all_goals
                  first
                  | (refine s_cond_t rfl ?_ -- types_wrong c5
                     all_goals (refine s_seq ?_; refine s_ops ?_; (refine s_fld0 rfl ?_); ((refine s_loadB hS rfl (NthP.nth (by repeat constructor)) rfl ?_)); ((refine s_lenL (by (conv => lhs; whnf); first | done | exact rfl) (by assumption) ?_)))
                     all_goals (first | (refine s_gtr_t rfl rfl (by omega) ?_) | (refine s_gtr_f rfl rfl (by omega) ?_) | (refine s_gtr_s rfl rfl (fun hc => ?_) (fun hc => ?_)))
                     all_goals (refine s_nil ?_; (repeat (first | refine s_then ?_ | refine s_blockN ?_)))
                     all_goals
                       first
                       | (refine s_cond_t rfl ?_ -- types_wrong c6
                          all_goals (refine s_seq ?_; refine s_ops ?_; refine s_mov (by (conv => lhs; whnf); first | done | exact rfl) ?_; refine s_nil ?_; (repeat (first | refine s_then ?_ | refine s_blockN ?_)); refine s_ret ?_; (repeat (first | refine s_retT ?_ | refine s_retB ?_)); refine q_ret1 (by (conv => lhs; whnf); first | done | exact rfl) ?_)
                          all_goals (((refine ⟨_, rfl, ?_, (hS.subP (by (repeat constructor); first | done | fail))⟩; ((repeat (first | rw [if_pos (by omega)] | rw [if_neg (by omega)]))); done))))
                       | (refine s_cond_f rfl ?_ -- types_wrong c6
                          all_goals (refine s_skip ?_; (repeat (first | refine s_then ?_ | refine s_blockN ?_)))))
                  | (refine s_cond_f rfl ?_ -- types_wrong c5
                     all_goals (refine s_seq ?_; refine s_ops ?_; refine s_mov (by (conv => lhs; whnf); first | done | exact rfl) ?_; refine s_nil ?_; (repeat (first | refine s_then ?_ | refine s_blockN ?_)); refine s_ret ?_; (repeat (first | refine s_retT ?_ | refine s_retB ?_)); refine q_ret1 (by (conv => lhs; whnf); first | done | exact rfl) ?_)
                     all_goals (((refine ⟨_, rfl, ?_, (hS.subP (by (repeat constructor); first | done | fail))⟩; ((repeat (first | rw [if_pos (by omega)] | rw [if_neg (by omega)]))); done))))))
      all_goals (((exact ⟨⟨rfl, rfl, trivial⟩, by omega, (hS.subP (by (repeat constructor); first | done | fail))⟩)))
    dsimp only; clear e1 e2; rintro ρ w1 ⟨hρ, hk, hS⟩; obtain ⟨ρ, rfl⟩ := env_intro _ hρ
    all_goals (refine s_seq ?_; refine s_seq ?_; refine s_ops ?_; (refine s_fld0 rfl ?_); ((refine s_loadB hS rfl (NthP.nth (by repeat constructor)) rfl ?_)))
    all_goals (first | (refine s_lss_t rfl rfl (by omega) ?_) | (refine s_lss_f rfl rfl (by omega) ?_) | (refine s_lss_s rfl rfl (fun hc => ?_) (fun hc => ?_)))
    all_goals (refine s_mov (by (conv => lhs; whnf); first | done | exact rfl) ?_; (first | refine s_gn rfl rfl ?_ | (refine s_gy rfl ?_; (refine s_fld0 rfl ?_))); (first | refine s_gn rfl rfl ?_ | (refine s_gy rfl ?_; ((refine s_loadB hS rfl (NthP.nth (by repeat constructor)) rfl ?_)))); (first | refine s_gn rfl rfl ?_ | (refine s_gy rfl ?_; refine s_mov (by (conv => lhs; whnf); first | done | exact rfl) ?_)))
    all_goals (first | refine s_gn rfl rfl ?_ | (refine s_gy rfl ?_; (first | (refine s_geq_t rfl rfl (by omega) ?_) | (refine s_geq_f rfl rfl (by omega) ?_) | (refine s_geq_s rfl rfl (fun hc => ?_) (fun hc => ?_)))))
    all_goals ((first | refine s_pick_t rfl (by (conv => lhs; whnf); first | done | exact rfl) ?_ | refine s_pick_f rfl (by (conv => lhs; whnf); first | done | exact rfl) ?_); refine s_nil ?_; (repeat (first | refine s_then ?_ | refine s_blockN ?_)))
    all_goals
      first
      | (refine s_cond_t rfl ?_ -- types_wrong c7
         all_goals (refine s_seq ?_; refine s_ops ?_; refine s_mov (by (conv => lhs; whnf); first | done | exact rfl) ?_; refine s_nil ?_; (repeat (first | refine s_then ?_ | refine s_blockN ?_)); refine s_ret ?_; (repeat (first | refine s_retT ?_ | refine s_retB ?_)); refine q_ret1 (by (conv => lhs; whnf); first | done | exact rfl) ?_)
         all_goals (((refine ⟨_, rfl, ?_, (hS.subP (by (repeat constructor); first | done | fail))⟩; ((repeat (first | rw [if_pos (by omega)] | rw [if_neg (by omega)]))); done))))
      | (refine s_cond_f rfl ?_ -- types_wrong c7
         all_goals (refine s_skip ?_; (repeat (first | refine s_then ?_ | refine s_blockN ?_))))
    all_goals (refine s_seq ?_; refine s_seq ?_; refine s_ops ?_; (refine s_fld0 rfl ?_); ((refine s_loadB hS rfl (NthP.nth (by repeat constructor)) rfl ?_)); ((refine s_lenL (by (conv => lhs; whnf); first | done | exact rfl) (by assumption) ?_)); refine s_mov (by (conv => lhs; whnf); first | done | exact rfl) ?_; refine s_nil ?_; (repeat (first | refine s_then ?_ | refine s_blockN ?_)); refine s_block ?_)
    refine s_ask (i := 1) (by (conv => lhs; whnf); first | done | exact rfl) (fun e1 => ?_)
    refine s_ask (i := 44) (by (conv => lhs; whnf); first | done | exact rfl) (fun e44 => ?_)
    refine s_ask (i := 45) (by (conv => lhs; whnf); first | done | exact rfl) (fun e45 => ?_)
    refine s_loop ((fun {xx1 V1 : Value} (_ : xx1 = V1) {xx44 V44 : Value} (_ : xx44 = V44) {xx45 V45 : Value} (_ : xx45 = V45) {cc : Cx} {ww : World} {LL : List Res} (_ : St cc ww LL) => (fun ρ' w' => ∃ (j : Nat), Has ρ' [(1, V1), (44, V44), (45, V45), (46, .int .i64 j)] ∧ (j ≤ l.length) ∧ (Tys.wrong 8 l regs = Tys.wrong 8 (l.drop j) regs) ∧ St cx w' (LL) : Env → World → Prop)) e1 e44 e45 hS) (fun ρ' _ => (l.length - iv (ρ' 46)).toNat) ?_ ?_
    · exact ⟨0, ⟨rfl, rfl, rfl, rfl, trivial⟩, (by omega), by simp, (hS.subP (by (repeat constructor); first | done | fail))⟩
    dsimp only; clear e1 e44 e45; rintro ρ w1 ⟨j, hρ, hj, hd, hS⟩; obtain ⟨ρ, rfl⟩ := env_intro _ hρ
    unfold types_wrong_b17
    all_goals (refine s_seq ?_; refine s_ops ?_; refine s_lss_d rfl rfl ?_; refine s_nil ?_; (repeat (first | refine s_then ?_ | refine s_blockN ?_)); refine s_seq ?_)
    refine s_cond_d rfl (fun hc => ?_) (fun hc => ?_)
    · skip
      all_goals (refine s_skip ?_; (repeat (first | refine s_then ?_ | refine s_blockN ?_)); refine s_seq ?_; refine s_block ?_; refine s_seq ?_; refine s_ops ?_; (refine s_idxLn (by (conv => lhs; whnf); first | done | exact rfl) rfl (by assumption) rfl (by omega) ?_); intro b1 o1 cs1 x1 hat1 hx1 he1; ((obtain ⟨vl1, rfl, hl1⟩ := tyR_out he1)); (first | (refine s_loadnB hS rfl (NthP.nth (by repeat constructor)) rfl rfl ?_) | (refine s_loadnK hS (by assumption) rfl rfl ?_)); refine s_allocB hS ?_; (intro p6 w1 hS); ((refine s_storenF hS rfl rfl (by rfl) (NthP.nth (by repeat constructor)) (by rfl) (by first | (simp [oneC]; done) | assumption | exact Rep.one _ (by assumption)) ?_; intro w1 hS; simp only [List.set_cons_zero, List.set_cons_succ] at hS)))
      all_goals (refine s_nil ?_; (repeat (first | refine s_then ?_ | refine s_blockN ?_)); refine s_seq ?_; refine s_ops ?_; ((refine s_loadnB hS rfl (NthP.nth (by repeat constructor)) rfl rfl ?_)); refine s_mov (by (conv => lhs; whnf); first | done | exact rfl) ?_; refine s_rets_2 (by (conv => lhs; whnf); first | done | exact rfl) (by (conv => lhs; whnf); first | done | exact rfl) (ih _ (List.mem_of_getElem? (by assumption)) (by assumption) hS) ?_; rintro v1 w1 ⟨rfl, hS⟩; refine s_mov (by (conv => lhs; whnf); first | done | exact rfl) ?_; refine s_nil ?_; (repeat (first | refine s_then ?_ | refine s_blockN ?_)); refine s_seq ?_; refine s_ops ?_; refine s_mov (by (conv => lhs; whnf); first | done | exact rfl) ?_)
      all_goals (first | (refine s_neq_t rfl rfl (by omega) ?_) | (refine s_neq_f rfl rfl (by omega) ?_) | (refine s_neq_s rfl rfl (fun hc => ?_) (fun hc => ?_)))
      all_goals (refine s_nil ?_; (repeat (first | refine s_then ?_ | refine s_blockN ?_)))
      all_goals
        first
        | (refine s_cond_t rfl ?_ -- types_wrong c9
           all_goals (refine s_seq ?_; refine s_ops ?_; refine s_mov (by (conv => lhs; whnf); first | done | exact rfl) ?_; refine s_mov (by (conv => lhs; whnf); first | done | exact rfl) ?_; refine s_nil ?_; (repeat (first | refine s_then ?_ | refine s_blockN ?_)); refine s_ret ?_; (repeat (first | refine s_retT ?_ | refine s_retB ?_)); refine q_ret1 (by (conv => lhs; whnf); first | done | exact rfl) ?_)
           all_goals (first | ((refine ⟨_, rfl, ?_, (hS.subP (by (repeat constructor); first | done | fail))⟩; ((repeat (first | rw [if_pos (by omega)] | rw [if_neg (by omega)]))); done)) | ((refine ⟨_, rfl, ?_, (hS.subP (by (repeat constructor); first | done | fail))⟩; ((repeat (first | rw [if_pos (by omega)] | rw [if_neg (by omega)])); rw [hd, drop_cons hx1, Tys.wrong, if_pos (by assumption)]); done))))
        | (refine s_cond_f rfl ?_ -- types_wrong c9
           all_goals (refine s_skip ?_; (repeat (first | refine s_then ?_ | refine s_blockN ?_))))
      all_goals (refine s_ops ?_; ((refine s_add rfl rfl (by omega) (by omega) ?_)); refine s_mov (by (conv => lhs; whnf); first | done | exact rfl) ?_; refine s_nil ?_; (repeat (first | refine s_then ?_ | refine s_blockN ?_)); ((exact ⟨⟨j + 1, ⟨rfl, rfl, rfl, rfl, trivial⟩, (by omega), by rw [hd, drop_cons hx1, Tys.wrong, if_neg (by omega)], (hS.subP (by (repeat constructor); first | done | fail))⟩, meas_lt (by omega)⟩)))
    · skip
      all_goals (refine s_exit ?_; (repeat (first | refine s_exitQ ?_ | refine s_exitT ?_ | refine s_exitB rfl ?_ | refine s_then ?_ | refine s_blockN ?_)); refine s_seq ?_; refine s_ops ?_; refine s_mov (by (conv => lhs; whnf); first | done | exact rfl) ?_; refine s_nil ?_; (repeat (first | refine s_then ?_ | refine s_blockN ?_)); refine s_ret ?_; (repeat (first | refine s_retT ?_ | refine s_retB ?_)); refine q_ret1 (by (conv => lhs; whnf); first | done | exact rfl) ?_; (first | ((refine ⟨_, rfl, ?_, (hS.subP (by (repeat constructor); first | done | fail))⟩; ((repeat (first | rw [if_pos (by omega)] | rw [if_neg (by omega)]))); done)) | ((refine ⟨_, rfl, ?_, (hS.subP (by (repeat constructor); first | done | fail))⟩; ((repeat (first | rw [if_pos (by omega)] | rw [if_neg (by omega)])); rw [hd, drop_cons hx1, Tys.wrong, if_pos (by assumption)]); done)) | ((refine ⟨_, rfl, ?_, (hS.subP (by (repeat constructor); first | done | fail))⟩; ((repeat (first | rw [if_pos (by omega)] | rw [if_neg (by omega)])); rw [List.eq_nil_of_length_eq_zero (l := l) (by omega), Tys.wrong]); done)) | ((refine ⟨_, rfl, ?_, (hS.subP (by (repeat constructor); first | done | fail))⟩; ((repeat (first | rw [if_pos (by omega)] | rw [if_neg (by omega)])); rw [hd, List.drop_of_length_le (by omega), Tys.wrong]); done))))
theorem tcheck_c {t : Ty} {cx : Cx} {w : World} {L : List Res} {cs : List Value} {regs : Int} (ht : tyR.at cx cs t) (hS : St cx w L) :
    Rets Try.prog types_Check [.agg ⟨cs⟩, .int .i64 regs] w fun v w' => v = .int .i64 (t.fault regs) ∧ St cx w' L := by
  obtain ⟨v, rfl, hl⟩ := tyR_out ht
  unfold Ty.fault
  all_goals refine types_Check_in ?_
  all_goals (unfold types_Check_lc; refine s_seq ?_; refine s_ops ?_; refine s_boxB hS (by (conv => lhs; whnf); first | done | exact rfl) (by rfl) ?_; (intro p2 w1 hS); refine s_mov (by (conv => lhs; whnf); first | done | exact rfl) ?_; refine s_nil ?_; (repeat (first | refine s_then ?_ | refine s_blockN ?_)); refine s_seq ?_; refine s_seq ?_; refine s_ops ?_; ((refine s_loadnB hS rfl (NthP.nth (by repeat constructor)) rfl rfl ?_)))
  all_goals (refine s_rets_2 (by (conv => lhs; whnf); first | done | exact rfl) (by (conv => lhs; whnf); first | done | exact rfl) (deep_c t ht (by omega) hS) ?_; rintro v1 w1 ⟨rfl, hS⟩; cases hg : t.deepB 4)
  all_goals (refine s_not rfl ?_; refine s_nil ?_; (repeat (first | refine s_then ?_ | refine s_blockN ?_)))
  all_goals
    first
    | (refine s_cond_t rfl ?_ -- types_Check c0
       all_goals (refine s_seq ?_; refine s_ops ?_; refine s_mov (by (conv => lhs; whnf); first | done | exact rfl) ?_; refine s_nil ?_; (repeat (first | refine s_then ?_ | refine s_blockN ?_)); refine s_ret ?_; (repeat (first | refine s_retT ?_ | refine s_retB ?_)); refine q_ret1 (by (conv => lhs; whnf); first | done | exact rfl) ?_)
       all_goals (((refine ⟨_, rfl, ?_, (hS.subP (by (repeat constructor); first | done | fail))⟩; (rfl); done))))
    | (refine s_cond_f rfl ?_ -- types_Check c0
       all_goals (refine s_skip ?_; (repeat (first | refine s_then ?_ | refine s_blockN ?_))))
  all_goals (refine s_seq ?_; refine s_ops ?_; ((refine s_loadnB hS rfl (NthP.nth (by repeat constructor)) rfl rfl ?_)); refine s_mov (by (conv => lhs; whnf); first | done | exact rfl) ?_; refine s_rets_2 (by (conv => lhs; whnf); first | done | exact rfl) (by (conv => lhs; whnf); first | done | exact rfl) (wrong_c t ht hS) ?_; rintro v1 w1 ⟨rfl, hS⟩; refine s_mov (by (conv => lhs; whnf); first | done | exact rfl) ?_; refine s_nil ?_; (repeat (first | refine s_then ?_ | refine s_blockN ?_)); refine s_ret ?_; (repeat (first | refine s_retT ?_ | refine s_retB ?_)); refine q_ret1 (by (conv => lhs; whnf); first | done | exact rfl) ?_; (((refine ⟨_, rfl, ?_, (hS.subP (by (repeat constructor); first | done | fail))⟩; (rfl); done))))
end Go.Proofs.Ytanlkfeogoganaa
