/- PoolDoes: the walk of the law. -/
import Derived.Test.YtocllfbfogcbgaaPages
namespace Go.Proofs.Ytocllfbfogcbgaa
open Go.Lir
attribute [local irreducible] LC.wp opsWp thenQ blockQ retQ resWp LO.wp callPost Calls
set_option linter.unusedSimpArgs false
set_option linter.unusedVariables false

theorem poolO (p : Value) (n : Nat) (ws fr : List Int) : Objs (fun H F => PoolH H p F n ws fr) := ⟨fun h hf hn => PoolH.fr h hf hn, fun h => PoolH.lt h⟩
theorem pagesO (q : Value) (n : Nat) (ws fr : List Int) : Objs (fun H F => PagesH H q F n ws fr) := ⟨fun h hf hn => PagesH.fr h hf hn, fun h => PagesH.lt h⟩

theorem sameL_c {vx vy : Value} {G G' : Nat → Prop} {xs ys : List Int} {w : World} (hx : SlR w.heap 1 vx G (xs.map icell)) (hy : SlR w.heap 1 vy G' (ys.map icell)) (hl : xs.length ≤ 9223372036854775807) : Rets Try.prog R_SameLongs [vx, vy] w fun v w' => v = .bool (decide (xs = ys)) ∧ Fr NF w w' := by
  have hlen : (xs.map icell).length = xs.length := List.length_map _
  have hlen' : (ys.map icell).length = ys.length := List.length_map _
  refine R_SameLongs_in ?_
  unfold R_SameLongs_lc
  all_goals (refine s_seq ?_; refine s_ops ?_; refine s_mov (by (conv => lhs; whnf); first | done | fail) ?_; refine s_nil ?_; (repeat (first | refine s_then ?_ | refine s_blockN ?_)); refine s_seq ?_; refine s_seq ?_; refine s_ops ?_; refine s_mov (by (conv => lhs; whnf); first | done | fail) ?_; (first | (refine s_lenR (by (conv => lhs; whnf); first | done | fail) hx ?_) | (refine s_lenR (by (conv => lhs; whnf); first | done | fail) hy ?_) | (refine s_lenR (by (conv => lhs; whnf); first | done | fail) hx1 ?_) | (refine s_lenS (by (conv => lhs; whnf); first | done | fail) (by assumption) ?_) | (refine s_len rfl ?_)); refine s_mov (by (conv => lhs; whnf); first | done | fail) ?_; (first | (refine s_lenR (by (conv => lhs; whnf); first | done | fail) hx ?_) | (refine s_lenR (by (conv => lhs; whnf); first | done | fail) hy ?_) | (refine s_lenR (by (conv => lhs; whnf); first | done | fail) hx1 ?_) | (refine s_lenS (by (conv => lhs; whnf); first | done | fail) (by assumption) ?_) | (refine s_len rfl ?_)))
  all_goals (first | (refine s_neq_t rfl rfl (by omega) ?_) | (refine s_neq_f rfl rfl (by omega) ?_) | (refine s_neq_s rfl rfl (fun hc => ?_) (fun hc => ?_)))
  all_goals (refine s_nil ?_; (repeat (first | refine s_then ?_ | refine s_blockN ?_)))
  all_goals
    first
    | (refine s_cond_t rfl ?_ -- R_SameLongs c0
       all_goals (refine s_seq ?_; refine s_ops ?_; refine s_mov (by (conv => lhs; whnf); first | done | fail) ?_; refine s_nil ?_; (repeat (first | refine s_then ?_ | refine s_blockN ?_)); refine s_ret ?_; (repeat (first | refine s_retT ?_ | refine s_retB ?_)); refine q_ret1 (by (conv => lhs; whnf); first | done | fail) ?_)
       all_goals (first | (exact ⟨_, rfl, congrArg Value.bool (decide_eq_false (fun h => hc (by rw [hlen, hlen', h]))).symm, Fr.refl _ _⟩) | (exact ⟨_, rfl, congrArg Value.bool (decide_eq_false (fun h => hc (by rw [h]))).symm, hf.drew'⟩) | (exact ⟨_, rfl, congrArg Value.bool (decide_eq_true (ext_getD 0 (by omega) fun j hj => hn j (by omega))).symm, hf⟩)))
    | (refine s_cond_f rfl ?_ -- R_SameLongs c0
       all_goals (refine s_skip ?_; (repeat (first | refine s_then ?_ | refine s_blockN ?_))))
  all_goals (refine s_seq ?_; refine s_seq ?_; refine s_ops ?_; refine s_mov (by (conv => lhs; whnf); first | done | fail) ?_; refine s_nil ?_; (repeat (first | refine s_then ?_ | refine s_blockN ?_)); refine s_block ?_)
  refine s_loop (fun ρ' w' => ∃ (i : Nat), Has ρ' [(0, vx), (1, vy), (5, .int .i64 i)] ∧ i ≤ xs.length ∧ (∀ j < i, xs.getD j 0 = ys.getD j 0) ∧ Fr NF w w') (fun ρ' _ => (xs.length - iv (ρ' 5)).toNat) ?_ ?_
  · exact ⟨0, ⟨rfl, rfl, rfl, trivial⟩, Nat.zero_le _, fun j hj => absurd hj (by omega), Fr.refl _ _⟩
  rintro ρ w1 ⟨i, hρ, hi, hn, hf⟩; obtain ⟨ρ, rfl⟩ := env_intro _ hρ; have hx1 := hx.fr0 hf; have hy1 := hy.fr0 hf
  unfold R_SameLongs_b4
  all_goals (refine s_seq ?_; refine s_seq ?_; refine s_ops ?_; refine s_mov (by (conv => lhs; whnf); first | done | fail) ?_; refine s_mov (by (conv => lhs; whnf); first | done | fail) ?_; (first | (refine s_lenR (by (conv => lhs; whnf); first | done | fail) hx ?_) | (refine s_lenR (by (conv => lhs; whnf); first | done | fail) hy ?_) | (refine s_lenR (by (conv => lhs; whnf); first | done | fail) hx1 ?_) | (refine s_lenS (by (conv => lhs; whnf); first | done | fail) (by assumption) ?_) | (refine s_len rfl ?_)); refine s_lss_d rfl rfl ?_; refine s_nil ?_; (repeat (first | refine s_then ?_ | refine s_blockN ?_)))
  refine s_cond_d rfl (fun hc => ?_) (fun hc => ?_)
  · skip
    all_goals (refine s_skip ?_; (repeat (first | refine s_then ?_ | refine s_blockN ?_)); refine s_seq ?_; refine s_block ?_; refine s_seq ?_; refine s_draw [(0, none), (1, none), (2, none), (3, none), (4, none), (5, none), (6, none), (7, none), (8, some none)] (by kernel_rfl) (by kernel_rfl) ?_; have hx1 := hx1.fr0 (Fr.drew' (Fr.refl NF _)); have hy1 := hy1.fr0 (Fr.drew' (Fr.refl NF _)); refine s_mov (by (conv => lhs; whnf); first | done | fail) ?_; refine s_mov (by (conv => lhs; whnf); first | done | fail) ?_; (first | (refine s_idxRn (by (conv => lhs; whnf); first | done | fail) rfl hx1 (map_get icell xs 0 (by omega)) ?_; intro b1 o1 hat1 hG1) | (refine s_idxRn (by (conv => lhs; whnf); first | done | fail) rfl hy1 (map_get icell ys 0 (by omega)) ?_; intro b2 o2 hat2 hG2) | (refine s_idxS (by (conv => lhs; whnf); first | done | fail) rfl (by assumption) (by omega) (by omega) ?_; intro b1 o1 hel1)); (first | (refine s_loadA rfl (by assumption) rfl ?_) | (refine s_loadb rfl (by assumption) (by rfl) ?_)); refine s_mov (by (conv => lhs; whnf); first | done | fail) ?_; refine s_mov (by (conv => lhs; whnf); first | done | fail) ?_; (first | (refine s_idxRn (by (conv => lhs; whnf); first | done | fail) rfl hx1 (map_get icell xs 0 (by omega)) ?_; intro b1 o1 hat1 hG1) | (refine s_idxRn (by (conv => lhs; whnf); first | done | fail) rfl hy1 (map_get icell ys 0 (by omega)) ?_; intro b2 o2 hat2 hG2) | (refine s_idxS (by (conv => lhs; whnf); first | done | fail) rfl (by assumption) (by omega) (by omega) ?_; intro b1 o1 hel1)); (first | (refine s_loadA rfl (by assumption) rfl ?_) | (refine s_loadb rfl (by assumption) (by rfl) ?_)))
    all_goals (first | (refine s_neq_t rfl rfl (by omega) ?_) | (refine s_neq_f rfl rfl (by omega) ?_) | (refine s_neq_s rfl rfl (fun hc => ?_) (fun hc => ?_)))
    all_goals (refine s_nil ?_; (repeat (first | refine s_then ?_ | refine s_blockN ?_)))
    all_goals
      first
      | (refine s_cond_t rfl ?_ -- R_SameLongs c2
         all_goals (refine s_seq ?_; refine s_ops ?_; refine s_mov (by (conv => lhs; whnf); first | done | fail) ?_; refine s_nil ?_; (repeat (first | refine s_then ?_ | refine s_blockN ?_)); refine s_ret ?_; (repeat (first | refine s_retT ?_ | refine s_retB ?_)); refine q_ret1 (by (conv => lhs; whnf); first | done | fail) ?_)
         all_goals (first | (exact ⟨_, rfl, congrArg Value.bool (decide_eq_false (fun h => hc (by rw [hlen, hlen', h]))).symm, Fr.refl _ _⟩) | (exact ⟨_, rfl, congrArg Value.bool (decide_eq_false (fun h => hc (by rw [h]))).symm, hf.drew'⟩) | (exact ⟨_, rfl, congrArg Value.bool (decide_eq_true (ext_getD 0 (by omega) fun j hj => hn j (by omega))).symm, hf⟩)))
      | (refine s_cond_f rfl ?_ -- R_SameLongs c2
         all_goals (refine s_skip ?_; (repeat (first | refine s_then ?_ | refine s_blockN ?_))))
    all_goals (refine s_ops ?_; refine s_mov (by (conv => lhs; whnf); first | done | fail) ?_; (first | (refine s_add rfl rfl (by omega) (by omega) ?_) | (refine s_addw rfl rfl ?_)); refine s_mov (by (conv => lhs; whnf); first | done | fail) ?_; refine s_nil ?_; (repeat (first | refine s_then ?_ | refine s_blockN ?_)))
    all_goals (refine ⟨⟨i + 1, ⟨rfl, rfl, rfl, trivial⟩, by omega, fun j hj => ?_, hf.drew'⟩, meas_lt (by omega)⟩; rcases Nat.lt_or_ge j i with h | h; (exact hn j h); have : j = i := (by omega); subst this; simpa using hc)
  · skip
    all_goals (refine s_exit ?_; (repeat (first | refine s_exitQ ?_ | refine s_exitT ?_ | refine s_exitB rfl ?_ | refine s_then ?_ | refine s_blockN ?_)); refine s_seq ?_; refine s_ops ?_; refine s_mov (by (conv => lhs; whnf); first | done | fail) ?_; refine s_nil ?_; (repeat (first | refine s_then ?_ | refine s_blockN ?_)); refine s_ret ?_; (repeat (first | refine s_retT ?_ | refine s_retB ?_)); refine q_ret1 (by (conv => lhs; whnf); first | done | fail) ?_)
    all_goals (first | (exact ⟨_, rfl, congrArg Value.bool (decide_eq_false (fun h => hc (by rw [hlen, hlen', h]))).symm, Fr.refl _ _⟩) | (exact ⟨_, rfl, congrArg Value.bool (decide_eq_false (fun h => hc (by rw [h]))).symm, hf.drew'⟩) | (exact ⟨_, rfl, congrArg Value.bool (decide_eq_true (ext_getD 0 (by omega) fun j hj => hn j (by omega))).symm, hf⟩))

theorem pbegun_c (w : World) : Rets Try.prog Law_poolBegun [] w fun v w' => v = .bool true ∧ Fr NF w w' := by
  refine Law_poolBegun_in ?_
  unfold Law_poolBegun_lc
  all_goals (refine s_seq ?_; refine s_ops ?_; refine s_mov (by (conv => lhs; whnf); first | done | fail) ?_; refine s_nil ?_; (repeat (first | refine s_then ?_ | refine s_blockN ?_)); refine s_seq ?_; refine s_ops ?_; refine s_rets (by rfl) (new_c (n := 2) _ (by omega)) ?_; rintro v1 w1 ⟨p, F, rfl, h1, hf1, hl1⟩; rw [show freeTo 2 2 = [(1 : Int)] ++ [((0 : Nat) : Int)] from rfl] at h1; refine s_mov (by (conv => lhs; whnf); first | done | fail) ?_; refine s_ext rfl rfl ?_; refine s_ext rfl rfl ?_; refine s_alloc ?_; (first | (intro b2 w2 hb2 hf2 hz2 hk2; have h2 := h1.fr hf2 (fun _ _ h => h)) | (intro b1 w1 hb1 hfr1 hsz1 hblk1)); refine s_mov (by (conv => lhs; whnf); first | done | fail) ?_; (first | (refine s_storenV rfl rfl (by rfl) hk2 (by simp) (by simp [oneC]) (cs' := [_, _]) (by rfl) ?_; intro w3 hf3 hz3 hk3; have h3 := h2.fr hf3 (fun b hb e => absurd (h1.lt b hb) (by omega)); have hf3' := fr_fresh (hf1.then0 hf2) (fun b hb => by have := hf1.size; omega) hf3) | (refine s_storenV rfl rfl (by rfl) (by assumption) (by simp) (by simp [oneC]) (by rfl) ?_; intro w1 hfr1 hsz1 hblk1)); refine s_nil ?_; (repeat (first | refine s_then ?_ | refine s_blockN ?_)); refine s_seq ?_; refine s_seq ?_; refine s_ops ?_; (first | refine s_fld0 rfl ?_ | refine s_fld rfl ?_); refine s_loadb rfl (by assumption) (by rfl) ?_)
  all_goals (first | (refine s_neq_t rfl rfl (by omega) ?_) | (refine s_neq_f rfl rfl (by omega) ?_) | (refine s_neq_s rfl rfl (fun hc => ?_) (fun hc => ?_)))
  all_goals (refine s_mov (by (conv => lhs; whnf); first | done | fail) ?_; (first | (refine s_gy rfl ?_; refine s_mov (by (conv => lhs; whnf); first | done | fail) ?_) | refine s_gn rfl rfl ?_); refine s_gy rfl ?_; refine s_rets (by rfl) (take_c h3) ?_; rintro v4 w4 ⟨rfl, h4, hf4⟩; have hf4' := fr_fresh hf3' hl1 hf4; rw [show [(1 : Int)] = [] ++ [((1 : Nat) : Int)] from rfl] at h4)
  all_goals (first | (refine s_gy rfl ?_; (first | (refine s_neq_t rfl rfl (by omega) ?_) | (refine s_neq_f rfl rfl (by omega) ?_) | (refine s_neq_s rfl rfl (fun hc => ?_) (fun hc => ?_)))) | refine s_gn rfl rfl ?_)
  all_goals ((first | refine s_pick_t rfl (by (conv => lhs; whnf); first | done | fail) ?_ | refine s_pick_f rfl (by (conv => lhs; whnf); first | done | fail) ?_); refine s_mov (by (conv => lhs; whnf); first | done | fail) ?_; (first | (refine s_gy rfl ?_; refine s_mov (by (conv => lhs; whnf); first | done | fail) ?_) | refine s_gn rfl rfl ?_); refine s_gy rfl ?_; refine s_rets (by rfl) (take_c h4) ?_; rintro v5 w5 ⟨rfl, h5, hf5⟩; have hf5' := fr_fresh hf4' hl1 hf5)
  all_goals (first | (refine s_gy rfl ?_; (first | (refine s_neq_t rfl rfl (by omega) ?_) | (refine s_neq_f rfl rfl (by omega) ?_) | (refine s_neq_s rfl rfl (fun hc => ?_) (fun hc => ?_)))) | refine s_gn rfl rfl ?_)
  all_goals ((first | refine s_pick_t rfl (by (conv => lhs; whnf); first | done | fail) ?_ | refine s_pick_f rfl (by (conv => lhs; whnf); first | done | fail) ?_); refine s_mov (by (conv => lhs; whnf); first | done | fail) ?_; (first | (refine s_gy rfl ?_; refine s_mov (by (conv => lhs; whnf); first | done | fail) ?_) | refine s_gn rfl rfl ?_); refine s_gy rfl ?_; refine s_rets (by rfl) (take_none_c h5) ?_; rintro v6 w6 ⟨rfl, rfl⟩)
  all_goals (first | (refine s_gy rfl ?_; (first | (refine s_neq_t rfl rfl (by omega) ?_) | (refine s_neq_f rfl rfl (by omega) ?_) | (refine s_neq_s rfl rfl (fun hc => ?_) (fun hc => ?_)))) | refine s_gn rfl rfl ?_)
  all_goals ((first | refine s_pick_t rfl (by (conv => lhs; whnf); first | done | fail) ?_ | refine s_pick_f rfl (by (conv => lhs; whnf); first | done | fail) ?_); refine s_mov (by (conv => lhs; whnf); first | done | fail) ?_; (first | (refine s_gy rfl ?_; refine s_mov (by (conv => lhs; whnf); first | done | fail) ?_) | refine s_gn rfl rfl ?_); refine s_gy rfl ?_; refine s_rets (by rfl) (give_c (k := 0) h5 (by omega) (by simp)) ?_; rintro v7 w7 ⟨rfl, F7, h7, hf7⟩; have hf7' := fr_fresh hf5' hl1 hf7.fr; have hl7 := hf7.low hl1 hf5'.size; (first | (refine s_gy rfl ?_; refine s_not rfl ?_) | refine s_gn rfl rfl ?_); (first | refine s_pick_t rfl (by (conv => lhs; whnf); first | done | fail) ?_ | refine s_pick_f rfl (by (conv => lhs; whnf); first | done | fail) ?_); refine s_mov (by (conv => lhs; whnf); first | done | fail) ?_; (first | (refine s_gy rfl ?_; refine s_mov (by (conv => lhs; whnf); first | done | fail) ?_) | refine s_gn rfl rfl ?_); refine s_gy rfl ?_; refine s_rets (by rfl) (give_no_c (k := 0) h7 (.inr (.inr (by simp)))) ?_; rintro v8 w8 ⟨rfl, rfl⟩; (first | refine s_pick_t rfl (by (conv => lhs; whnf); first | done | fail) ?_ | refine s_pick_f rfl (by (conv => lhs; whnf); first | done | fail) ?_); refine s_mov (by (conv => lhs; whnf); first | done | fail) ?_; (first | (refine s_gy rfl ?_; refine s_mov (by (conv => lhs; whnf); first | done | fail) ?_) | refine s_gn rfl rfl ?_); refine s_gy rfl ?_; refine s_rets (by rfl) (store_c (i := 0) (x := 5) h7 (by omega)) ?_; rintro v9 w9 ⟨rfl, h9, hf9⟩; have hf9' := fr_fresh hf7' hl7 hf9)
  all_goals ((first | (refine s_gy rfl ?_; refine s_not rfl ?_) | refine s_gn rfl rfl ?_); (first | refine s_pick_t rfl (by (conv => lhs; whnf); first | done | fail) ?_ | refine s_pick_f rfl (by (conv => lhs; whnf); first | done | fail) ?_); refine s_nil ?_; (repeat (first | refine s_then ?_ | refine s_blockN ?_)))
  all_goals
    first
    | (refine s_cond_t rfl ?_ -- Law_poolBegun c0
       all_goals (refine s_seq ?_; refine s_ops ?_; refine s_mov (by (conv => lhs; whnf); first | done | fail) ?_; refine s_nil ?_; (repeat (first | refine s_then ?_ | refine s_blockN ?_)); refine s_ret ?_; (repeat (first | refine s_retT ?_ | refine s_retB ?_)); refine q_ret1 (by (conv => lhs; whnf); first | done | fail) ?_)
       all_goals (exact ⟨_, rfl, rfl, hf⟩))
    | (refine s_cond_f rfl ?_ -- Law_poolBegun c0
       all_goals (refine s_skip ?_; (repeat (first | refine s_then ?_ | refine s_blockN ?_))))
  all_goals (refine s_seq ?_)
  refine s_split 10 11 (by kernel_rfl) ?_ ?_
  · skip
    all_goals (refine s_draw [(0, none), (1, some none), (2, none), (3, none), (4, none), (5, some none), (6, none), (7, none), (8, none), (9, none), (10, some none), (11, some none), (12, some none), (13, none), (14, some none)] (by kernel_rfl) (by kernel_rfl) ?_; have h := h9.fr (Fr.drew' (Fr.refl NF _)) (fun _ _ h => h); have hf := hf9'.drew'; refine s_mov (by (conv => lhs; whnf); first | done | fail) ?_; refine s_rets (by rfl) (take_c h) ?_; rintro v10 w10 ⟨rfl, h, hf10⟩; have hf := fr_fresh hf hl7 hf10)
    all_goals (first | (refine s_eql_t rfl rfl (by omega) ?_) | (refine s_eql_f rfl rfl (by omega) ?_) | (refine s_eql_s rfl rfl (fun hc => ?_) (fun hc => ?_)))
    all_goals (refine s_mov (by (conv => lhs; whnf); first | done | fail) ?_; (first | (refine s_gy rfl ?_; refine s_mov (by (conv => lhs; whnf); first | done | fail) ?_) | refine s_gn rfl rfl ?_); refine s_gy rfl ?_; refine s_rets (by rfl) (free_c h) ?_; rintro v11 w11 ⟨rfl, rfl⟩; rw [List.length_nil])
    all_goals (first | (refine s_gy rfl ?_; (first | (refine s_eql_t rfl rfl (by omega) ?_) | (refine s_eql_f rfl rfl (by omega) ?_) | (refine s_eql_s rfl rfl (fun hc => ?_) (fun hc => ?_)))) | refine s_gn rfl rfl ?_)
    all_goals ((first | refine s_pick_t rfl (by (conv => lhs; whnf); first | done | fail) ?_ | refine s_pick_f rfl (by (conv => lhs; whnf); first | done | fail) ?_); refine s_mov (by (conv => lhs; whnf); first | done | fail) ?_; (first | (refine s_gy rfl ?_; refine s_mov (by (conv => lhs; whnf); first | done | fail) ?_) | refine s_gn rfl rfl ?_); refine s_gy rfl ?_; refine s_rets (by rfl) (words_c h) ?_; rintro v12 w12 ⟨F12, hs12, hf12, hl12⟩; have h := h.fr hf12 (fun _ _ h => h); have hf := hf.then0 hf12; refine s_gy rfl ?_; refine s_make el_long rfl rfl (by omega) (by omega) ?_; intro v13 w13 hf13 hs13 hz13; have h := h.fr hf13 (fun _ _ h => h); have hf := hf.then0 hf13; (first | have hs12 := hs12.fr0 hf13 | skip); (first | have hs13 := hs13.fr0 hf12 | skip); refine s_gy rfl ?_; refine s_rets (by rfl) (sameL_c (ys := List.replicate 32 0) hs12.toR hs13.toR (by decide)) ?_; rintro v14 w14 ⟨rfl, hf14⟩; have hf := hf.then0 hf14; rw [decide_eq_true (show clearPg ((clearPg (clearPg (List.replicate (2 * 16) 0) 0) 1).set 0 5) 0 = List.replicate 32 0 by decide)]; (first | refine s_pick_t rfl (by (conv => lhs; whnf); first | done | fail) ?_ | refine s_pick_f rfl (by (conv => lhs; whnf); first | done | fail) ?_); refine s_mov (by (conv => lhs; whnf); first | done | fail) ?_; refine s_nil ?_; (repeat (first | refine s_then ?_ | refine s_blockN ?_)); refine s_ret ?_; (repeat (first | refine s_retT ?_ | refine s_retB ?_)); refine q_ret1 (by (conv => lhs; whnf); first | done | fail) ?_; exact ⟨_, rfl, rfl, hf⟩)
  · skip
    all_goals (refine s_canon [(0, none), (1, some none), (2, none), (3, none), (4, none), (5, some none), (6, none), (7, none), (8, none), (9, none), (11, some (some [])), (10, some none), (12, some none), (13, none), (14, some none)] (by kernel_rfl) ?_; have h := h9.fr (Fr.drew' (Fr.refl NF _)) (fun _ _ h => h); have hf := hf9'.drew'; refine s_cq ?_; refine s_mov (by (conv => lhs; whnf); first | done | fail) ?_; refine s_nil ?_; refine s_then ?_; refine s_cf ?_; refine s_rets (by rfl) (take_c h) ?_; rintro v10 w10 ⟨rfl, h, hf10⟩; have hf := fr_fresh hf hl7 hf10; refine s_nil ?_; refine s_then ?_; refine s_cq ?_)
    all_goals (first | (refine s_eql_t rfl rfl (by omega) ?_) | (refine s_eql_f rfl rfl (by omega) ?_) | (refine s_eql_s rfl rfl (fun hc => ?_) (fun hc => ?_)))
    all_goals (refine s_nil ?_; refine s_then ?_; refine s_cq ?_; refine s_mov (by (conv => lhs; whnf); first | done | fail) ?_; refine s_nil ?_; refine s_then ?_; refine s_cq ?_; (first | (refine s_gy rfl ?_; refine s_mov (by (conv => lhs; whnf); first | done | fail) ?_) | refine s_gn rfl rfl ?_); refine s_nil ?_; refine s_then ?_; refine s_cf ?_; refine s_gy rfl ?_; refine s_rets (by rfl) (free_c h) ?_; rintro v11 w11 ⟨rfl, rfl⟩; rw [List.length_nil]; refine s_nil ?_; refine s_then ?_; refine s_cq ?_)
    all_goals (first | (refine s_gy rfl ?_; (first | (refine s_eql_t rfl rfl (by omega) ?_) | (refine s_eql_f rfl rfl (by omega) ?_) | (refine s_eql_s rfl rfl (fun hc => ?_) (fun hc => ?_)))) | refine s_gn rfl rfl ?_)
    all_goals (refine s_nil ?_; refine s_then ?_; refine s_cq ?_; (first | refine s_pick_t rfl (by (conv => lhs; whnf); first | done | fail) ?_ | refine s_pick_f rfl (by (conv => lhs; whnf); first | done | fail) ?_); refine s_nil ?_; refine s_then ?_; refine s_cq ?_; refine s_mov (by (conv => lhs; whnf); first | done | fail) ?_; refine s_nil ?_; refine s_then ?_; refine s_cq ?_; (first | (refine s_gy rfl ?_; refine s_mov (by (conv => lhs; whnf); first | done | fail) ?_) | refine s_gn rfl rfl ?_); refine s_nil ?_; refine s_then ?_; refine s_cfl ?_; refine s_gy rfl ?_; refine s_make el_long rfl rfl (by omega) (by omega) ?_; intro v13 w13 hf13 hs13 hz13; have h := h.fr hf13 (fun _ _ h => h); have hf := hf.then0 hf13; refine s_nil ?_; refine s_then ?_; refine ⟨fun _ h => (List.not_mem_nil h).elim, ?_⟩; refine s_cf ?_; refine s_gy rfl ?_; refine s_rets (by rfl) (words_c h) ?_; rintro v12 w12 ⟨F12, hs12, hf12, hl12⟩; have h := h.fr hf12 (fun _ _ h => h); have hf := hf.then0 hf12; refine s_nil ?_; refine s_then ?_; refine s_cf ?_; (first | have hs12 := hs12.fr0 hf13 | skip); (first | have hs13 := hs13.fr0 hf12 | skip); refine s_gy rfl ?_; refine s_rets (by rfl) (sameL_c (ys := List.replicate 32 0) hs12.toR hs13.toR (by decide)) ?_; rintro v14 w14 ⟨rfl, hf14⟩; have hf := hf.then0 hf14; rw [decide_eq_true (show clearPg ((clearPg (clearPg (List.replicate (2 * 16) 0) 0) 1).set 0 5) 0 = List.replicate 32 0 by decide)]; refine s_nil ?_; refine s_then ?_; refine s_cq ?_; (first | refine s_pick_t rfl (by (conv => lhs; whnf); first | done | fail) ?_ | refine s_pick_f rfl (by (conv => lhs; whnf); first | done | fail) ?_))
    all_goals (refine s_nil ?_; refine s_then ?_; refine s_cf ?_; refine s_mov (by (conv => lhs; whnf); first | done | fail) ?_; refine s_nil ?_; refine s_then ?_; refine s_cnil ?_; (repeat (first | refine s_then ?_ | refine s_blockN ?_)); refine s_ret ?_; (repeat (first | refine s_retT ?_ | refine s_retB ?_)); refine q_ret1 (by (conv => lhs; whnf); first | done | fail) ?_; exact ⟨_, rfl, rfl, hf⟩)

theorem fault_1 : Try.prog.keyLits 3 48 [.int .i64 1, .int .i64 (-1)] = some [.int .i64 1, .int .i64 (-1)] := by kernel_rfl
theorem great_c {v : Value} {G : Nat → Prop} {css : List (List Value)} {w : World} (h : SlR w.heap 3 v G css) : Rets Try.prog Law_poolGreat [v] w fun v w' => v = .bool (decide (500 < css.length)) ∧ w' = w := by
  refine Law_poolGreat_in ?_
  unfold Law_poolGreat_lc
  all_goals (refine s_seq ?_; refine s_ops ?_; refine s_mov (by (conv => lhs; whnf); first | done | fail) ?_; refine s_nil ?_; (repeat (first | refine s_then ?_ | refine s_blockN ?_)); refine s_seq ?_; refine s_ops ?_; refine s_mov (by (conv => lhs; whnf); first | done | fail) ?_; (first | (refine s_lenR (by (conv => lhs; whnf); first | done | fail) h ?_) | (refine s_lenS (by (conv => lhs; whnf); first | done | fail) (by assumption) ?_) | (refine s_len rfl ?_)); refine s_gtr_d rfl rfl ?_; refine s_mov (by (conv => lhs; whnf); first | done | fail) ?_; refine s_nil ?_; (repeat (first | refine s_then ?_ | refine s_blockN ?_)); refine s_ret ?_; (repeat (first | refine s_retT ?_ | refine s_retB ?_)); refine q_ret1 (by (conv => lhs; whnf); first | done | fail) ?_; exact ⟨_, rfl, congrArg Value.bool (decide_eq_decide.2 (by omega)), rfl⟩)

theorem poolDoes_c (n : Int) {vL : Value} {Gx : Nat → Prop} {css : List (List Value)} {w : World} (hL : SlR w.heap 3 vL Gx css)
    (hcss : ∀ m, m < css.length → ∃ (op k x : Int), css[m]? = some [.int .i64 op, .int .i64 k, .int .i64 x]) :
    Rets Try.prog Law_PoolDoes [.int .i64 n, vL] w fun v w' => v = .bool true ∧ Fr NF w w' := by
  refine Law_PoolDoes_in ?_
  unfold Law_PoolDoes_lc
  all_goals (refine s_seq ?_; refine s_ops ?_; refine s_mov (by (conv => lhs; whnf); first | done | fail) ?_; refine s_nil ?_; (repeat (first | refine s_then ?_ | refine s_blockN ?_)); refine s_seq ?_; refine s_seq ?_; refine s_ops ?_; refine s_rets (by rfl) (pbegun_c _) ?_; rintro v1 w1 ⟨rfl, hf1⟩; refine s_not rfl ?_; refine s_nil ?_; (repeat (first | refine s_then ?_ | refine s_blockN ?_)))
  all_goals
    first
    | (refine s_cond_t rfl ?_ -- Law_PoolDoes c0
       all_goals (refine s_seq ?_; refine s_ops ?_; refine s_mov (by (conv => lhs; whnf); first | done | fail) ?_; refine s_nil ?_; (repeat (first | refine s_then ?_ | refine s_blockN ?_)); refine s_ret ?_; (repeat (first | refine s_retT ?_ | refine s_retB ?_)); refine q_ret1 (by (conv => lhs; whnf); first | done | fail) ?_)
       all_goals (first | (exact ⟨_, rfl, rfl, hf1⟩) | (exact ⟨_, rfl, rfl, hf5''⟩) | (exact ⟨_, rfl, rfl, hT.fr⟩)))
    | (refine s_cond_f rfl ?_ -- Law_PoolDoes c0
       all_goals (refine s_skip ?_; (repeat (first | refine s_then ?_ | refine s_blockN ?_))))
  all_goals (refine s_seq ?_; refine s_seq ?_; refine s_ops ?_; refine s_mov (by (conv => lhs; whnf); first | done | fail) ?_; refine s_rets (by rfl) (great_c (hL.fr0 hf1)) ?_; rintro v2 w2 ⟨rfl, rfl⟩; refine s_nil ?_; (repeat (first | refine s_then ?_ | refine s_blockN ?_)))
  refine s_cond_d rfl (fun hc => ?_) (fun hc => ?_)
  · skip
    all_goals (refine s_seq ?_; refine s_ops ?_; refine s_mov (by (conv => lhs; whnf); first | done | fail) ?_; refine s_nil ?_; (repeat (first | refine s_then ?_ | refine s_blockN ?_)); refine s_ret ?_; (repeat (first | refine s_retT ?_ | refine s_retB ?_)); refine q_ret1 (by (conv => lhs; whnf); first | done | fail) ?_; (first | (exact ⟨_, rfl, rfl, hf1⟩) | (exact ⟨_, rfl, rfl, hf5''⟩) | (exact ⟨_, rfl, rfl, hT.fr⟩)))
  · skip
    all_goals (refine s_skip ?_; (repeat (first | refine s_then ?_ | refine s_blockN ?_)); refine s_seq ?_)
    all_goals (rcases (show (n < 0 ∨ 64 < n) ∨ ∃ m : Nat, n = m ∧ m ≤ 64 by (rcases Int.lt_or_le n 0 with h | h; (exact .inl (.inl h)); rcases Int.lt_or_le 64 n with h' | h'; (exact .inl (.inr h')); exact .inr ⟨n.toNat, by omega, by omega⟩)) with hn | ⟨m, rfl, hn⟩)
    all_goals (refine s_ops ?_; refine s_mov (by (conv => lhs; whnf); first | done | fail) ?_)
    all_goals (first | (refine s_rets (by rfl) (new_bad_c _ hn) ?_; rintro v3 w3 ⟨rfl, hf3⟩) | (refine s_rets (by rfl) (new_c _ hn) ?_; rintro v3 w3 ⟨p, F, rfl, hp3, hf3, hl3⟩))
    all_goals (refine s_mov (by (conv => lhs; whnf); first | done | fail) ?_; refine s_ext rfl rfl ?_; refine s_ext rfl rfl ?_; refine s_alloc ?_; intro b4 w4 hb4 hf4 hz4 hk4; have hf4' := hf3.then0 hf4; refine s_mov (by (conv => lhs; whnf); first | done | fail) ?_; refine s_storenV rfl rfl (by rfl) hk4 (by simp) (by simp [oneC]) (cs' := [_, _]) (by rfl) ?_; intro w5 hf5 hz5 hk5; have hf5' := fr_fresh hf4' (fun b hb => by have := hf3.size; omega) hf5; have hf5'' := hf1.then0 hf5'; refine s_nil ?_; (repeat (first | refine s_then ?_ | refine s_blockN ?_)); refine s_seq ?_; refine s_seq ?_; refine s_ops ?_; refine s_mov (by (conv => lhs; whnf); first | done | fail) ?_)
    all_goals (first | (refine s_lss_t rfl rfl (by omega) ?_) | (refine s_lss_f rfl rfl (by omega) ?_) | (refine s_lss_s rfl rfl (fun hc => ?_) (fun hc => ?_)))
    all_goals (refine s_mov (by (conv => lhs; whnf); first | done | fail) ?_; (first | (refine s_gy rfl ?_; refine s_mov (by (conv => lhs; whnf); first | done | fail) ?_) | refine s_gn rfl rfl ?_))
    all_goals (first | (refine s_gy rfl ?_; (first | (refine s_gtr_t rfl rfl (by omega) ?_) | (refine s_gtr_f rfl rfl (by omega) ?_) | (refine s_gtr_s rfl rfl (fun hc => ?_) (fun hc => ?_)))) | refine s_gn rfl rfl ?_)
    all_goals ((first | refine s_pick_t rfl (by (conv => lhs; whnf); first | done | fail) ?_ | refine s_pick_f rfl (by (conv => lhs; whnf); first | done | fail) ?_); refine s_nil ?_; (repeat (first | refine s_then ?_ | refine s_blockN ?_)))
    all_goals
      first
      | (refine s_cond_f rfl ?_ -- Law_PoolDoes c2
         all_goals (refine s_skip ?_; (repeat (first | refine s_then ?_ | refine s_blockN ?_))))
      | (refine s_cond_t rfl ?_ -- Law_PoolDoes c2
         all_goals (refine s_seq ?_; refine s_ops ?_; refine s_loadn rfl (by assumption) (by rfl) (by rfl) ?_; refine s_build2 (cs := [_, _]) (by (conv => lhs; whnf); first | done | fail) (by (conv => lhs; whnf); first | done | fail) (by rfl) ?_; refine s_aeq (m := 3) (D := 3) (by kernel_rfl) (by decide) (by kernel_rfl) rfl rfl (by kernel_rfl) (by kernel_rfl) fault_1 fault_1 (p := True) (by simp) ?_; refine s_mov (by (conv => lhs; whnf); first | done | fail) ?_; refine s_nil ?_; (repeat (first | refine s_then ?_ | refine s_blockN ?_)); refine s_ret ?_; (repeat (first | refine s_retT ?_ | refine s_retB ?_)); refine q_ret1 (by (conv => lhs; whnf); first | done | fail) ?_)
         all_goals (first | (exact ⟨_, rfl, rfl, hf1⟩) | (exact ⟨_, rfl, rfl, hf5''⟩) | (exact ⟨_, rfl, rfl, hT.fr⟩)))
    all_goals (refine s_seq ?_; refine s_seq ?_; refine s_ops ?_; (first | refine s_fld0 rfl ?_ | refine s_fld rfl ?_); refine s_loadb rfl (by assumption) (by rfl) ?_)
    all_goals (first | (refine s_neq_t rfl rfl (by omega) ?_) | (refine s_neq_f rfl rfl (by omega) ?_) | (refine s_neq_s rfl rfl (fun hc => ?_) (fun hc => ?_)))
    all_goals (refine s_nil ?_; (repeat (first | refine s_then ?_ | refine s_blockN ?_)))
    all_goals
      first
      | (refine s_cond_t rfl ?_ -- Law_PoolDoes c3
         all_goals (refine s_seq ?_; refine s_ops ?_; refine s_mov (by (conv => lhs; whnf); first | done | fail) ?_; refine s_nil ?_; (repeat (first | refine s_then ?_ | refine s_blockN ?_)); refine s_ret ?_; (repeat (first | refine s_retT ?_ | refine s_retB ?_)); refine q_ret1 (by (conv => lhs; whnf); first | done | fail) ?_)
         all_goals (first | (exact ⟨_, rfl, rfl, hf1⟩) | (exact ⟨_, rfl, rfl, hf5''⟩) | (exact ⟨_, rfl, rfl, hT.fr⟩)))
      | (refine s_cond_f rfl ?_ -- Law_PoolDoes c3
         all_goals (refine s_skip ?_; (repeat (first | refine s_then ?_ | refine s_blockN ?_))))
    all_goals (refine s_seq ?_; refine s_ops ?_; refine s_mov (by (conv => lhs; whnf); first | done | fail) ?_; refine s_rets (by rfl) (rnew_c _ hn) ?_; rintro q w6 ⟨G, hq6, hf6, hl6⟩; have hp5 := hp3.fr hf4 (fun _ _ h => h); have hp6 := hp5.fr hf5 (fun b hb e => absurd (hp3.lt b hb) (by omega)); refine s_mov (by (conv => lhs; whnf); first | done | fail) ?_; refine s_nil ?_; (repeat (first | refine s_then ?_ | refine s_blockN ?_)); refine s_seq ?_; refine s_seq ?_; refine s_ops ?_; refine s_mov (by (conv => lhs; whnf); first | done | fail) ?_; refine s_nil ?_; (repeat (first | refine s_then ?_ | refine s_blockN ?_)); refine s_block ?_; have hT : Two w w6 (fun H F => PoolH H p F m (List.replicate (m * 16) 0) (freeTo m m)) (fun H F => PagesH H q F m (List.replicate (m * 16) 0) (freeTo m m)) F G := Two.mk' (poolO _ _ _ _) (pagesO _ _ _ _) hp6 hq6 hf5'' hf6 (fun b hb => Nat.le_trans hf1.size (hl3 b hb)) hl6; obtain ⟨bq, _, _, _, _, _, _, ⟨rfl, _⟩⟩ := hq6)
    refine s_loop (fun ρ' w' => ∃ (i : Nat) (F G : Nat → Prop) (ws fr : List Int), Has ρ' [(1, vL), (5, p), (7, .pointer (some ⟨bq, 0, none⟩)), (8, .int .i64 i)] ∧ i ≤ css.length ∧ Two w w' (fun H F => PoolH H p F m ws fr) (fun H F => PagesH H (.pointer (some ⟨bq, 0, none⟩)) F m ws fr) F G) (fun ρ' _ => (css.length - iv (ρ' 8)).toNat) ?_ ?_
    · exact ⟨0, F, G, _, _, ⟨rfl, rfl, rfl, rfl, trivial⟩, Nat.zero_le _, hT⟩
    clear hT hp3 hp5 hp6; rintro ρ w7 ⟨i, F, G, ws, fr, hρ, hi, hT⟩; obtain ⟨ρ, rfl⟩ := env_intro _ hρ; have hL1 := hL.fr0 hT.fr
    unfold Law_PoolDoes_b12
    all_goals (refine s_seq ?_; refine s_seq ?_; refine s_ops ?_; refine s_mov (by (conv => lhs; whnf); first | done | fail) ?_; refine s_mov (by (conv => lhs; whnf); first | done | fail) ?_; refine s_lenR (by (conv => lhs; whnf); first | done | fail) hL1 ?_; refine s_lss_d rfl rfl ?_; refine s_nil ?_; (repeat (first | refine s_then ?_ | refine s_blockN ?_)))
    refine s_cond_d rfl (fun hc => ?_) (fun hc => ?_)
    · skip
      all_goals (refine s_skip ?_; (repeat (first | refine s_then ?_ | refine s_blockN ?_)); refine s_seq ?_; refine s_block ?_; refine s_seq ?_; obtain ⟨op, k, x, hci⟩ := hcss i (by omega); refine s_ops ?_; refine s_mov (by (conv => lhs; whnf); first | done | fail) ?_; refine s_mov (by (conv => lhs; whnf); first | done | fail) ?_; refine s_idxRn (by (conv => lhs; whnf); first | done | fail) rfl hL1 hci ?_; intro b1 o1 hat hG1; refine s_loadnA rfl hat (by rfl) ?_)
      all_goals (refine s_alloc ?_; intro bx w8 hbx hf8 hz8 hx8; have hnF : ¬ F bx := (fun h => absurd (hT.oa.lt hT.p _ h) (by omega)); have hnG : ¬ G bx := (fun h => absurd (hT.ob.lt hT.q _ h) (by omega)); have hbs := hT.fr.size; have hT := hT.fr0 hf8)
      all_goals (refine s_storenV rfl rfl (by rfl) hx8 (by simp) (by simp [oneC]) (cs' := [_, _, _]) (by rfl) ?_; intro w9 hf9 hz9 hx; have hT := hT.own hf9 (by omega) hnF hnG; refine s_nil ?_; (repeat (first | refine s_then ?_ | refine s_blockN ?_)))
      refine s_mid (fun ρ' w' => ∃ (c : Bool), Has ρ' [(1, vL), (5, p), (7, .pointer (some ⟨bq, 0, none⟩)), (8, .int .i64 i), (9, .pointer (some ⟨bx, 0, none⟩)), (10, .bool c)] ∧ (c = true ↔ 0 ≤ k ∧ k < ((m * 16 : Nat) : Int)) ∧ Two w w' (fun H F => PoolH H p F m ws fr) (fun H F => PagesH H (.pointer (some ⟨bq, 0, none⟩)) F m ws fr) F G ∧ Blk w'.heap bx 54 [.int .i64 op, .int .i64 k, .int .i64 x]) ?_ ?_
      · skip
        all_goals (refine s_draw [(0, none), (1, none), (2, none), (3, none), (4, none), (5, none), (6, none), (7, none), (8, none), (9, none), (10, none), (11, none), (12, none), (13, some none)] (by kernel_rfl) (by kernel_rfl) ?_)
        all_goals (have hT := hT.fr0 (Fr.drew' (Fr.refl NF _)); have hx := hx.fr0 (Fr.drew' (Fr.refl NF _)); obtain ⟨bq', vw, vf, nx, fd, Fw, Ff, he, hqb, hqw, _, _, _, _, _, _, _, hok⟩ := hT.q; cases he; have hwl : (ws.map icell).length = m * 16 := (by rw [List.length_map]; exact hok.len))
        all_goals ((first | refine s_fld0 rfl ?_ | refine s_fld rfl ?_); refine s_loadb rfl (by assumption) (by rfl) ?_)
        all_goals (first | (refine s_geq_t rfl rfl (by omega) ?_) | (refine s_geq_f rfl rfl (by omega) ?_) | (refine s_geq_s rfl rfl (fun hc => ?_) (fun hc => ?_)))
        all_goals (refine s_mov (by (conv => lhs; whnf); first | done | fail) ?_; (first | (refine s_gy rfl ?_; (first | refine s_fld0 rfl ?_ | refine s_fld rfl ?_)) | refine s_gn rfl rfl ?_); (first | (refine s_gy rfl ?_; refine s_loadb rfl (by assumption) (by rfl) ?_) | refine s_gn rfl rfl ?_); (first | (refine s_gy rfl ?_; refine s_mov (by (conv => lhs; whnf); first | done | fail) ?_) | refine s_gn rfl rfl ?_); (first | (refine s_gy rfl ?_; refine s_nilc rfl ?_) | refine s_gn rfl rfl ?_); (first | (refine s_gy rfl ?_; (first | refine s_fld0 rfl ?_ | refine s_fld rfl ?_)) | refine s_gn rfl rfl ?_); (first | (refine s_gy rfl ?_; refine s_loadb rfl (by assumption) (by rfl) ?_) | refine s_gn rfl rfl ?_); (first | (refine s_gy rfl ?_; refine s_lenS (by (conv => lhs; whnf); first | done | fail) hqw ?_) | (refine s_gn rfl rfl ?_)))
        all_goals (first | (refine s_gy rfl ?_; (first | (refine s_lss_t rfl rfl (by omega) ?_) | (refine s_lss_f rfl rfl (by omega) ?_) | (refine s_lss_s rfl rfl (fun hc => ?_) (fun hc => ?_)))) | refine s_gn rfl rfl ?_)
        all_goals ((first | refine s_pick_t rfl (by (conv => lhs; whnf); first | done | fail) ?_ | refine s_pick_f rfl (by (conv => lhs; whnf); first | done | fail) ?_); refine s_mov (by (conv => lhs; whnf); first | done | fail) ?_; refine s_nil ?_; (repeat (first | refine s_then ?_ | refine s_blockN ?_)); exact ⟨_, ⟨rfl, rfl, rfl, rfl, rfl, rfl, trivial⟩, by simp; omega, hT, hx⟩)
      clear hT hx; rintro ρ w9 ⟨c, hρ, hc10, hT, hx⟩; obtain ⟨ρ, rfl⟩ := env_intro _ hρ
      refine s_mid (fun ρ' w' => ∃ (F G : Nat → Prop) (ws fr : List Int), Has ρ' [(1, vL), (5, p), (7, .pointer (some ⟨bq, 0, none⟩)), (8, .int .i64 i)] ∧ Two w w' (fun H F => PoolH H p F m ws fr) (fun H F => PagesH H (.pointer (some ⟨bq, 0, none⟩)) F m ws fr) F G) ?_ ?_
      · skip
        all_goals (refine s_seq ?_; refine s_ops ?_; (first | refine s_fld0 rfl ?_ | refine s_fld rfl ?_); refine s_loadb rfl (by assumption) (by rfl) ?_; refine s_nil ?_; (repeat (first | refine s_then ?_ | refine s_blockN ?_)); refine s_block ?_; refine s_seq ?_; refine s_ops ?_)
        all_goals (first | (refine s_eql_t rfl rfl (by omega) ?_) | (refine s_eql_f rfl rfl (by omega) ?_) | (refine s_eql_s rfl rfl (fun hc => ?_) (fun hc => ?_)))
        all_goals (refine s_mov (by (conv => lhs; whnf); first | done | fail) ?_; refine s_nil ?_; (repeat (first | refine s_then ?_ | refine s_blockN ?_)))
        all_goals
          first
          | (refine s_cond_t rfl ?_ -- Law_PoolDoes c5
             all_goals (refine s_seq ?_)
             all_goals (rcases List.eq_nil_or_concat fr with rfl | ⟨fr', kk, rfl⟩)
             all_goals (refine s_ops ?_; (first | (obtain ⟨kn, rfl⟩ : ∃ kn : Nat, kk = kn := (by obtain ⟨_, _, _, _, _, _, _, hP⟩ := hT.p; have := hP.ok.rng kk (by simp); exact ⟨kk.toNat, by omega⟩); simp only [List.concat_eq_append] at hT) | skip); refine s_mov (by (conv => lhs; whnf); first | done | fail) ?_)
             all_goals (first | (refine s_rets (by rfl) (take_none_c hT.p) ?_; rintro v10 w10 ⟨rfl, rfl⟩) | (refine s_rets (by rfl) (take_c hT.p) ?_; rintro v10 w10 ⟨rfl, hp10, hf10⟩; have hT := hT.sp (poolO _ _ _ _) hp10 (Step.same hf10)))
             all_goals (refine s_mov (by (conv => lhs; whnf); first | done | fail) ?_; (first | (refine s_rets (by rfl) (rtake_none_c hT.q) ?_; rintro v11 w11 ⟨rfl, hf11⟩; have hT := hT.fr0 hf11) | (refine s_rets (by rfl) (rtake_c hT.q) ?_; rintro v11 w11 ⟨rfl, hq11, hf11⟩; have hT := hT.sq (pagesO _ _ _ _) hq11 (Step.same hf11))); refine s_neq_f rfl rfl (by simp) ?_; refine s_nil ?_; (repeat (first | refine s_then ?_ | refine s_blockN ?_)))
             all_goals
               first
               | (refine s_cond_t rfl ?_ -- Law_PoolDoes c6
                  all_goals (refine s_seq ?_; refine s_ops ?_; refine s_mov (by (conv => lhs; whnf); first | done | fail) ?_; refine s_nil ?_; (repeat (first | refine s_then ?_ | refine s_blockN ?_)); refine s_ret ?_; (repeat (first | refine s_retT ?_ | refine s_retB ?_)); refine q_ret1 (by (conv => lhs; whnf); first | done | fail) ?_)
                  all_goals (first | (exact ⟨_, rfl, rfl, hf1⟩) | (exact ⟨_, rfl, rfl, hf5''⟩) | (exact ⟨_, rfl, rfl, hT.fr⟩)))
               | (refine s_cond_f rfl ?_ -- Law_PoolDoes c6
                  all_goals (refine s_skip ?_; (repeat (first | refine s_then ?_ | refine s_blockN ?_)))))
          | (refine s_cond_f rfl ?_ -- Law_PoolDoes c5
             all_goals (refine s_seq ?_; refine s_ops ?_)
             all_goals (first | (refine s_eql_t rfl rfl (by omega) ?_) | (refine s_eql_f rfl rfl (by omega) ?_) | (refine s_eql_s rfl rfl (fun hc => ?_) (fun hc => ?_)))
             all_goals (refine s_mov (by (conv => lhs; whnf); first | done | fail) ?_; refine s_nil ?_; (repeat (first | refine s_then ?_ | refine s_blockN ?_)))
             all_goals
               first
               | (refine s_cond_t rfl ?_ -- Law_PoolDoes c7
                  all_goals (refine s_seq ?_; refine s_canon [(0, none), (1, none), (2, none), (4, none), (5, none), (6, none), (3, some (some [6])), (7, some none), (8, some none)] (by kernel_rfl) ?_; have hT := hT.fr0 (Fr.drew' (Fr.refl NF _)); have hx := hx.fr0 (Fr.drew' (Fr.refl NF _)); refine s_cq ?_)
                  all_goals (rcases (show (k < 0 ∨ (m : Int) ≤ k ∨ k ∈ fr) ∨ ∃ kn : Nat, k = kn ∧ kn < m ∧ (kn : Int) ∉ fr by (by_cases h1 : k < 0; (exact .inl (.inl h1)); by_cases h2 : (m : Int) ≤ k; (exact .inl (.inr (.inl h2))); by_cases h3 : k ∈ fr; (exact .inl (.inr (.inr h3))); exact .inr ⟨k.toNat, by omega, by omega, by rw [show ((k.toNat : Nat) : Int) = k by omega]; exact h3⟩)) with hg | ⟨kn, rfl, hg1, hg2⟩)
                  all_goals (refine s_mov (by (conv => lhs; whnf); first | done | fail) ?_; refine s_nil ?_; refine s_then ?_; refine s_cq ?_; (first | refine s_fld0 rfl ?_ | refine s_fld rfl ?_); refine s_nil ?_; refine s_then ?_; refine s_cq ?_; refine s_loadb rfl (by assumption) (by rfl) ?_; refine s_nil ?_; refine s_then ?_; refine s_cq ?_; refine s_mov (by (conv => lhs; whnf); first | done | fail) ?_; refine s_nil ?_; refine s_then ?_; refine s_cq ?_; (first | refine s_fld0 rfl ?_ | refine s_fld rfl ?_); refine s_nil ?_; refine s_then ?_; refine s_cq ?_; refine s_loadb rfl (by assumption) (by rfl) ?_; refine s_nil ?_; refine s_then ?_; refine s_cfl ?_)
                  all_goals (first | (refine s_rets (by rfl) (give_no_c hT.p hg) ?_; rintro v10 w10 ⟨rfl, rfl⟩) | (refine s_rets (by rfl) (give_c hT.p hg1 hg2) ?_; rintro v10 w10 ⟨rfl, F10, hp10, hs10⟩; have hx := hx.fr hs10.fr hnF; have hT := hT.sp (poolO _ _ _ _) hp10 hs10))
                  all_goals (refine s_nil ?_; refine s_then ?_; refine ⟨List.forall_mem_cons.2 ⟨(by first | (exact gq_load rfl (by assumption) rfl) | (exact gq_loadn rfl (by assumption) rfl rfl) | (exact gq_skip rfl rfl) | (exact gq_want rfl (gq_load rfl (by assumption) rfl))), fun _ h => (List.not_mem_nil h).elim⟩, ?_⟩; refine s_cf ?_)
                  all_goals (first | (refine s_rets (by rfl) (rgive_no_c hT.q hg) ?_; rintro v11 w11 ⟨rfl, rfl⟩) | (refine s_rets (by rfl) (rgive_c hT.q hg1 hg2) ?_; rintro v11 w11 ⟨rfl, G11, hq11, hs11⟩; have hT := hT.sq (pagesO _ _ _ _) hq11 hs11))
                  all_goals (refine s_nil ?_; refine s_then ?_; refine s_cf ?_; refine s_bne (by kernel_rfl) rfl rfl ?_; refine s_nil ?_; refine s_then ?_; refine s_cnil ?_; (repeat (first | refine s_then ?_ | refine s_blockN ?_)))
                  all_goals
                    first
                    | (refine s_cond_t rfl ?_ -- Law_PoolDoes c8
                       all_goals (refine s_seq ?_; refine s_ops ?_; refine s_mov (by (conv => lhs; whnf); first | done | fail) ?_; refine s_nil ?_; (repeat (first | refine s_then ?_ | refine s_blockN ?_)); refine s_ret ?_; (repeat (first | refine s_retT ?_ | refine s_retB ?_)); refine q_ret1 (by (conv => lhs; whnf); first | done | fail) ?_)
                       all_goals (first | (exact ⟨_, rfl, rfl, hf1⟩) | (exact ⟨_, rfl, rfl, hf5''⟩) | (exact ⟨_, rfl, rfl, hT.fr⟩)))
                    | (refine s_cond_f rfl ?_ -- Law_PoolDoes c8
                       all_goals (refine s_skip ?_; (repeat (first | refine s_then ?_ | refine s_blockN ?_)))))
               | (refine s_cond_f rfl ?_ -- Law_PoolDoes c7
                  all_goals (refine s_seq ?_; refine s_ops ?_)
                  all_goals (first | (refine s_eql_t rfl rfl (by omega) ?_) | (refine s_eql_f rfl rfl (by omega) ?_) | (refine s_eql_s rfl rfl (fun hc => ?_) (fun hc => ?_)))
                  all_goals (refine s_mov (by (conv => lhs; whnf); first | done | fail) ?_; refine s_nil ?_; (repeat (first | refine s_then ?_ | refine s_blockN ?_)))
                  all_goals
                    first
                    | (refine s_cond_t rfl ?_ -- Law_PoolDoes c9
                       all_goals (refine s_seq ?_; refine s_seq ?_)
                       all_goals (cases c)
                       all_goals (refine s_ops ?_; refine s_mov (by (conv => lhs; whnf); first | done | fail) ?_; (first | refine s_fld0 rfl ?_ | refine s_fld rfl ?_); refine s_loadb rfl (by assumption) (by rfl) ?_; (first | refine s_fld0 rfl ?_ | refine s_fld rfl ?_); refine s_loadb rfl (by assumption) (by rfl) ?_)
                       all_goals (first | (refine s_rets (by rfl) (store_no_c hT.p (by have := hc10.2; simp at this; omega)) ?_; rintro v10 w10 ⟨rfl, rfl⟩) | (obtain ⟨hk0, hk1⟩ := hc10.1 rfl; obtain ⟨kn, rfl⟩ : ∃ kn : Nat, k = kn := ⟨k.toNat, by omega⟩; refine s_rets (by rfl) (store_c hT.p (by omega)) ?_; rintro v10 w10 ⟨rfl, hp10, hf10⟩; have hx := hx.fr hf10 hnF; have hT := hT.sp (poolO _ _ _ _) hp10 (Step.same hf10)))
                       all_goals (refine s_mov (by (conv => lhs; whnf); first | done | fail) ?_; refine s_bne (by kernel_rfl) rfl rfl ?_; refine s_nil ?_; (repeat (first | refine s_then ?_ | refine s_blockN ?_)))
                       all_goals
                         first
                         | (refine s_cond_t rfl ?_ -- Law_PoolDoes c10
                            all_goals (refine s_seq ?_; refine s_ops ?_; refine s_mov (by (conv => lhs; whnf); first | done | fail) ?_; refine s_nil ?_; (repeat (first | refine s_then ?_ | refine s_blockN ?_)); refine s_ret ?_; (repeat (first | refine s_retT ?_ | refine s_retB ?_)); refine q_ret1 (by (conv => lhs; whnf); first | done | fail) ?_)
                            all_goals (first | (exact ⟨_, rfl, rfl, hf1⟩) | (exact ⟨_, rfl, rfl, hf5''⟩) | (exact ⟨_, rfl, rfl, hT.fr⟩)))
                         | (refine s_cond_f rfl ?_ -- Law_PoolDoes c10
                            all_goals (refine s_skip ?_; (repeat (first | refine s_then ?_ | refine s_blockN ?_))))
                       all_goals (refine s_seq ?_; refine s_ops ?_; refine s_mov (by (conv => lhs; whnf); first | done | fail) ?_; refine s_nil ?_; (repeat (first | refine s_then ?_ | refine s_blockN ?_)))
                       all_goals
                         first
                         | (refine s_cond_t rfl ?_ -- Law_PoolDoes c11
                            all_goals (refine s_draw [(0, none), (1, none), (2, none), (3, none), (4, none), (5, none), (6, none), (7, none), (8, none), (9, some none)] (by kernel_rfl) (by kernel_rfl) ?_)
                            all_goals (have hT := hT.fr0 (Fr.drew' (Fr.refl NF _)); have hx := hx.fr0 (Fr.drew' (Fr.refl NF _)); obtain ⟨bq', vw, vf, nx, fd, Fw, Ff, he, hqb, hqw, hqf, nw, nf, wf, hG', hfr, hnx, hok⟩ := hT.q; cases he; have hwl : (ws.map icell).length = m * 16 := (by rw [List.length_map]; exact hok.len); have hwl' := hok.len)
                            all_goals (refine s_mov (by (conv => lhs; whnf); first | done | fail) ?_; refine s_nilc rfl ?_; (first | refine s_fld0 rfl ?_ | refine s_fld rfl ?_); refine s_loadb rfl (by assumption) (by rfl) ?_; (first | refine s_fld0 rfl ?_ | refine s_fld rfl ?_); refine s_loadb rfl (by assumption) (by rfl) ?_; (first | refine s_fld0 rfl ?_ | refine s_fld rfl ?_); refine s_loadb rfl (by assumption) (by rfl) ?_; refine s_idxSn (by (conv => lhs; whnf); first | done | fail) rfl hqw (by omega) ?_; intro b12 o12 hel12; refine s_storeS rfl (by (conv => lhs; whnf); first | done | fail) hel12 (map_get icell ws 0 (by omega)) (by omega) rfl ?_; intro w12 hf12 hz12 hel13; have hw12 := hel13.sl; rw [show (icell (ws.getD kn 0)).set 0 (Value.int .i64 x) = icell x from rfl, map_set] at hw12; have hT := hT.sq (pagesO _ _ _ _) (show PagesH w12.heap _ G m (ws.set kn x) fr from ⟨bq, vw, vf, nx, fd, Fw, Ff, rfl, hqb.fr hf12 nw, hw12, hqf.fr hf12 (fun x hx h => wf x h hx), nw, nf, wf, hG', hfr, hnx, hok.store⟩) (Step.same (hf12.into fun x h => (hG' x).2 (.inr (.inl h)))))
                            all_goals (refine s_nil ?_; (repeat (first | refine s_then ?_ | refine s_blockN ?_))))
                         | (refine s_cond_f rfl ?_ -- Law_PoolDoes c11
                            all_goals (refine s_skip ?_; (repeat (first | refine s_then ?_ | refine s_blockN ?_)))))
                    | (refine s_cond_f rfl ?_ -- Law_PoolDoes c9
                       all_goals (refine s_seq ?_; refine s_ops ?_)
                       all_goals (first | (refine s_eql_t rfl rfl (by omega) ?_) | (refine s_eql_f rfl rfl (by omega) ?_) | (refine s_eql_s rfl rfl (fun hc => ?_) (fun hc => ?_)))
                       all_goals (refine s_mov (by (conv => lhs; whnf); first | done | fail) ?_; refine s_nil ?_; (repeat (first | refine s_then ?_ | refine s_blockN ?_)))
                       all_goals
                         first
                         | (refine s_cond_t rfl ?_ -- Law_PoolDoes c12
                            all_goals (refine s_seq ?_)
                            all_goals (cases c)
                            all_goals (refine s_ops ?_; refine s_mov (by (conv => lhs; whnf); first | done | fail) ?_; (first | refine s_fld0 rfl ?_ | refine s_fld rfl ?_); refine s_loadb rfl (by assumption) (by rfl) ?_)
                            all_goals (first | (refine s_rets (by rfl) (load_no_c hT.p (by have := hc10.2; simp at this; omega)) ?_; rintro v10 w10 ⟨rfl, rfl⟩) | (obtain ⟨hk0, hk1⟩ := hc10.1 rfl; obtain ⟨kn, rfl⟩ : ∃ kn : Nat, k = kn := ⟨k.toNat, by omega⟩; refine s_rets (by rfl) (load_c hT.p (by omega)) ?_; rintro v10 w10 ⟨rfl, rfl⟩))
                            all_goals (refine s_mov (by (conv => lhs; whnf); first | done | fail) ?_; refine s_ext rfl rfl ?_; refine s_ext rfl rfl ?_; refine s_mov (by (conv => lhs; whnf); first | done | fail) ?_; refine s_mov (by (conv => lhs; whnf); first | done | fail) ?_; refine s_nil ?_; (repeat (first | refine s_then ?_ | refine s_blockN ?_)); refine s_seq ?_; refine s_draw [(0, none), (1, none), (2, none), (3, none), (4, none), (5, none), (6, none), (7, none), (8, none), (9, none), (10, none), (11, none), (12, none), (13, none), (14, none), (15, none), (16, none), (17, none), (18, none), (19, none), (20, none), (21, none), (22, none), (23, none), (24, none), (25, some none)] (by kernel_rfl) (by kernel_rfl) ?_)
                            all_goals (have hT := hT.fr0 (Fr.drew' (Fr.refl NF _)); have hx := hx.fr0 (Fr.drew' (Fr.refl NF _)); obtain ⟨bq', vw, vf, nx, fd, Fw, Ff, he, hqb, hqw, hqf, nw, nf, wf, hG', hfr, hnx, hok⟩ := hT.q; cases he; have hwl : (ws.map icell).length = m * 16 := (by rw [List.length_map]; exact hok.len); have hwl' := hok.len)
                            all_goals (refine s_mov (by (conv => lhs; whnf); first | done | fail) ?_; refine s_mov (by (conv => lhs; whnf); first | done | fail) ?_; refine s_bne (by kernel_rfl) rfl rfl ?_; refine s_mov (by (conv => lhs; whnf); first | done | fail) ?_; (first | (refine s_gy rfl ?_; refine s_mov (by (conv => lhs; whnf); first | done | fail) ?_) | refine s_gn rfl rfl ?_); (first | (refine s_gy rfl ?_; refine s_mov (by (conv => lhs; whnf); first | done | fail) ?_) | refine s_gn rfl rfl ?_); (first | (refine s_gy rfl ?_; refine s_mov (by (conv => lhs; whnf); first | done | fail) ?_) | refine s_gn rfl rfl ?_); (first | (refine s_gy rfl ?_; refine s_mov (by (conv => lhs; whnf); first | done | fail) ?_) | refine s_gn rfl rfl ?_); (first | (refine s_gy rfl ?_; refine s_nilc rfl ?_) | refine s_gn rfl rfl ?_); (first | (refine s_gy rfl ?_; (first | refine s_fld0 rfl ?_ | refine s_fld rfl ?_)) | refine s_gn rfl rfl ?_); (first | (refine s_gy rfl ?_; refine s_loadb rfl (by assumption) (by rfl) ?_) | refine s_gn rfl rfl ?_); (first | (refine s_gy rfl ?_; (first | refine s_fld0 rfl ?_ | refine s_fld rfl ?_)) | refine s_gn rfl rfl ?_); (first | (refine s_gy rfl ?_; refine s_loadb rfl (by assumption) (by rfl) ?_) | refine s_gn rfl rfl ?_); (first | (refine s_gy rfl ?_; refine s_idxSn (by (conv => lhs; whnf); first | done | fail) rfl hqw (by omega) ?_; intro b12 o12 hel12) | (refine s_gn rfl rfl ?_)); (first | (refine s_gy rfl ?_; refine s_loadS rfl hel12 (map_get icell ws 0 (by omega)) rfl ?_) | (refine s_gn rfl rfl ?_)))
                            all_goals ((first | (refine s_gy rfl ?_; refine s_neq_f rfl rfl (by simp) ?_) | (refine s_gn rfl rfl ?_)); (first | (refine s_gy rfl ?_; (first | refine s_pick_t rfl (by (conv => lhs; whnf); first | done | fail) ?_ | refine s_pick_f rfl (by (conv => lhs; whnf); first | done | fail) ?_)) | refine s_gn rfl rfl ?_); (first | refine s_pick_t rfl (by (conv => lhs; whnf); first | done | fail) ?_ | refine s_pick_f rfl (by (conv => lhs; whnf); first | done | fail) ?_); refine s_mov (by (conv => lhs; whnf); first | done | fail) ?_; (first | (refine s_gy rfl ?_; refine s_mov (by (conv => lhs; whnf); first | done | fail) ?_) | refine s_gn rfl rfl ?_); (first | (refine s_gy rfl ?_; refine s_not rfl ?_) | refine s_gn rfl rfl ?_); (first | (refine s_gy rfl ?_; refine s_mov (by (conv => lhs; whnf); first | done | fail) ?_) | refine s_gn rfl rfl ?_); (first | (refine s_gy rfl ?_; refine s_mov (by (conv => lhs; whnf); first | done | fail) ?_) | refine s_gn rfl rfl ?_))
                            all_goals (first | (refine s_gy rfl ?_; (first | (refine s_neq_t rfl rfl (by omega) ?_) | (refine s_neq_f rfl rfl (by omega) ?_) | (refine s_neq_s rfl rfl (fun hc => ?_) (fun hc => ?_)))) | refine s_gn rfl rfl ?_)
                            all_goals ((first | (refine s_gy rfl ?_; (first | refine s_pick_t rfl (by (conv => lhs; whnf); first | done | fail) ?_ | refine s_pick_f rfl (by (conv => lhs; whnf); first | done | fail) ?_)) | refine s_gn rfl rfl ?_); (first | refine s_pick_t rfl (by (conv => lhs; whnf); first | done | fail) ?_ | refine s_pick_f rfl (by (conv => lhs; whnf); first | done | fail) ?_); refine s_nil ?_; (repeat (first | refine s_then ?_ | refine s_blockN ?_)))
                            all_goals
                              first
                              | (refine s_cond_t rfl ?_ -- Law_PoolDoes c13
                                 all_goals (refine s_seq ?_; refine s_ops ?_; refine s_mov (by (conv => lhs; whnf); first | done | fail) ?_; refine s_nil ?_; (repeat (first | refine s_then ?_ | refine s_blockN ?_)); refine s_ret ?_; (repeat (first | refine s_retT ?_ | refine s_retB ?_)); refine q_ret1 (by (conv => lhs; whnf); first | done | fail) ?_)
                                 all_goals (first | (exact ⟨_, rfl, rfl, hf1⟩) | (exact ⟨_, rfl, rfl, hf5''⟩) | (exact ⟨_, rfl, rfl, hT.fr⟩)))
                              | (refine s_cond_f rfl ?_ -- Law_PoolDoes c13
                                 all_goals (refine s_skip ?_; (repeat (first | refine s_then ?_ | refine s_blockN ?_)))))
                         | (refine s_cond_f rfl ?_ -- Law_PoolDoes c12
                            all_goals (refine s_seq ?_; refine s_ops ?_)
                            all_goals (first | (refine s_eql_t rfl rfl (by omega) ?_) | (refine s_eql_f rfl rfl (by omega) ?_) | (refine s_eql_s rfl rfl (fun hc => ?_) (fun hc => ?_)))
                            all_goals (refine s_mov (by (conv => lhs; whnf); first | done | fail) ?_; refine s_nil ?_; (repeat (first | refine s_then ?_ | refine s_blockN ?_)))
                            all_goals
                              first
                              | (refine s_cond_t rfl ?_ -- Law_PoolDoes c14
                                 all_goals (refine s_seq ?_; refine s_canon [(0, none), (2, none), (3, none), (4, none), (5, none), (1, some (some [5])), (6, some none), (7, some none)] (by kernel_rfl) ?_)
                                 all_goals (have hT := hT.fr0 (Fr.drew' (Fr.refl NF _)); have hx := hx.fr0 (Fr.drew' (Fr.refl NF _)); obtain ⟨bq', vw, vf, nx, fd, Fw, Ff, he, hqb, hqw, hqf, nw, nf, wf, hG', hfr, hnx, hok⟩ := hT.q; cases he; have hwl : (ws.map icell).length = m * 16 := (by rw [List.length_map]; exact hok.len); have hwl' := hok.len)
                                 all_goals (refine s_cq ?_; refine s_mov (by (conv => lhs; whnf); first | done | fail) ?_; refine s_nil ?_; refine s_then ?_; refine s_cq ?_; refine s_mov (by (conv => lhs; whnf); first | done | fail) ?_; refine s_nil ?_; refine s_then ?_; refine s_cq ?_; refine s_nilc rfl ?_; refine s_nil ?_; refine s_then ?_; refine s_cq ?_; (first | refine s_fld0 rfl ?_ | refine s_fld rfl ?_); refine s_nil ?_; refine s_then ?_; refine s_cq ?_; refine s_loadb rfl (by assumption) (by rfl) ?_; refine s_nil ?_; refine s_then ?_; refine s_cfl ?_; refine s_rets (by rfl) (words_c hT.p) ?_; rintro v10 w10 ⟨F10, hs10, hf10, hl10⟩; have hT := hT.fr0 hf10; have hqb := hqb.fr0 hf10; have hqw := hqw.fr0 hf10; refine s_nil ?_; refine s_then ?_; refine ⟨List.forall_mem_cons.2 ⟨(by first | (exact gq_load rfl (by assumption) rfl) | (exact gq_loadn rfl (by assumption) rfl rfl) | (exact gq_skip rfl rfl) | (exact gq_want rfl (gq_load rfl (by assumption) rfl))), fun _ h => (List.not_mem_nil h).elim⟩, ?_⟩; refine s_cf ?_; refine s_rets (by rfl) (sameL_c hs10.toR hqw.toR (by have := hok.le; omega)) ?_; rintro v11 w11 ⟨rfl, hf11⟩; have hT := hT.fr0 hf11; rw [decide_eq_true rfl]; refine s_nil ?_; refine s_then ?_; refine s_cf ?_; refine s_not rfl ?_; refine s_nil ?_; refine s_then ?_; refine s_cnil ?_; (repeat (first | refine s_then ?_ | refine s_blockN ?_)))
                                 all_goals
                                   first
                                   | (refine s_cond_t rfl ?_ -- Law_PoolDoes c15
                                      all_goals (refine s_seq ?_; refine s_ops ?_; refine s_mov (by (conv => lhs; whnf); first | done | fail) ?_; refine s_nil ?_; (repeat (first | refine s_then ?_ | refine s_blockN ?_)); refine s_ret ?_; (repeat (first | refine s_retT ?_ | refine s_retB ?_)); refine q_ret1 (by (conv => lhs; whnf); first | done | fail) ?_)
                                      all_goals (first | (exact ⟨_, rfl, rfl, hf1⟩) | (exact ⟨_, rfl, rfl, hf5''⟩) | (exact ⟨_, rfl, rfl, hT.fr⟩)))
                                   | (refine s_cond_f rfl ?_ -- Law_PoolDoes c15
                                      all_goals (refine s_skip ?_; (repeat (first | refine s_then ?_ | refine s_blockN ?_)))))
                              | (refine s_cond_f rfl ?_ -- Law_PoolDoes c14
                                 all_goals (refine s_skip ?_; (repeat (first | refine s_then ?_ | refine s_blockN ?_))))))))
        all_goals (exact ⟨_, _, _, _, ⟨rfl, rfl, rfl, rfl, trivial⟩, hT⟩)
      rintro ρ w12 ⟨F, G, ws, fr, hρ, hT⟩; obtain ⟨ρ, rfl⟩ := env_intro _ hρ
      all_goals (refine s_seq ?_; refine s_ops ?_; refine s_mov (by (conv => lhs; whnf); first | done | fail) ?_; refine s_rets (by rfl) (free_c hT.p) ?_; rintro v13 w13 ⟨rfl, rfl⟩; refine s_mov (by (conv => lhs; whnf); first | done | fail) ?_; refine s_rets (by rfl) (rfree_c hT.q) ?_; rintro v14 w14 ⟨rfl, hf14⟩; have hT := hT.fr0 hf14; refine s_neq_f rfl rfl (by simp) ?_; refine s_nil ?_; (repeat (first | refine s_then ?_ | refine s_blockN ?_)))
      all_goals
        first
        | (refine s_cond_t rfl ?_ -- Law_PoolDoes c16
           all_goals (refine s_seq ?_; refine s_ops ?_; refine s_mov (by (conv => lhs; whnf); first | done | fail) ?_; refine s_nil ?_; (repeat (first | refine s_then ?_ | refine s_blockN ?_)); refine s_ret ?_; (repeat (first | refine s_retT ?_ | refine s_retB ?_)); refine q_ret1 (by (conv => lhs; whnf); first | done | fail) ?_)
           all_goals (first | (exact ⟨_, rfl, rfl, hf1⟩) | (exact ⟨_, rfl, rfl, hf5''⟩) | (exact ⟨_, rfl, rfl, hT.fr⟩)))
        | (refine s_cond_f rfl ?_ -- Law_PoolDoes c16
           all_goals (refine s_skip ?_; (repeat (first | refine s_then ?_ | refine s_blockN ?_))))
      all_goals (refine s_ops ?_; refine s_mov (by (conv => lhs; whnf); first | done | fail) ?_; (first | (refine s_add rfl rfl (by omega) (by omega) ?_) | (refine s_addw rfl rfl ?_)); refine s_mov (by (conv => lhs; whnf); first | done | fail) ?_; refine s_nil ?_; (repeat (first | refine s_then ?_ | refine s_blockN ?_)); exact ⟨⟨i + 1, _, _, _, _, ⟨rfl, rfl, rfl, rfl, trivial⟩, by omega, hT⟩, meas_lt (by omega)⟩)
    · skip
      all_goals (refine s_exit ?_; (repeat (first | refine s_exitQ ?_ | refine s_exitT ?_ | refine s_exitB rfl ?_ | refine s_then ?_ | refine s_blockN ?_)); refine s_seq ?_; refine s_ops ?_; refine s_mov (by (conv => lhs; whnf); first | done | fail) ?_; refine s_nil ?_; (repeat (first | refine s_then ?_ | refine s_blockN ?_)); refine s_ret ?_; (repeat (first | refine s_retT ?_ | refine s_retB ?_)); refine q_ret1 (by (conv => lhs; whnf); first | done | fail) ?_; (first | (exact ⟨_, rfl, rfl, hf1⟩) | (exact ⟨_, rfl, rfl, hf5''⟩) | (exact ⟨_, rfl, rfl, hT.fr⟩)))

/-! ### What comes in -/
abbrev poolInt : Cod Try.prog 3 Int := Cod.int .i64 (by kernel_rfl) (by kernel_rfl)
abbrev poolLong : Cod Try.prog 2 Int := Cod.int .i64 (by kernel_rfl) (by kernel_rfl)
abbrev poolStepC : Cod Try.prog 54 (Int × Int × Int) := Cod.st3 (o0 := 0) (s0 := 1) (o1 := 1) (s1 := 1) (o2 := 2) (s2 := 1) poolInt poolInt poolLong (by kernel_rfl) (by kernel_rfl) (by kernel_rfl) 3 (by kernel_rfl)
abbrev poolC : Cod Try.prog 44 (List (Int × Int × Int)) := Cod.slice poolStepC (by kernel_rfl) (by kernel_rfl) (by decide)
theorem pool_rd {vL : Value} {x : List (Int × Int × Int)} {H : Heap} (h : poolC.rd H [vL] x) : ∃ css, SlR H 3 vL (fun _ => True) css ∧ ∀ m, m < css.length → ∃ (op k y : Int), css[m]? = some [.int .i64 op, .int .i64 k, .int .i64 y] := by
  obtain ⟨v', css, hv, hsl, hl, hm, hel⟩ := h
  simp only [List.cons.injEq, and_true] at hv
  subst hv
  refine ⟨css, hsl, fun m hm => ?_⟩
  have hx : x[m]? = some (x[m]'(by omega)) := List.getElem?_eq_getElem (by omega)
  generalize x[m]'(by omega) = y at hx
  obtain ⟨op, r, z⟩ := y
  obtain ⟨d, hd, hl3, ⟨h1, _⟩, ⟨h2, _⟩, ⟨h3, _⟩⟩ := hel m _ hx
  obtain ⟨a, b, c, rfl⟩ := len3 hl3
  simp only [List.drop_zero, List.take_succ_cons, List.take_zero, List.drop_succ_cons, List.cons.injEq, and_true] at h1 h2 h3
  subst h1 h2 h3
  exact ⟨op, r, z, hd⟩
theorem poolDoes_rd (n : Int) {vL : Value} {x : List (Int × Int × Int)} {w : World} (h : poolC.rd w.heap [vL] x) : Rets Try.prog Law_PoolDoes [.int .i64 n, vL] w fun v w' => v = .bool true ∧ Fr NF w w' := by
  obtain ⟨css, h1, h2⟩ := pool_rd h
  exact poolDoes_c n h1 h2
end Go.Proofs.Ytocllfbfogcbgaa
