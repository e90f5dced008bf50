/- HeldDoes: the walk of the law. -/
import Derived.Test.YtocllfbfogcbgaaHeld
namespace Go.Proofs.Ytocllfbfogcbgaa
open Go.Lir
attribute [local irreducible] LC.wp opsWp thenQ blockQ retQ resWp LO.wp callPost Calls

theorem begun_c (w : World) : Rets Try.prog Law_heldBegun [] w fun v w' => v = .bool true ∧ Fr NF w w' := by
  refine Law_heldBegun_in ?_
  unfold Law_heldBegun_lc
  all_goals (refine s_seq ?_; refine s_ops ?_; refine s_mov (by (conv => lhs; whnf); first | done | fail) ?_; refine s_nil ?_; (repeat (first | refine s_then ?_ | refine s_blockN ?_)); refine s_seq ?_; refine s_ops ?_; refine s_rets (by rfl) (new_c 2 _) ?_; rintro p w1 ⟨F, h1, hf1, hl1⟩; rw [show List.replicate (min (2 : Int) 16).toNat true = [true, true] from rfl] at h1; refine s_mov (by (conv => lhs; whnf); first | done | fail) ?_; refine s_nil ?_; (repeat (first | refine s_then ?_ | refine s_blockN ?_)); refine s_seq ?_; refine s_ops ?_; refine s_mov (by (conv => lhs; whnf); first | done | fail) ?_)
  all_goals (refine s_rets (by rfl) (open_c h1 (by decide)) ?_; rintro v2 w2 ⟨rfl, F2, h2, hs2⟩; have hf2 := fr_fresh hf1 hl1 hs2.fr; have hl2 : ∀ b, F2 b → w.heap.size ≤ b := (fun b hb => (hs2.sub b hb).elim (hl1 b) (fun h => Nat.le_trans hf1.size h)); rw [show [true, true] ++ [true] = [true, true, true] from rfl] at h2)
  all_goals (first | (refine s_eql_t rfl rfl (by decide) ?_) | (refine s_eql_t rfl rfl (by omega) ?_) | (refine s_eql_f rfl rfl (by omega) ?_) | (refine s_eql_s rfl rfl (fun hc => ?_) (fun hc => ?_)))
  all_goals (refine s_mov (by (conv => lhs; whnf); first | done | fail) ?_; (first | (refine s_gy rfl ?_; refine s_mov (by (conv => lhs; whnf); first | done | fail) ?_) | refine s_gn rfl rfl ?_); refine s_gy rfl ?_; refine s_rets (by rfl) (shut_c h2 rfl) ?_; rintro v3 w3 ⟨rfl, h3, hf3'⟩; have hf3 := fr_fresh hf2 hl2 hf3'; rw [show [true, true, true].set (1 : Int).toNat false = [true, false, true] from rfl] at h3; (first | refine s_pick_t rfl (by (conv => lhs; whnf); first | done | fail) ?_ | refine s_pick_f rfl (by (conv => lhs; whnf); first | done | fail) ?_); refine s_mov (by (conv => lhs; whnf); first | done | fail) ?_; (first | (refine s_gy rfl ?_; refine s_mov (by (conv => lhs; whnf); first | done | fail) ?_) | refine s_gn rfl rfl ?_); refine s_gy rfl ?_; refine s_rets (by rfl) (shut_no_c h3 rfl) ?_; rintro v4 w4 ⟨rfl, rfl⟩; (first | (refine s_gy rfl ?_; refine s_not rfl ?_) | refine s_gn rfl rfl ?_); (first | refine s_pick_t rfl (by (conv => lhs; whnf); first | done | fail) ?_ | refine s_pick_f rfl (by (conv => lhs; whnf); first | done | fail) ?_); refine s_mov (by (conv => lhs; whnf); first | done | fail) ?_; (first | (refine s_gy rfl ?_; refine s_mov (by (conv => lhs; whnf); first | done | fail) ?_) | refine s_gn rfl rfl ?_); (first | (refine s_gy rfl ?_; refine s_rets (by rfl) (list_c h3 (by decide)) ?_; rintro v5 w5 ⟨F5, hs5, hf5', hl5⟩; rw [show listB [true, false, true] = [0, 2] from rfl] at hs5; have hf5 := hf3.then0 hf5'; have h5 := h3.fr hf5' (fun _ _ h => h)) | refine s_gn rfl rfl ?_))
  all_goals (refine s_gy rfl ?_; refine s_buildS2 (cs := [_, _]) (by (conv => lhs; whnf); first | done | fail) (by (conv => lhs; whnf); first | done | fail) (by rfl) ?_; intro b6 w6 hb6 hf6' hz6 hk6; have hf6 := hf5.then0 hf6'; have h6 := h5.fr hf6' (fun _ _ h => h); have hs6 := hs5.fr0 hf6'; have hq6 := (Sl.fresh (es := 1) (css := [0, 2].map icell) hk6 rfl (by simp [icell]) rfl).toR; (first | (refine s_gy rfl ?_; refine s_rets (by rfl) (same_c hs6.toR hq6 (by decide)) ?_; rintro v7 w7 ⟨rfl, hf7'⟩; have hf7 := hf6.then0 hf7'; have h7 := h6.fr hf7' (fun _ _ h => h); rw [show decide (([0, 2] : List Int) = [0, 2]) = true from rfl]) | refine s_gn rfl rfl ?_); (first | refine s_pick_t rfl (by (conv => lhs; whnf); first | done | fail) ?_ | refine s_pick_f rfl (by (conv => lhs; whnf); first | done | fail) ?_); refine s_mov (by (conv => lhs; whnf); first | done | fail) ?_; (first | (refine s_gy rfl ?_; refine s_mov (by (conv => lhs; whnf); first | done | fail) ?_) | refine s_gn rfl rfl ?_); refine s_gy rfl ?_; refine s_buildS2 (cs := [_, _]) (by (conv => lhs; whnf); first | done | fail) (by (conv => lhs; whnf); first | done | fail) (by rfl) ?_; intro b8 w8 hb8 hf8' hz8 hk8; have hf8 := hf7.then0 hf8'; have h8 := h7.fr hf8' (fun _ _ h => h); have hq8 := (Sl.fresh (es := 1) (css := [2, 0].map icell) hk8 rfl (by simp [icell]) rfl).toR; refine s_gy rfl ?_; refine s_rets (by rfl) (pass_c h8 (by decide) hq8 (by decide)) ?_; rintro v9 w9 ⟨rfl, hf9'⟩; have hf9 := hf8.then0 hf9'; have h9 := h8.fr hf9' (fun _ _ h => h))
  all_goals (first | (refine s_gy rfl ?_; (first | (refine s_eql_t rfl rfl (by decide) ?_) | (refine s_eql_t rfl rfl (by omega) ?_) | (refine s_eql_f rfl rfl (by omega) ?_) | (refine s_eql_s rfl rfl (fun hc => ?_) (fun hc => ?_)))) | refine s_gn rfl rfl ?_)
  all_goals ((first | refine s_pick_t rfl (by (conv => lhs; whnf); first | done | fail) ?_ | refine s_pick_f rfl (by (conv => lhs; whnf); first | done | fail) ?_); refine s_mov (by (conv => lhs; whnf); first | done | fail) ?_; (first | (refine s_gy rfl ?_; refine s_mov (by (conv => lhs; whnf); first | done | fail) ?_) | refine s_gn rfl rfl ?_); refine s_gy rfl ?_; refine s_buildS1 (cs := [_]) (by (conv => lhs; whnf); first | done | fail) (by rfl) ?_; intro b10 w10 hb10 hf10' hz10 hk10; have hf10 := hf9.then0 hf10'; have h10 := h9.fr hf10' (fun _ _ h => h); have hq10 := (Sl.fresh (es := 1) (css := [0].map icell) hk10 rfl (by simp [icell]) rfl).toR; refine s_gy rfl ?_; refine s_rets (by rfl) (pass_c h10 (by decide) hq10 (by decide)) ?_; rintro v11 w11 ⟨rfl, hf11'⟩; have hf11 := hf10.then0 hf11')
  all_goals (first | (refine s_gy rfl ?_; (first | (refine s_eql_t rfl rfl (by decide) ?_) | (refine s_eql_t rfl rfl (by omega) ?_) | (refine s_eql_f rfl rfl (by omega) ?_) | (refine s_eql_s rfl rfl (fun hc => ?_) (fun hc => ?_)))) | refine s_gn rfl rfl ?_)
  all_goals ((first | refine s_pick_t rfl (by (conv => lhs; whnf); first | done | fail) ?_ | refine s_pick_f rfl (by (conv => lhs; whnf); first | done | fail) ?_); refine s_mov (by (conv => lhs; whnf); first | done | fail) ?_; refine s_nil ?_; (repeat (first | refine s_then ?_ | refine s_blockN ?_)); refine s_ret ?_; (repeat (first | refine s_retT ?_ | refine s_retB ?_)); refine q_ret1 (by (conv => lhs; whnf); first | done | fail) ?_; exact ⟨_, rfl, rfl, hf11⟩)

/-- The program's Held and the reference's Holds, side by side. -/
structure Both (w0 w : World) (p q : Value) (F G : Nat → Prop) (l m : List Bool) : Prop where
  hp : HeldR w.heap 132 p F l
  hq : HeldR w.heap 37 q G m
  hd : ∀ b, F b → ¬ G b
  hF : ∀ b, F b → w0.heap.size ≤ b
  hG : ∀ b, G b → w0.heap.size ≤ b
  hf : Fr NF w0 w
  hl : l.length ≤ 16
theorem Both.fr0 {w0 w w' : World} {p q : Value} {F G : Nat → Prop} {l m : List Bool} (h : Both w0 w p q F G l m) (hf : Fr NF w w') : Both w0 w' p q F G l m :=
  ⟨h.hp.fr hf (fun _ _ h => h), h.hq.fr hf (fun _ _ h => h), h.hd, h.hF, h.hG, h.hf.then0 hf, h.hl⟩
theorem Both.own {w0 w w' : World} {p q : Value} {F G : Nat → Prop} {l m : List Bool} {x : Nat} (h : Both w0 w p q F G l m) (hf : Fr (· = x) w w') (h0 : w0.heap.size ≤ x) (hF : ¬ F x) (hG : ¬ G x) : Both w0 w' p q F G l m :=
  ⟨h.hp.fr hf (fun b hb e => hF (e ▸ hb)), h.hq.fr hf (fun b hb e => hG (e ▸ hb)), h.hd, h.hF, h.hG, fr_fresh h.hf (fun b hb => by rw [hb]; exact h0) hf, h.hl⟩
theorem Both.p {w0 w w' : World} {p q : Value} {F F' G : Nat → Prop} {l l' m : List Bool} (h : Both w0 w p q F G l m) (hp : HeldR w'.heap 132 p F' l') (hs : Step F F' w w') (hl : l'.length ≤ 16) : Both w0 w' p q F' G l' m :=
  ⟨hp, h.hq.fr hs.fr (fun b hb hF => h.hd b hF hb), fun b hb hG => (hs.sub b hb).elim (fun hF => h.hd b hF hG) (fun hz => absurd (h.hq.lt b hG) (by omega)), fun b hb => (hs.sub b hb).elim (h.hF b) (fun hz => Nat.le_trans h.hf.size hz), h.hG, fr_fresh h.hf h.hF hs.fr, hl⟩
theorem Both.q {w0 w w' : World} {p q : Value} {F G G' : Nat → Prop} {l m m' : List Bool} (h : Both w0 w p q F G l m) (hq : HeldR w'.heap 37 q G' m') (hs : Step G G' w w') : Both w0 w' p q F G' l m' :=
  ⟨h.hp.fr hs.fr (fun b hb hG => h.hd b hb hG), hq, fun b hF hb => (hs.sub b hb).elim (fun hG => h.hd b hF hG) (fun hz => absurd (h.hp.lt b hF) (by omega)), h.hF, fun b hb => (hs.sub b hb).elim (h.hG b) (fun hz => Nat.le_trans h.hf.size hz), fr_fresh h.hf h.hG hs.fr, h.hl⟩
theorem Step.out {F F' : Nat → Prop} {w w' : World} {b : Nat} (h : Step F F' w w') (hb : b < w.heap.size) (hn : ¬ F b) : ¬ F' b := fun hF => (h.sub b hF).elim hn (fun hz => absurd hz (by omega))

theorem heldDoes_c (n : Int) {vL : Value} {Gx : Nat → Prop} {css : List (List Value)} {w : World} (hL : SlR w.heap 3 vL Gx css) (hLl : css.length ≤ 9223372036854775807)
    (hcss : ∀ m, m < css.length → ∃ (op r : Int) (v3 : Value) (xs : List Int), css[m]? = some [.int .i64 op, .int .i64 r, v3] ∧ SlR w.heap 1 v3 Gx (xs.map icell) ∧ xs.length ≤ 9223372036854775807) :
    Rets Try.prog Law_HeldDoes [.int .i64 n, vL] w fun v w' => v = .bool true ∧ Fr NF w w' := by
  refine Law_HeldDoes_in ?_
  unfold Law_HeldDoes_lc
  all_goals (refine s_seq ?_; refine s_ops ?_; refine s_mov (by (conv => lhs; whnf); first | done | fail) ?_; refine s_nil ?_; (repeat (first | refine s_then ?_ | refine s_blockN ?_)); refine s_seq ?_; refine s_seq ?_; refine s_ops ?_; refine s_rets (by rfl) (begun_c _) ?_; rintro v1 w1 ⟨rfl, hf1⟩; refine s_not rfl ?_; refine s_nil ?_; (repeat (first | refine s_then ?_ | refine s_blockN ?_)))
  all_goals
    first
    | (refine s_cond_t rfl ?_
       all_goals (refine s_seq ?_; refine s_ops ?_; refine s_mov (by (conv => lhs; whnf); first | done | fail) ?_; refine s_nil ?_; (repeat (first | refine s_then ?_ | refine s_blockN ?_)); refine s_ret ?_; (repeat (first | refine s_retT ?_ | refine s_retB ?_)); refine q_ret1 (by (conv => lhs; whnf); first | done | fail) ?_)
       all_goals (first | (exact ⟨_, rfl, rfl, hf1⟩) | (exact ⟨_, rfl, rfl, hB.hf⟩)))
    | (refine s_cond_f rfl ?_
       all_goals (refine s_skip ?_; (repeat (first | refine s_then ?_ | refine s_blockN ?_))))
  all_goals (refine s_seq ?_; refine s_seq ?_; refine s_ops ?_; refine s_mov (by (conv => lhs; whnf); first | done | fail) ?_; refine s_lenR (by (conv => lhs; whnf); first | done | fail) (hL.fr0 hf1) ?_)
  all_goals (first | (refine s_gtr_t rfl rfl (by omega) ?_) | (refine s_gtr_f rfl rfl (by omega) ?_) | (refine s_gtr_s rfl rfl (fun hc => ?_) (fun hc => ?_)))
  all_goals (refine s_nil ?_; (repeat (first | refine s_then ?_ | refine s_blockN ?_)))
  all_goals
    first
    | (refine s_cond_t rfl ?_
       all_goals (refine s_seq ?_; refine s_ops ?_; refine s_mov (by (conv => lhs; whnf); first | done | fail) ?_; refine s_nil ?_; (repeat (first | refine s_then ?_ | refine s_blockN ?_)); refine s_ret ?_; (repeat (first | refine s_retT ?_ | refine s_retB ?_)); refine q_ret1 (by (conv => lhs; whnf); first | done | fail) ?_)
       all_goals (first | (exact ⟨_, rfl, rfl, hf1⟩) | (exact ⟨_, rfl, rfl, hB.hf⟩)))
    | (refine s_cond_f rfl ?_
       all_goals (refine s_skip ?_; (repeat (first | refine s_then ?_ | refine s_blockN ?_))))
  all_goals (refine s_seq ?_; refine s_ops ?_; refine s_mov (by (conv => lhs; whnf); first | done | fail) ?_; refine s_rets (by rfl) (new_c n _) ?_; rintro p w2 ⟨F, hp2, hf2, hl2⟩; refine s_mov (by (conv => lhs; whnf); first | done | fail) ?_; refine s_rets (by rfl) (rnew_c n _) ?_; rintro q w3 ⟨G, hq3, hf3, hl3⟩; refine s_mov (by (conv => lhs; whnf); first | done | fail) ?_; refine s_mov (by (conv => lhs; whnf); first | done | fail) ?_; refine s_nil ?_; (repeat (first | refine s_then ?_ | refine s_blockN ?_)); refine s_seq ?_; refine s_seq ?_; refine s_ops ?_; refine s_mov (by (conv => lhs; whnf); first | done | fail) ?_; refine s_nil ?_; (repeat (first | refine s_then ?_ | refine s_blockN ?_)); refine s_block ?_; have hB : Both w w3 p q F G (List.replicate (min n 16).toNat true) (List.replicate (min n 16).toNat true) := ⟨hp2.fr hf3 (fun _ _ h => h), hq3, fun b hF hG => absurd (hp2.lt b hF) (by have := hl3 b hG; omega), fun b hb => Nat.le_trans hf1.size (hl2 b hb), fun b hb => Nat.le_trans (hf1.then0 hf2).size (hl3 b hb), (hf1.then0 hf2).then0 hf3, by rw [List.length_replicate]; omega⟩; obtain ⟨bq, _, _, rfl, _⟩ := hq3)
  refine s_loop (fun ρ' w' => ∃ (i : Nat) (F G : Nat → Prop) (l : List Bool), Has ρ' [(1, vL), (5, p), (6, .pointer (some ⟨bq, 0, none⟩)), (7, .int .i64 i)] ∧ i ≤ css.length ∧ Both w w' p (.pointer (some ⟨bq, 0, none⟩)) F G l l) (fun ρ' _ => (css.length - iv (ρ' 7)).toNat) ?_ ?_
  · exact ⟨0, F, G, _, ⟨rfl, rfl, rfl, rfl, trivial⟩, Nat.zero_le _, hB⟩
  clear hB hp2 hf1 hf2 hf3 hl2 hl3; rintro ρ w1 ⟨i, F, G, l, hρ, hi, hB⟩; obtain ⟨ρ, rfl⟩ := env_intro _ hρ; have hL1 := hL.fr0 hB.hf
  unfold Law_HeldDoes_b7
  all_goals (refine s_seq ?_; refine s_seq ?_; refine s_ops ?_; refine s_mov (by (conv => lhs; whnf); first | done | fail) ?_; refine s_mov (by (conv => lhs; whnf); first | done | fail) ?_; refine s_lenR (by (conv => lhs; whnf); first | done | fail) hL1 ?_; refine s_lss_d rfl rfl ?_; refine s_nil ?_; (repeat (first | refine s_then ?_ | refine s_blockN ?_)))
  refine s_cond_d rfl (fun hc => ?_) (fun hc => ?_)
  · skip
    all_goals (refine s_skip ?_; (repeat (first | refine s_then ?_ | refine s_blockN ?_)); refine s_seq ?_; refine s_block ?_; refine s_seq ?_; obtain ⟨op, r, v3, xs, hci, hxs, hxl⟩ := hcss i (by omega); refine s_ops ?_; refine s_mov (by (conv => lhs; whnf); first | done | fail) ?_; refine s_mov (by (conv => lhs; whnf); first | done | fail) ?_; refine s_idxRn (by (conv => lhs; whnf); first | done | fail) rfl hL1 hci ?_; intro b1 o1 hat hG1; (first | (refine s_loadnA rfl hat (by rfl) ?_) | (refine s_loadn rfl (by assumption) (by rfl) (by rfl) ?_)))
    all_goals (refine s_alloc ?_; (first | (intro bx w4 hbx hf4 hz4 hx4; have hnF : ¬ F bx := (fun h => absurd (hB.hp.lt _ h) (by omega)); have hnG : ¬ G bx := (fun h => absurd (hB.hq.lt _ h) (by omega)); have hbs := hB.hf.size; have hB := hB.fr0 hf4) | (intro b1 w1 hb1 hfr1 hsz1 hblk1)))
    all_goals (first | (refine s_storenV rfl rfl (by rfl) hx4 (by simp) (by intro v hv; simp at hv; rcases hv with rfl | rfl | rfl; rfl; rfl; exact hxs.oneC) (cs' := [_, _, _]) (by rfl) ?_; intro w5 hf5 hz5 hx; have hB := hB.own hf5 (by omega) hnF hnG; have hxs5 := hxs.fr0 hB.hf) | (refine s_storenV rfl rfl (by rfl) (by assumption) (by simp) (by simp [oneC]) (by rfl) ?_; intro w1 hfr1 hsz1 hblk1))
    all_goals (refine s_nil ?_; (repeat (first | refine s_then ?_ | refine s_blockN ?_)); refine s_seq ?_; refine s_seq ?_; refine s_ops ?_; (first | refine s_fld0 rfl ?_ | refine s_fld rfl ?_); refine s_loadb rfl (by assumption) (by rfl) ?_; refine s_lenR (by (conv => lhs; whnf); first | done | fail) hxs5 ?_)
    all_goals (first | (refine s_gtr_t rfl rfl (by omega) ?_) | (refine s_gtr_f rfl rfl (by omega) ?_) | (refine s_gtr_s rfl rfl (fun hc => ?_) (fun hc => ?_)))
    all_goals (refine s_nil ?_; (repeat (first | refine s_then ?_ | refine s_blockN ?_)))
    all_goals
      first
      | (refine s_cond_t rfl ?_
         all_goals (refine s_seq ?_; refine s_ops ?_; refine s_mov (by (conv => lhs; whnf); first | done | fail) ?_; refine s_nil ?_; (repeat (first | refine s_then ?_ | refine s_blockN ?_)); refine s_ret ?_; (repeat (first | refine s_retT ?_ | refine s_retB ?_)); refine q_ret1 (by (conv => lhs; whnf); first | done | fail) ?_)
         all_goals (first | (exact ⟨_, rfl, rfl, hf1⟩) | (exact ⟨_, rfl, rfl, hB.hf⟩)))
      | (refine s_cond_f rfl ?_
         all_goals (refine s_skip ?_; (repeat (first | refine s_then ?_ | refine s_blockN ?_))))
    refine s_mid (fun ρ' w' => ∃ (F G : Nat → Prop) (l : List Bool), Has ρ' [(1, vL), (5, p), (6, .pointer (some ⟨bq, 0, none⟩)), (7, .int .i64 i), (8, .pointer (some ⟨bx, 0, none⟩))] ∧ Both w w' p (.pointer (some ⟨bq, 0, none⟩)) F G l l ∧ Blk w'.heap bx 34 [.int .i64 op, .int .i64 r, v3]) ?_ ?_
    · skip
      all_goals (refine s_seq ?_; refine s_ops ?_; (first | refine s_fld0 rfl ?_ | refine s_fld rfl ?_); refine s_loadb rfl (by assumption) (by rfl) ?_; refine s_nil ?_; (repeat (first | refine s_then ?_ | refine s_blockN ?_)); refine s_block ?_; refine s_seq ?_; refine s_ops ?_)
      all_goals (first | (refine s_eql_t rfl rfl (by omega) ?_) | (refine s_eql_f rfl rfl (by omega) ?_) | (refine s_eql_s rfl rfl (fun hc => ?_) (fun hc => ?_)))
      all_goals (refine s_mov (by (conv => lhs; whnf); first | done | fail) ?_; refine s_nil ?_; (repeat (first | refine s_then ?_ | refine s_blockN ?_)))
      all_goals
        first
        | (refine s_cond_t rfl ?_
           all_goals (refine s_seq ?_; refine s_ops ?_; refine s_mov (by (conv => lhs; whnf); first | done | fail) ?_; refine s_nil ?_; (repeat (first | refine s_then ?_ | refine s_blockN ?_)); refine s_seq ?_; refine s_seq ?_)
           all_goals (obtain ⟨bq', vq, Fq, he, hqb, hqs, hqne, hqF⟩ := hB.hq; cases he; have hlq : (l.map bcell).length = l.length := List.length_map _)
           all_goals (refine s_ops ?_; refine s_mov (by (conv => lhs; whnf); first | done | fail) ?_; refine s_nilc rfl ?_; (first | refine s_fld0 rfl ?_ | refine s_fld rfl ?_); refine s_loadb rfl (by assumption) (by rfl) ?_; refine s_lenS (by (conv => lhs; whnf); first | done | fail) hqs ?_)
           all_goals (first | (refine s_lss_t rfl rfl (by omega) ?_) | (refine s_lss_f rfl rfl (by omega) ?_) | (refine s_lss_s rfl rfl (fun hc => ?_) (fun hc => ?_)))
           all_goals (refine s_nil ?_; (repeat (first | refine s_then ?_ | refine s_blockN ?_)))
           all_goals
             first
             | (refine s_cond_t rfl ?_
                all_goals (refine s_seq ?_; refine s_ops ?_; refine s_mov (by (conv => lhs; whnf); first | done | fail) ?_; refine s_nilc rfl ?_; (first | refine s_fld0 rfl ?_ | refine s_fld rfl ?_); refine s_loadb rfl (by assumption) (by rfl) ?_; refine s_lenS (by (conv => lhs; whnf); first | done | fail) hqs ?_; refine s_mov (by (conv => lhs; whnf); first | done | fail) ?_; refine s_nil ?_; (repeat (first | refine s_then ?_ | refine s_blockN ?_)); refine s_ops ?_; refine s_mov (by (conv => lhs; whnf); first | done | fail) ?_; refine s_mov (by (conv => lhs; whnf); first | done | fail) ?_; refine s_nilc rfl ?_; (first | refine s_fld0 rfl ?_ | refine s_fld rfl ?_); refine s_loadb rfl (by assumption) (by rfl) ?_; refine s_buildS1 (cs := [_]) (by (conv => lhs; whnf); first | done | fail) (by rfl) ?_; (first | (intro b2 w6 hb2 hf6 hz6 hk6; have hqb6 := hqb.fr0 hf6; have hqs6 := hqs.fr0 hf6) | (intro b1 w1 hb1 hfr1 hsz1 hblk1)); refine s_app el_bool (.inl u_bools) (by (conv => lhs; whnf); first | done | fail) (by (conv => lhs; whnf); first | done | fail) hqs6 (src_one hk6 rfl) (by simp; omega) ?_; intro v7 w7 ha; have ha' := ha; obtain ⟨Fq7, hqs7, hf7, hsub7⟩ := ha'; have hqb7 := hqb6.fr hf7 hqne; have ho7 := hqs7.oneC; refine s_nilc rfl ?_; (first | refine s_fld0 rfl ?_ | refine s_fld rfl ?_); refine s_storeV rfl (by (conv => lhs; whnf); first | done | fail) hqb7 (by simp) ho7 (by rfl) ?_; intro w8 hf8 hz8 hb8; obtain ⟨G', Gs', ho, hst⟩ := obj1_app hqb hqs hqne hqF hf6 ha hf8 hb8; have hB := hB.q (m' := l ++ [true]) ⟨_, _, _, by simpa [bcell] using ho⟩ hst; have hxl' := hx.lt; have hx := hx.fr hst.fr hnG; have hnG := hst.out hxl' hnG)
                all_goals (refine s_nil ?_; (repeat (first | refine s_then ?_ | refine s_blockN ?_))))
             | (refine s_cond_f rfl ?_
                all_goals (refine s_skip ?_; (repeat (first | refine s_then ?_ | refine s_blockN ?_))))
           all_goals (refine s_seq ?_; refine s_ops ?_; refine s_mov (by (conv => lhs; whnf); first | done | fail) ?_; (first | (refine s_rets (by rfl) (open_c hB.hp (by omega)) ?_; rintro v9 w9 ⟨rfl, F', hp9, hst9⟩; have hB := hB.p hp9 hst9 (by simp; omega); have hx := hx.fr hst9.fr hnF) | (refine s_rets (by rfl) (open_full_c hB.hp (by have := hB.hl; omega)) ?_; rintro v9 w9 ⟨rfl, rfl⟩)); refine s_mov (by (conv => lhs; whnf); first | done | fail) ?_)
           all_goals (first | (refine s_neq_t rfl rfl (by omega) ?_) | (refine s_neq_f rfl rfl (by omega) ?_) | (refine s_neq_s rfl rfl (fun hc => ?_) (fun hc => ?_)))
           all_goals (refine s_nil ?_; (repeat (first | refine s_then ?_ | refine s_blockN ?_)))
           all_goals
             first
             | (refine s_cond_t rfl ?_
                all_goals (refine s_seq ?_; refine s_ops ?_; refine s_mov (by (conv => lhs; whnf); first | done | fail) ?_; refine s_nil ?_; (repeat (first | refine s_then ?_ | refine s_blockN ?_)); refine s_ret ?_; (repeat (first | refine s_retT ?_ | refine s_retB ?_)); refine q_ret1 (by (conv => lhs; whnf); first | done | fail) ?_)
                all_goals (first | (exact ⟨_, rfl, rfl, hf1⟩) | (exact ⟨_, rfl, rfl, hB.hf⟩)))
             | (refine s_cond_f rfl ?_
                all_goals (refine s_skip ?_; (repeat (first | refine s_then ?_ | refine s_blockN ?_)))))
        | (refine s_cond_f rfl ?_
           all_goals (refine s_seq ?_; refine s_ops ?_)
           all_goals (first | (refine s_eql_t rfl rfl (by omega) ?_) | (refine s_eql_f rfl rfl (by omega) ?_) | (refine s_eql_s rfl rfl (fun hc => ?_) (fun hc => ?_)))
           all_goals (refine s_mov (by (conv => lhs; whnf); first | done | fail) ?_; refine s_nil ?_; (repeat (first | refine s_then ?_ | refine s_blockN ?_)))
           all_goals
             first
             | (refine s_cond_f rfl ?_
                all_goals (refine s_seq ?_; refine s_ops ?_)
                all_goals (first | (refine s_eql_t rfl rfl (by omega) ?_) | (refine s_eql_f rfl rfl (by omega) ?_) | (refine s_eql_s rfl rfl (fun hc => ?_) (fun hc => ?_)))
                all_goals (refine s_mov (by (conv => lhs; whnf); first | done | fail) ?_; refine s_nil ?_; (repeat (first | refine s_then ?_ | refine s_blockN ?_)))
                all_goals
                  first
                  | (refine s_cond_t rfl ?_
                     all_goals (refine s_seq ?_; refine s_canon [(0, none), (1, none), (2, none), (4, none), (5, none), (6, none), (3, some (some [6])), (7, some none), (8, some none)] (by kernel_rfl) ?_; have hB := hB.fr0 (Fr.drew' (Fr.refl NF _)); have hx := hx.fr0 (Fr.drew' (Fr.refl NF _)); refine s_cq ?_; refine s_mov (by (conv => lhs; whnf); first | done | fail) ?_; refine s_nil ?_; refine s_then ?_; refine s_cq ?_; (first | refine s_fld0 rfl ?_ | refine s_fld rfl ?_); refine s_nil ?_; refine s_then ?_; refine s_cq ?_; refine s_loadb rfl (by assumption) (by rfl) ?_; refine s_nil ?_; refine s_then ?_; refine s_cq ?_; refine s_mov (by (conv => lhs; whnf); first | done | fail) ?_; refine s_nil ?_; refine s_then ?_; refine s_cq ?_; (first | refine s_fld0 rfl ?_ | refine s_fld rfl ?_); refine s_nil ?_; refine s_then ?_; refine s_cq ?_; refine s_loadb rfl (by assumption) (by rfl) ?_; refine s_nil ?_; refine s_then ?_; refine s_cfl ?_; refine s_rets (by rfl) (pass_c hB.hp hB.hl (hxs.fr0 hB.hf) hxl) ?_; rintro v6 w6 ⟨rfl, hf6⟩; have hB := hB.fr0 hf6; have hx := hx.fr0 hf6; refine s_nil ?_; refine s_then ?_; refine ⟨List.forall_mem_cons.2 ⟨(by first | (exact gq_load rfl (by assumption) rfl) | (exact gq_loadn rfl (by assumption) rfl rfl) | (exact gq_skip rfl rfl) | (exact gq_want rfl (gq_load rfl (by assumption) rfl))), fun _ h => (List.not_mem_nil h).elim⟩, ?_⟩; refine s_cf ?_; refine s_rets (by rfl) (rpass_c hB.hq hB.hl (hxs.fr0 hB.hf) hxl) ?_; rintro v7 w7 ⟨rfl, hf7⟩; have hB := hB.fr0 hf7; have hx := hx.fr0 hf7; rw [pass_same])
                     all_goals (refine s_nil ?_; refine s_then ?_; refine s_cf ?_; refine s_neq_f rfl rfl (by simp) ?_; refine s_nil ?_; refine s_then ?_; refine s_cnil ?_; (repeat (first | refine s_then ?_ | refine s_blockN ?_)))
                     all_goals
                       first
                       | (refine s_cond_t rfl ?_
                          all_goals (refine s_seq ?_; refine s_ops ?_; refine s_mov (by (conv => lhs; whnf); first | done | fail) ?_; refine s_nil ?_; (repeat (first | refine s_then ?_ | refine s_blockN ?_)); refine s_ret ?_; (repeat (first | refine s_retT ?_ | refine s_retB ?_)); refine q_ret1 (by (conv => lhs; whnf); first | done | fail) ?_)
                          all_goals (first | (exact ⟨_, rfl, rfl, hf1⟩) | (exact ⟨_, rfl, rfl, hB.hf⟩)))
                       | (refine s_cond_f rfl ?_
                          all_goals (refine s_skip ?_; (repeat (first | refine s_then ?_ | refine s_blockN ?_)))))
                  | (refine s_cond_f rfl ?_
                     all_goals (refine s_skip ?_; (repeat (first | refine s_then ?_ | refine s_blockN ?_)))))
             | (refine s_cond_t rfl ?_
                all_goals (refine s_seq ?_; refine s_ops ?_; refine s_mov (by (conv => lhs; whnf); first | done | fail) ?_; (first | refine s_fld0 rfl ?_ | refine s_fld rfl ?_); refine s_loadb rfl (by assumption) (by rfl) ?_)
                all_goals (refine s_rets (by rfl) (rhas_c _ hB.hq) ?_; rintro v6 w6 ⟨rfl, rfl⟩; cases hh : hasB l r)
                all_goals (refine s_mov (by (conv => lhs; whnf); first | done | fail) ?_; refine s_nil ?_; (repeat (first | refine s_then ?_ | refine s_blockN ?_)); refine s_seq ?_; refine s_seq ?_; refine s_ops ?_; refine s_mov (by (conv => lhs; whnf); first | done | fail) ?_; refine s_nil ?_; (repeat (first | refine s_then ?_ | refine s_blockN ?_)))
                all_goals
                  first
                  | (refine s_cond_f rfl ?_
                     all_goals (refine s_skip ?_; (repeat (first | refine s_then ?_ | refine s_blockN ?_))))
                  | (refine s_cond_t rfl ?_
                     all_goals (refine s_draw [(0, none), (1, none), (2, none), (3, none), (4, none), (5, none), (6, none), (7, some none)] (by kernel_rfl) (by kernel_rfl) ?_)
                     all_goals (have hB := hB.fr0 (Fr.drew' (Fr.refl NF _)); have hx := hx.fr0 (Fr.drew' (Fr.refl NF _)); obtain ⟨bq', vq, Fq, he, hqb, hqs, hqne, hqF⟩ := hB.hq; cases he; have hlq : (l.map bcell).length = l.length := List.length_map _; have hrr := hasB_iff hh)
                     all_goals (refine s_mov (by (conv => lhs; whnf); first | done | fail) ?_; refine s_nilc rfl ?_; (first | refine s_fld0 rfl ?_ | refine s_fld rfl ?_); refine s_loadb rfl (by assumption) (by rfl) ?_; (first | refine s_fld0 rfl ?_ | refine s_fld rfl ?_); refine s_loadb rfl (by assumption) (by rfl) ?_; refine s_idxS (by (conv => lhs; whnf); first | done | fail) rfl hqs (by omega) (by omega) ?_; intro b6 o6 hel6)
                     all_goals (refine s_storeS rfl (by (conv => lhs; whnf); first | done | fail) hel6 (map_get bcell l false (by omega)) (by omega) rfl ?_; intro w7 hf7 hz7 hel7; have hx := hx.fr hf7 (fun h => hnG ((hqF _).2 (.inr h))); have hB := hB.q (m' := l.set r.toNat false) ⟨_, _, _, rfl, hqb.fr hf7 hqne, by have := hel7.sl; rw [show (bcell (l.getD r.toNat false)).set 0 (Value.bool false) = bcell false from rfl, map_set] at this; exact this, hqne, hqF⟩ ⟨hf7.mono fun x _ hx => (hqF x).2 (.inr hx), fun b h => .inl h⟩)
                     all_goals (refine s_nil ?_; (repeat (first | refine s_then ?_ | refine s_blockN ?_))))
                all_goals (refine s_seq ?_; refine s_ops ?_; refine s_mov (by (conv => lhs; whnf); first | done | fail) ?_; (first | refine s_fld0 rfl ?_ | refine s_fld rfl ?_); refine s_loadb rfl (by assumption) (by rfl) ?_; (first | (refine s_rets (by rfl) (shut_c hB.hp hh) ?_; rintro v9 w9 ⟨rfl, hp9, hf9⟩; have hB := hB.p hp9 ⟨hf9, fun b h => .inl h⟩ (by rw [List.length_set]; exact hB.hl); have hx := hx.fr hf9 hnF) | (refine s_rets (by rfl) (shut_no_c hB.hp hh) ?_; rintro v9 w9 ⟨rfl, rfl⟩)); refine s_mov (by (conv => lhs; whnf); first | done | fail) ?_; refine s_bne (by kernel_rfl) rfl rfl ?_; refine s_nil ?_; (repeat (first | refine s_then ?_ | refine s_blockN ?_)))
                all_goals
                  first
                  | (refine s_cond_t rfl ?_
                     all_goals (refine s_seq ?_; refine s_ops ?_; refine s_mov (by (conv => lhs; whnf); first | done | fail) ?_; refine s_nil ?_; (repeat (first | refine s_then ?_ | refine s_blockN ?_)); refine s_ret ?_; (repeat (first | refine s_retT ?_ | refine s_retB ?_)); refine q_ret1 (by (conv => lhs; whnf); first | done | fail) ?_)
                     all_goals (first | (exact ⟨_, rfl, rfl, hf1⟩) | (exact ⟨_, rfl, rfl, hB.hf⟩)))
                  | (refine s_cond_f rfl ?_
                     all_goals (refine s_skip ?_; (repeat (first | refine s_then ?_ | refine s_blockN ?_))))))
      all_goals (exact ⟨_, _, _, ⟨rfl, rfl, rfl, rfl, rfl, trivial⟩, hB, hx⟩)
    rintro ρ w5 ⟨F, G, l, hρ, hB, hx⟩; obtain ⟨ρ, rfl⟩ := env_intro _ hρ
    all_goals (refine s_seq ?_; refine s_canon [(0, none), (1, none), (2, none), (4, none), (5, none), (6, none), (3, some (some [6])), (7, some none), (8, none), (9, none), (10, none), (12, none), (13, none), (14, none), (15, none), (16, none), (11, some (some [15])), (17, none), (18, none), (19, none), (20, none), (22, none), (21, some (some [])), (23, some none), (24, some none), (25, none), (26, some none)] (by kernel_rfl) ?_)
    all_goals (have hB := hB.fr0 (Fr.drew' (Fr.refl NF _)); have hx := hx.fr0 (Fr.drew' (Fr.refl NF _)); obtain ⟨bq', vq, Fq, he, hqb, hqs, hqne, hqF⟩ := hB.hq; cases he)
    all_goals (refine s_cq ?_; refine s_mov (by (conv => lhs; whnf); first | done | fail) ?_; refine s_nil ?_; refine s_then ?_; refine s_cq ?_; (first | refine s_fld0 rfl ?_ | refine s_fld rfl ?_); refine s_nil ?_; refine s_then ?_; refine s_cq ?_; refine s_loadb rfl (by assumption) (by rfl) ?_; refine s_nil ?_; refine s_then ?_; refine s_cq ?_; refine s_mov (by (conv => lhs; whnf); first | done | fail) ?_; refine s_nil ?_; refine s_then ?_; refine s_cq ?_; (first | refine s_fld0 rfl ?_ | refine s_fld rfl ?_); refine s_nil ?_; refine s_then ?_; refine s_cq ?_; refine s_loadb rfl (by assumption) (by rfl) ?_; refine s_nil ?_; refine s_then ?_; refine s_cfl ?_; refine s_rets (by rfl) (has_c _ hB.hp) ?_; rintro v10 w10 ⟨rfl, rfl⟩; refine s_nil ?_; refine s_then ?_; refine ⟨List.forall_mem_cons.2 ⟨(by first | (exact gq_load rfl (by assumption) rfl) | (exact gq_loadn rfl (by assumption) rfl rfl) | (exact gq_skip rfl rfl) | (exact gq_want rfl (gq_load rfl (by assumption) rfl))), fun _ h => (List.not_mem_nil h).elim⟩, ?_⟩; refine s_cf ?_; refine s_rets (by rfl) (rhas_c _ hB.hq) ?_; rintro v11 w11 ⟨rfl, rfl⟩; refine s_nil ?_; refine s_then ?_; refine s_cq ?_; refine s_bne (by kernel_rfl) rfl rfl ?_; rw [bne_self_eq_false (hasB _ r)]; refine s_nil ?_; refine s_then ?_; refine s_cq ?_; refine s_mov (by (conv => lhs; whnf); first | done | fail) ?_; refine s_nil ?_; refine s_then ?_; refine s_cq ?_; (first | (refine s_gy rfl ?_; refine s_mov (by (conv => lhs; whnf); first | done | fail) ?_) | refine s_gn rfl rfl ?_))
    all_goals (refine s_nil ?_; refine s_then ?_; refine s_cq ?_; (first | (refine s_gy rfl ?_; refine s_mov (by (conv => lhs; whnf); first | done | fail) ?_) | refine s_gn rfl rfl ?_); refine s_nil ?_; refine s_then ?_; refine s_cq ?_; (first | (refine s_gy rfl ?_; refine s_nilc rfl ?_) | refine s_gn rfl rfl ?_); refine s_nil ?_; refine s_then ?_; refine s_cq ?_; (first | (refine s_gy rfl ?_; (first | refine s_fld0 rfl ?_ | refine s_fld rfl ?_)) | refine s_gn rfl rfl ?_); refine s_nil ?_; refine s_then ?_; refine s_cq ?_; (first | (refine s_gy rfl ?_; refine s_loadb rfl (by assumption) (by rfl) ?_) | refine s_gn rfl rfl ?_); refine s_nil ?_; refine s_then ?_; refine s_cq ?_; refine s_gy rfl ?_; refine s_lenS (by (conv => lhs; whnf); first | done | fail) hqs ?_; refine s_nil ?_; refine s_then ?_; refine s_cfl ?_; refine s_gy rfl ?_; refine s_rets (by rfl) (len_c hB.hp) ?_; rintro v12 w12 ⟨rfl, rfl⟩; refine s_nil ?_; refine s_then ?_; refine ⟨List.forall_mem_cons.2 ⟨(by first | (exact gq_load rfl (by assumption) rfl) | (exact gq_loadn rfl (by assumption) rfl rfl) | (exact gq_skip rfl rfl) | (exact gq_want rfl (gq_load rfl (by assumption) rfl))), fun _ h => (List.not_mem_nil h).elim⟩, ?_⟩; refine s_cq ?_; refine s_gy rfl ?_; refine s_neq_f rfl rfl (by simp) ?_; refine s_nil ?_; refine s_then ?_; refine s_cq ?_; (first | refine s_pick_t rfl (by (conv => lhs; whnf); first | done | fail) ?_ | refine s_pick_f rfl (by (conv => lhs; whnf); first | done | fail) ?_); refine s_nil ?_; refine s_then ?_; refine s_cq ?_; refine s_mov (by (conv => lhs; whnf); first | done | fail) ?_)
    all_goals (refine s_nil ?_; refine s_then ?_; refine s_cq ?_; (first | (refine s_gy rfl ?_; refine s_mov (by (conv => lhs; whnf); first | done | fail) ?_) | refine s_gn rfl rfl ?_); refine s_nil ?_; refine s_then ?_; refine s_cq ?_; (first | (refine s_gy rfl ?_; refine s_mov (by (conv => lhs; whnf); first | done | fail) ?_) | refine s_gn rfl rfl ?_); refine s_nil ?_; refine s_then ?_; refine s_cfl ?_; refine s_gy rfl ?_; refine s_rets (by rfl) (list_c hB.hp hB.hl) ?_; rintro v13 w13 ⟨F13, hs13, hf13, hl13⟩; have hB := hB.fr0 hf13; have hx := hx.fr0 hf13; refine s_nil ?_; refine s_then ?_; refine ⟨fun _ h => (List.not_mem_nil h).elim, ?_⟩; refine s_cf ?_; refine s_gy rfl ?_; refine s_rets (by rfl) (rlist_c hB.hq hB.hl) ?_; rintro v14 w14 ⟨F14, hs14, hf14, hl14⟩; have hB := hB.fr0 hf14; have hs13 := hs13.fr0 hf14; refine s_nil ?_; refine s_then ?_; refine s_cf ?_; refine s_gy rfl ?_; refine s_rets (by rfl) (same_c hs13.toR hs14.toR (by have := hB.hl; have := listTo_len l l.length; unfold listB; omega)) ?_; rintro v15 w15 ⟨rfl, hf15⟩; have hB := hB.fr0 hf15; rw [decide_eq_true rfl]; refine s_nil ?_; refine s_then ?_; refine s_cq ?_; (first | (refine s_gy rfl ?_; refine s_not rfl ?_) | refine s_gn rfl rfl ?_); refine s_nil ?_; refine s_then ?_; refine s_cf ?_; (first | refine s_pick_t rfl (by (conv => lhs; whnf); first | done | fail) ?_ | refine s_pick_f rfl (by (conv => lhs; whnf); first | done | fail) ?_); refine s_nil ?_; refine s_then ?_; refine s_cnil ?_; (repeat (first | refine s_then ?_ | refine s_blockN ?_)))
    all_goals
      first
      | (refine s_cond_t rfl ?_
         all_goals (refine s_seq ?_; refine s_ops ?_; refine s_mov (by (conv => lhs; whnf); first | done | fail) ?_; refine s_nil ?_; (repeat (first | refine s_then ?_ | refine s_blockN ?_)); refine s_ret ?_; (repeat (first | refine s_retT ?_ | refine s_retB ?_)); refine q_ret1 (by (conv => lhs; whnf); first | done | fail) ?_)
         all_goals (first | (exact ⟨_, rfl, rfl, hf1⟩) | (exact ⟨_, rfl, rfl, hB.hf⟩)))
      | (refine s_cond_f rfl ?_
         all_goals (refine s_skip ?_; (repeat (first | refine s_then ?_ | refine s_blockN ?_))))
    all_goals (refine s_ops ?_; refine s_mov (by (conv => lhs; whnf); first | done | fail) ?_; (first | (refine s_add rfl rfl (by omega) (by omega) ?_) | (refine s_addw rfl rfl ?_)); refine s_mov (by (conv => lhs; whnf); first | done | fail) ?_; refine s_nil ?_; (repeat (first | refine s_then ?_ | refine s_blockN ?_)); exact ⟨⟨i + 1, _, _, _, ⟨rfl, rfl, rfl, rfl, trivial⟩, by omega, hB⟩, meas_lt (by omega)⟩)
  · skip
    all_goals (refine s_exit ?_; (repeat (first | refine s_exitQ ?_ | refine s_exitT ?_ | refine s_exitB rfl ?_ | refine s_then ?_ | refine s_blockN ?_)); refine s_seq ?_; refine s_ops ?_; refine s_mov (by (conv => lhs; whnf); first | done | fail) ?_; refine s_mov (by (conv => lhs; whnf); first | done | fail) ?_; refine s_rets (by rfl) (list_c hB.hp hB.hl) ?_; rintro v20 w20 ⟨F20, hs20, hf20, hl20⟩; have hB := hB.fr0 hf20; refine s_rets (by rfl) (pass_c hB.hp hB.hl hs20.toR (by have := hB.hl; have := listTo_len l l.length; unfold listB; omega)) ?_; rintro v21 w21 ⟨rfl, hf21⟩; have hB := hB.fr0 hf21; rw [pass_list])
    all_goals (first | (refine s_eql_t rfl rfl (by omega) ?_) | (refine s_eql_f rfl rfl (by omega) ?_) | (refine s_eql_s rfl rfl (fun hc => ?_) (fun hc => ?_)))
    all_goals (refine s_mov (by (conv => lhs; whnf); first | done | fail) ?_; (first | (refine s_gy rfl ?_; refine s_mov (by (conv => lhs; whnf); first | done | fail) ?_) | refine s_gn rfl rfl ?_); refine s_gy rfl ?_; refine s_rets (by rfl) (list_c hB.hp hB.hl) ?_; rintro v22 w22 ⟨F22, hs22, hf22, hl22⟩; have hB := hB.fr0 hf22; refine s_gy rfl ?_; refine s_lenS (by (conv => lhs; whnf); first | done | fail) hs22 ?_; (first | (refine s_gy rfl ?_; refine s_mov (by (conv => lhs; whnf); first | done | fail) ?_) | refine s_gn rfl rfl ?_); refine s_gy rfl ?_; refine s_rets (by rfl) (len_c hB.hp) ?_; rintro v23 w23 ⟨rfl, rfl⟩; refine s_gy rfl ?_; refine s_leq_t rfl rfl (by rw [List.length_map]; have := listTo_len l l.length; unfold listB; omega) ?_; (first | refine s_pick_t rfl (by (conv => lhs; whnf); first | done | fail) ?_ | refine s_pick_f rfl (by (conv => lhs; whnf); first | done | fail) ?_); refine s_mov (by (conv => lhs; whnf); first | done | fail) ?_; refine s_nil ?_; (repeat (first | refine s_then ?_ | refine s_blockN ?_)); refine s_ret ?_; (repeat (first | refine s_retT ?_ | refine s_retB ?_)); refine q_ret1 (by (conv => lhs; whnf); first | done | fail) ?_; (first | (exact ⟨_, rfl, rfl, hf1⟩) | (exact ⟨_, rfl, rfl, hB.hf⟩)))

/-! ### What comes in -/
abbrev heldInt : Cod Try.prog 3 Int := Cod.int .i64 (by kernel_rfl) (by kernel_rfl)
abbrev heldInts : Cod Try.prog 32 (List Int) := Cod.slice heldInt (by kernel_rfl) (by kernel_rfl) (by decide)
abbrev heldStepC : Cod Try.prog 34 (Int × Int × List Int) := Cod.st3 (o0 := 0) (s0 := 1) (o1 := 1) (s1 := 1) (o2 := 2) (s2 := 1) heldInt heldInt heldInts (by kernel_rfl) (by kernel_rfl) (by kernel_rfl) 3 (by kernel_rfl)
abbrev heldC : Cod Try.prog 27 (List (Int × Int × List Int)) := Cod.slice heldStepC (by kernel_rfl) (by kernel_rfl) (by decide)
theorem heldInts_rd {H : Heap} {v : Value} {ys : List Int} (h : heldInts.rd H [v] ys) : SlR H 1 v (fun _ => True) (ys.map icell) ∧ ys.length ≤ 9223372036854775807 ∧ ∀ (m : Nat) (y : Int), ys[m]? = some y → (Lit.int .i64 y).wf = true :=
  ints_rd h

theorem heldDoes_rd (n : Int) {vL : Value} {x : List (Int × Int × List Int)} {w : World} (h : heldC.rd w.heap [vL] x) : Rets Try.prog Law_HeldDoes [.int .i64 n, vL] w fun v w' => v = .bool true ∧ Fr NF w w' := by
  obtain ⟨v', css, hv, hsl, hl, hm, hel⟩ := h
  simp only [List.cons.injEq, and_true] at hv
  subst hv
  refine heldDoes_c n hsl (by unfold maxLen at hm; omega) fun m hm => ?_
  have hx : x[m]? = some (x[m]'(by omega)) := List.getElem?_eq_getElem (by omega)
  generalize x[m]'(by omega) = y at hx
  obtain ⟨op, r, ys⟩ := y
  obtain ⟨d, hd, hl3, ⟨h1, _⟩, ⟨h2, _⟩, h3⟩ := hel m _ hx
  obtain ⟨a, b, c, rfl⟩ := len3 hl3
  simp only [List.drop_zero, List.take_succ_cons, List.take_zero, List.drop_succ_cons, List.cons.injEq, and_true] at h1 h2 h3
  subst h1 h2
  obtain ⟨g1, g2, _⟩ := heldInts_rd h3
  exact ⟨op, r, c, ys, hd, g1, g2⟩
end Go.Proofs.Ytocllfbfogcbgaa
