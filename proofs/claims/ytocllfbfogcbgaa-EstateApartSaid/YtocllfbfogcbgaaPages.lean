/- The reference's pages. -/
import Derived.Test.YtocllfbfogcbgaaPool
import Derived.Test.YtocllfbfogcbgaaIn
namespace Go.Proofs.Ytocllfbfogcbgaa
open Go.Lir
attribute [local irreducible] LC.wp opsWp thenQ blockQ retQ resWp LO.wp callPost Calls
set_option linter.unusedSimpArgs false
set_option linter.unusedVariables false

structure PagesR (H : Heap) (q : Value) (G : Nat → Prop) (n : Nat) (ws fr : List Int) (b : Nat) (vw vf : Value) (nx : Nat) (fd : List Int) (Fw Ff : Nat → Prop) : Prop where
  hq : q = .pointer (some ⟨b, 0, none⟩)
  blk : Blk H b 57 [vw, vf, .int .i64 nx, .int .i64 n]
  sw : Sl H 2 1 vw Fw (ws.map icell)
  sf : Sl H 3 1 vf Ff (fd.map icell)
  nw : ¬ Fw b
  nf : ¬ Ff b
  wf : ∀ x, Fw x → ¬ Ff x
  hG : ∀ x, G x ↔ x = b ∨ Fw x ∨ Ff x
  hfr : fr = freeTo n (n - nx) ++ fd
  hnx : nx ≤ n
  ok : PoolOk n ws fr
def PagesH (H : Heap) (q : Value) (G : Nat → Prop) (n : Nat) (ws fr : List Int) : Prop := ∃ b vw vf nx fd Fw Ff, PagesR H q G n ws fr b vw vf nx fd Fw Ff
theorem PagesH.fr {q : Value} {F G : Nat → Prop} {n : Nat} {ws fr : List Int} {w w' : World} (h : PagesH w.heap q F n ws fr) (hf : Fr G w w') (hn : ∀ b, F b → ¬ G b) : PagesH w'.heap q F n ws fr := by
  obtain ⟨b, vw, vf, nx, fd, Fw, Ff, h⟩ := h
  exact ⟨b, vw, vf, nx, fd, Fw, Ff, h.hq, h.blk.fr hf (hn b ((h.hG b).2 (.inl rfl))), h.sw.fr hf (fun x hx => hn x ((h.hG x).2 (.inr (.inl hx)))), h.sf.fr hf (fun x hx => hn x ((h.hG x).2 (.inr (.inr hx)))), h.nw, h.nf, h.wf, h.hG, h.hfr, h.hnx, h.ok⟩
theorem PagesH.lt {q : Value} {F : Nat → Prop} {n : Nat} {ws fr : List Int} {H : Heap} (h : PagesH H q F n ws fr) : ∀ b, F b → b < H.size := by
  obtain ⟨b, vw, vf, nx, fd, Fw, Ff, h⟩ := h
  intro x hx
  rcases (h.hG x).1 hx with rfl | hx | hx
  · exact h.blk.lt
  · exact h.sw.lt x hx
  · exact h.sf.lt x hx

theorem pg_last {n nx : Nat} {k : Int} {fd fr' : List Int} (h : fr' ++ [k] = freeTo n (n - nx) ++ fd) (hf : 0 < fd.length) : ∃ fd', fd = fd' ++ [k] ∧ fr' = freeTo n (n - nx) ++ fd' := by
  rcases List.eq_nil_or_concat fd with rfl | ⟨fd', x, rfl⟩
  · simp at hf
  · simp only [List.concat_eq_append] at h ⊢
    rw [← List.append_assoc] at h
    have := List.append_inj' h rfl
    simp only [List.cons.injEq, and_true] at this
    exact ⟨fd', by rw [this.2], this.1⟩
theorem pg_next {n nx : Nat} {k : Int} {fr' : List Int} (h : fr' ++ [k] = freeTo n (n - nx) ++ []) (hn : nx ≤ n) : nx < n ∧ k = nx ∧ fr' = freeTo n (n - (nx + 1)) ++ [] := by
  rw [List.append_nil] at h ⊢
  have hlt : nx < n := by
    rcases Nat.lt_or_ge nx n with h1 | h1
    · exact h1
    · rw [show n - nx = 0 by omega] at h; simp [freeTo] at h
  rw [show n - nx = (n - (nx + 1)) + 1 by omega, freeTo_succ] at h
  have := List.append_inj' h rfl
  simp only [List.cons.injEq, and_true] at this
  exact ⟨hlt, by rw [this.2]; omega, this.1⟩
theorem pg_none {n nx : Nat} {fd : List Int} (h : [] = freeTo n (n - nx) ++ fd) (hn : nx ≤ n) : fd = [] ∧ nx = n := by
  have := List.append_eq_nil_iff.1 h.symm
  refine ⟨this.2, ?_⟩
  have h2 := congrArg List.length this.1
  rw [freeTo_len] at h2; simp at h2; omega

def clrTo (ws : List Int) (k : Nat) : Nat → List Int
  | 0 => ws
  | i + 1 => (clrTo ws k i).set (k * 16 + i) 0
theorem clrTo_len (ws : List Int) (k : Nat) : ∀ i, (clrTo ws k i).length = ws.length
  | 0 => rfl
  | i + 1 => by rw [clrTo, List.length_set, clrTo_len ws k i]
theorem clrTo_get (ws : List Int) (k : Nat) : ∀ (i j : Nat), k * 16 + i ≤ ws.length → (clrTo ws k i).getD j 0 = if k * 16 ≤ j ∧ j < k * 16 + i then 0 else ws.getD j 0
  | 0, j, _ => by rw [if_neg (by omega)]; rfl
  | i + 1, j, h => by
    rw [clrTo, getD_set (by rw [clrTo_len]; omega), clrTo_get ws k i j (by omega)]
    by_cases h1 : k * 16 + i = j
    · rw [if_pos h1, if_pos (by omega)]
    · rw [if_neg h1]
      by_cases h2 : k * 16 ≤ j ∧ j < k * 16 + i
      · rw [if_pos h2, if_pos (by omega)]
      · rw [if_neg h2, if_neg (by omega)]
theorem clrTo_all {ws : List Int} {k n : Nat} (h : ws.length = n * 16) (hk : k < n) : clrTo ws k 16 = clearPg ws k := by
  refine ext_getD 0 (by rw [clrTo_len, clearPg_len h hk, h]) fun j hj => ?_
  rw [clrTo_len] at hj
  rw [clrTo_get ws k 16 j (by omega)]
  simp only [clearPg, List.getD_eq_getElem?_getD]
  have hl : (ws.take (k * 16)).length = k * 16 := by rw [List.length_take]; omega
  by_cases h1 : j < k * 16
  · rw [if_neg (by omega), List.getElem?_append_left (by omega), List.getElem?_take_of_lt h1]
  · rw [List.getElem?_append_right (by omega), hl]
    by_cases h2 : j < k * 16 + 16
    · rw [if_pos (by omega), List.getElem?_append_left (by simp; omega), List.getElem?_replicate, if_pos (by omega)]; rfl
    · rw [if_neg (by omega), List.getElem?_append_right (by simp; omega), List.getElem?_drop]
      congr 2
      simp; omega

theorem rnew_c {n : Nat} (w : World) (hn : n ≤ 64) : Rets Try.prog R_NewPages [.int .i64 n] w fun v w' => ∃ G, PagesH w'.heap v G n (List.replicate (n * 16) 0) (freeTo n n) ∧ Fr NF w w' ∧ ∀ b, G b → w.heap.size ≤ b := by
  refine R_NewPages_in ?_
  unfold R_NewPages_lc
  all_goals (refine s_seq ?_; refine s_ops ?_; refine s_mov (by (conv => lhs; whnf); first | done | fail) ?_; refine s_nil ?_; (repeat (first | refine s_then ?_ | refine s_blockN ?_)); refine s_seq ?_; refine s_ops ?_; refine s_mov (by (conv => lhs; whnf); first | done | fail) ?_; (first | (refine s_mul rfl rfl (by omega) (by omega) ?_) | (refine s_mulw rfl rfl ?_)); refine s_make el_long rfl rfl (by omega) (by omega) ?_; intro vw w2 hf2 hw hz2; refine s_mov (by (conv => lhs; whnf); first | done | fail) ?_; obtain ⟨aw, cw, rfl⟩ := hw.shape; refine s_build2 (cs := [_, _, _, _]) (by (conv => lhs; whnf); first | done | fail) (by (conv => lhs; whnf); first | done | fail) (by rfl) ?_; refine s_boxV (by (conv => lhs; whnf); first | done | fail) (by rfl) ?_; (first | (intro b w4 hb hf4 hz4 hblk; have hw := hw.fr0 hf4) | (intro b1 w1 hb1 hfr1 hsz1 hblk1)); refine s_mov (by (conv => lhs; whnf); first | done | fail) ?_; refine s_nil ?_; (repeat (first | refine s_then ?_ | refine s_blockN ?_)); refine s_ret ?_; (repeat (first | refine s_retT ?_ | refine s_retB ?_)); refine q_ret1 (by (conv => lhs; whnf); first | done | fail) ?_)
  all_goals (refine ⟨_, rfl, fun x => x = b ∨ x = w.heap.size, ⟨b, _, _, 0, [], (· = w.heap.size), NF, rfl, hblk, by rw [List.map_replicate]; exact hw, Sl.nil _ _ _, fun (h : b = _) => by omega, fun h => h, fun _ _ h => h, fun x => by simp, by simp, Nat.zero_le _, poolOk_new hn⟩, hf2.then0 hf4, ?_⟩; rintro x (h | h) <;> omega)
theorem rtaken_c {q : Value} {G : Nat → Prop} {n : Nat} {ws fr : List Int} {w : World} (k : Int) (h : PagesH w.heap q G n ws fr) : Rets Try.prog R_Pages_Taken [q, .int .i64 k] w fun v w' => v = .bool (decide (0 ≤ k ∧ k < n ∧ k ∉ fr)) ∧ w' = w := by
  obtain ⟨b, vw, vf, nx, fd, Fw, Ff, rfl, hb, hw, hf, nw, nf, wf, hG, hfr, hnx, ok⟩ := h
  have hfl := ok.frlen; have hn := ok.le
  have hfd : fd.length ≤ 64 := by rw [hfr, List.length_append] at hfl; omega
  have hmem : k ∈ fr ↔ ((nx : Int) ≤ k ∧ k < n) ∨ k ∈ fd := by rw [hfr, List.mem_append, mem_freeTo (by omega)]; constructor <;> (rintro (h | h); (left; omega); (right; exact h))
  refine R_Pages_Taken_in ?_
  unfold R_Pages_Taken_lc
  all_goals (refine s_seq ?_; refine s_ops ?_; refine s_mov (by (conv => lhs; whnf); first | done | fail) ?_; refine s_nil ?_; (repeat (first | refine s_then ?_ | refine s_blockN ?_)); refine s_seq ?_; refine s_ops ?_; refine s_mov (by (conv => lhs; whnf); first | done | fail) ?_)
  all_goals (first | (refine s_geq_t rfl rfl (by omega) ?_) | (refine s_geq_f rfl rfl (by omega) ?_) | (refine s_geq_s rfl rfl (fun hc => ?_) (fun hc => ?_)))
  all_goals (refine s_mov (by (conv => lhs; whnf); first | done | fail) ?_; (first | (refine s_gy rfl ?_; refine s_mov (by (conv => lhs; whnf); first | done | fail) ?_) | refine s_gn rfl rfl ?_); (first | (refine s_gy rfl ?_; refine s_mov (by (conv => lhs; whnf); first | done | fail) ?_) | refine s_gn rfl rfl ?_); (first | (refine s_gy rfl ?_; refine s_nilc rfl ?_) | refine s_gn rfl rfl ?_); (first | (refine s_gy rfl ?_; (first | refine s_fld0 rfl ?_ | refine s_fld rfl ?_)) | refine s_gn rfl rfl ?_); (first | (refine s_gy rfl ?_; refine s_loadb rfl (by assumption) (by rfl) ?_) | refine s_gn rfl rfl ?_))
  all_goals (first | (refine s_gy rfl ?_; (first | (refine s_lss_t rfl rfl (by omega) ?_) | (refine s_lss_f rfl rfl (by omega) ?_) | (refine s_lss_s rfl rfl (fun hc => ?_) (fun hc => ?_)))) | refine s_gn rfl rfl ?_)
  all_goals ((first | refine s_pick_t rfl (by (conv => lhs; whnf); first | done | fail) ?_ | refine s_pick_f rfl (by (conv => lhs; whnf); first | done | fail) ?_); refine s_mov (by (conv => lhs; whnf); first | done | fail) ?_; (first | (refine s_gy rfl ?_; refine s_mov (by (conv => lhs; whnf); first | done | fail) ?_) | refine s_gn rfl rfl ?_); (first | (refine s_gy rfl ?_; refine s_nilc rfl ?_) | refine s_gn rfl rfl ?_); (first | (refine s_gy rfl ?_; (first | refine s_fld0 rfl ?_ | refine s_fld rfl ?_)) | refine s_gn rfl rfl ?_); (first | (refine s_gy rfl ?_; refine s_loadb rfl (by assumption) (by rfl) ?_) | refine s_gn rfl rfl ?_); (first | (refine s_gy rfl ?_; refine s_mov (by (conv => lhs; whnf); first | done | fail) ?_) | refine s_gn rfl rfl ?_))
  all_goals (first | (refine s_gy rfl ?_; refine s_rets (by rfl) (in_c _ hf.toR (by omega)) ?_; rintro v1 w1 ⟨rfl, rfl⟩) | refine s_gn rfl rfl ?_)
  all_goals ((first | (refine s_gy rfl ?_; refine s_not rfl ?_) | refine s_gn rfl rfl ?_); (first | refine s_pick_t rfl (by (conv => lhs; whnf); first | done | fail) ?_ | refine s_pick_f rfl (by (conv => lhs; whnf); first | done | fail) ?_); refine s_mov (by (conv => lhs; whnf); first | done | fail) ?_; refine s_nil ?_; (repeat (first | refine s_then ?_ | refine s_blockN ?_)); refine s_ret ?_; (repeat (first | refine s_retT ?_ | refine s_retB ?_)); refine q_ret1 (by (conv => lhs; whnf); first | done | fail) ?_)
  all_goals (first | (refine ⟨_, rfl, congrArg Value.bool ?_, rfl⟩; rw [← decide_not]; exact decide_eq_decide.2 (by rw [hmem]; constructor; (intro h; exact ⟨by omega, by omega, fun h' => h'.elim (fun h' => by omega) h⟩); (intro h h'; exact h.2.2 (.inr h')))) | (exact ⟨_, rfl, congrArg Value.bool (decide_eq_false (by rw [hmem]; rintro ⟨h1, h2, h3⟩; exact h3 (.inl ⟨by omega, by omega⟩))).symm, rfl⟩) | (exact ⟨_, rfl, congrArg Value.bool (decide_eq_false (by rintro ⟨h1, _⟩; omega)).symm, rfl⟩))
theorem rfree_c {q : Value} {G : Nat → Prop} {n : Nat} {ws fr : List Int} {w : World} (h : PagesH w.heap q G n ws fr) : Rets Try.prog R_Pages_Free [q] w fun v w' => v = .int .i64 fr.length ∧ Fr NF w w' := by
  obtain ⟨b, vw, vf, nx, fd, Fw, Ff, rfl, hb, hw, hf, nw, nf, wf, hG, hfr, hnx, ok⟩ := h
  have hfl := ok.frlen; have hn := ok.le
  have hfd : fr.length = (n - nx) + fd.length := by rw [hfr, List.length_append, freeTo_len]
  have hll : (fd.map icell).length = fd.length := List.length_map _
  refine R_Pages_Free_in ?_
  unfold R_Pages_Free_lc
  all_goals (refine s_seq ?_; refine s_ops ?_; refine s_mov (by (conv => lhs; whnf); first | done | fail) ?_; refine s_nil ?_; (repeat (first | refine s_then ?_ | refine s_blockN ?_)); refine s_seq ?_; refine s_draw [(0, none), (1, none), (2, none), (3, none), (4, none), (5, none), (6, none), (7, none), (8, none), (9, none), (10, none), (11, none), (12, none), (13, none), (14, none), (15, some none)] (by kernel_rfl) (by kernel_rfl) ?_; have hb := hb.fr0 (Fr.drew' (Fr.refl NF _)); have hf := hf.fr0 (Fr.drew' (Fr.refl NF _)); refine s_mov (by (conv => lhs; whnf); first | done | fail) ?_; refine s_nilc rfl ?_; (first | refine s_fld0 rfl ?_ | refine s_fld rfl ?_); refine s_loadb rfl (by assumption) (by rfl) ?_; refine s_mov (by (conv => lhs; whnf); first | done | fail) ?_; refine s_nilc rfl ?_; (first | refine s_fld0 rfl ?_ | refine s_fld rfl ?_); refine s_loadb rfl (by assumption) (by rfl) ?_; (first | (refine s_subi rfl rfl (by omega) (by omega) ?_) | (refine s_subiw rfl rfl ?_)); refine s_mov (by (conv => lhs; whnf); first | done | fail) ?_; refine s_nilc rfl ?_; (first | refine s_fld0 rfl ?_ | refine s_fld rfl ?_); refine s_loadb rfl (by assumption) (by rfl) ?_; (first | (refine s_lenS (by (conv => lhs; whnf); first | done | fail) hf ?_) | (refine s_lenS (by (conv => lhs; whnf); first | done | fail) (by assumption) ?_) | (refine s_len rfl ?_)); (first | (refine s_add rfl rfl (by omega) (by omega) ?_) | (refine s_addw rfl rfl ?_)); refine s_mov (by (conv => lhs; whnf); first | done | fail) ?_; refine s_nil ?_; (repeat (first | refine s_then ?_ | refine s_blockN ?_)))
  all_goals (refine s_ret ?_; (repeat (first | refine s_retT ?_ | refine s_retB ?_)); refine q_ret1 (by (conv => lhs; whnf); first | done | fail) ?_; refine ⟨_, rfl, congrArg (Value.int .i64) ?_, Fr.drew' (Fr.refl NF _)⟩; omega)
theorem rgive_c {q : Value} {G : Nat → Prop} {n k : Nat} {ws fr : List Int} {w : World} (h : PagesH w.heap q G n ws fr) (hk : k < n) (hkn : (k : Int) ∉ fr) : Rets Try.prog R_Pages_Give [q, .int .i64 k] w fun v w' => v = .bool true ∧ ∃ G', PagesH w'.heap q G' n ws (fr ++ [(k : Int)]) ∧ Step G G' w w' := by
  have h0 := h
  obtain ⟨b, vw, vf, nx, fd, Fw, Ff, rfl, hb, hw, hf, nw, nf, wf, hG, hfr, hnx, ok⟩ := h
  have hfl := ok.frlen; have hn := ok.le
  have hfd : fd.length ≤ 64 := by rw [hfr, List.length_append] at hfl; omega
  refine R_Pages_Give_in ?_
  unfold R_Pages_Give_lc
  all_goals (refine s_seq ?_; refine s_ops ?_; refine s_mov (by (conv => lhs; whnf); first | done | fail) ?_; refine s_nil ?_; (repeat (first | refine s_then ?_ | refine s_blockN ?_)); refine s_seq ?_; refine s_seq ?_; refine s_ops ?_; refine s_mov (by (conv => lhs; whnf); first | done | fail) ?_; refine s_mov (by (conv => lhs; whnf); first | done | fail) ?_; refine s_rets (by rfl) (rtaken_c _ h0) ?_; rintro v1 w1 ⟨rfl, rfl⟩; rw [decide_eq_true (show 0 ≤ (k : Int) ∧ (k : Int) < n ∧ (k : Int) ∉ fr from ⟨by omega, by omega, hkn⟩)]; refine s_not rfl ?_; refine s_nil ?_; (repeat (first | refine s_then ?_ | refine s_blockN ?_)))
  all_goals refine s_cond_f rfl ?_
  all_goals (refine s_skip ?_; (repeat (first | refine s_then ?_ | refine s_blockN ?_)); refine s_seq ?_; refine s_ops ?_; refine s_mov (by (conv => lhs; whnf); first | done | fail) ?_; refine s_nil ?_; (repeat (first | refine s_then ?_ | refine s_blockN ?_)); refine s_seq ?_; refine s_ops ?_; refine s_mov (by (conv => lhs; whnf); first | done | fail) ?_; refine s_mov (by (conv => lhs; whnf); first | done | fail) ?_; refine s_mov (by (conv => lhs; whnf); first | done | fail) ?_; refine s_nilc rfl ?_; (first | refine s_fld0 rfl ?_ | refine s_fld rfl ?_); refine s_loadb rfl (by assumption) (by rfl) ?_; refine s_app el_int (.inl u_ints) (by (conv => lhs; whnf); first | done | fail) (by (conv => lhs; whnf); first | done | fail) (Sl.nil _ _ _) (hf.src icell_one) (by rw [List.length_map, List.length_nil]; omega) ?_; intro v5 w5 ha; obtain ⟨F5, hs5, hf5, hl5⟩ := app_fresh (Fr.refl NF _) (fun _ h => h.elim) ha; rw [List.nil_append] at hs5; have hb5 := hb.fr0 hf5; have hw5 := hw.fr0 hf5; refine s_mov (by (conv => lhs; whnf); first | done | fail) ?_; refine s_buildS1 (cs := [_]) (by (conv => lhs; whnf); first | done | fail) (by rfl) ?_; (first | (intro b6 w6 hb6 hf6 hz6 hk6; have hs6 := hs5.fr0 hf6; have hb6' := hb5.fr0 hf6; have hw6 := hw5.fr0 hf6) | (intro b1 w1 hb1 hfr1 hsz1 hblk1)); refine s_app el_int (.inl u_ints) (by (conv => lhs; whnf); first | done | fail) (by (conv => lhs; whnf); first | done | fail) hs6 (src_one hk6 rfl) (by simp; omega) ?_; intro v7 w7 ha7; obtain ⟨F7, hs7, hf7, hl7⟩ := app_fresh (hf5.then0 hf6) hl5 ha7; have hb7 := hb.fr0 hf7; have hw7 := hw.fr0 hf7; refine s_nilc rfl ?_; (first | refine s_fld0 rfl ?_ | refine s_fld rfl ?_))
  all_goals (refine s_storeV rfl (by (conv => lhs; whnf); first | done | fail) hb7 (by simp) hs7.oneC (by rfl) ?_; intro w8 hf8 hz8 hb8; have hs8 := hs7.fr hf8 (fun x hx e => absurd (hl7 x hx) (by have := hb.lt; omega)); have hw8 := hw7.fr hf8 (fun x hx e => nw (e ▸ hx)); refine s_nil ?_; (repeat (first | refine s_then ?_ | refine s_blockN ?_)); refine s_seq ?_; refine s_ops ?_; refine s_mov (by (conv => lhs; whnf); first | done | fail) ?_; refine s_nil ?_; (repeat (first | refine s_then ?_ | refine s_blockN ?_)); refine s_ret ?_; (repeat (first | refine s_retT ?_ | refine s_retB ?_)); refine q_ret1 (by (conv => lhs; whnf); first | done | fail) ?_)
  all_goals (refine ⟨_, rfl, rfl, fun x => x = b ∨ Fw x ∨ F7 x, ⟨b, vw, v7, nx, fd ++ [(k : Int)], Fw, F7, rfl, hb8, hw8, by rw [List.map_append]; exact hs8, nw, fun h => absurd (hl7 b h) (by have := hb.lt; omega), fun x hx h => absurd (hl7 x h) (by have := hw.lt x hx; omega), fun x => Iff.rfl, by rw [hfr, List.append_assoc], hnx, ok.give hk hkn⟩, hf7.of0 (hf8.into fun x h => (hG x).2 (.inl h)), ?_⟩; rintro x (h | h | h); (exact .inl ((hG x).2 (.inl h))); (exact .inl ((hG x).2 (.inr (.inl h)))); exact .inr (hl7 x h))
theorem rgive_no_c {q : Value} {G : Nat → Prop} {n : Nat} {k : Int} {ws fr : List Int} {w : World} (h : PagesH w.heap q G n ws fr) (hk : k < 0 ∨ (n : Int) ≤ k ∨ k ∈ fr) : Rets Try.prog R_Pages_Give [q, .int .i64 k] w fun v w' => v = .bool false ∧ w' = w := by
  refine R_Pages_Give_in ?_
  unfold R_Pages_Give_lc
  all_goals (refine s_seq ?_; refine s_ops ?_; refine s_mov (by (conv => lhs; whnf); first | done | fail) ?_; refine s_nil ?_; (repeat (first | refine s_then ?_ | refine s_blockN ?_)); refine s_seq ?_; refine s_seq ?_; refine s_ops ?_; refine s_mov (by (conv => lhs; whnf); first | done | fail) ?_; refine s_mov (by (conv => lhs; whnf); first | done | fail) ?_)
  all_goals (refine s_rets (by rfl) (rtaken_c _ h) ?_; rintro v1 w1 ⟨rfl, rfl⟩; rw [decide_eq_false (show ¬ (0 ≤ k ∧ k < n ∧ k ∉ fr) from fun hc => hk.elim (fun h => by omega) (fun h => h.elim (fun h => by omega) hc.2.2))])
  all_goals (refine s_not rfl ?_; refine s_nil ?_; (repeat (first | refine s_then ?_ | refine s_blockN ?_)))
  all_goals refine s_cond_t rfl ?_
  all_goals (refine s_seq ?_; refine s_ops ?_; refine s_mov (by (conv => lhs; whnf); first | done | fail) ?_; refine s_nil ?_; (repeat (first | refine s_then ?_ | refine s_blockN ?_)); refine s_ret ?_; (repeat (first | refine s_retT ?_ | refine s_retB ?_)); refine q_ret1 (by (conv => lhs; whnf); first | done | fail) ?_; exact ⟨_, rfl, rfl, rfl⟩)
theorem rtake_none_c {q : Value} {G : Nat → Prop} {n : Nat} {ws : List Int} {w : World} (h : PagesH w.heap q G n ws []) : Rets Try.prog R_Pages_Take [q] w fun v w' => v = .int .i64 (-1) ∧ Fr NF w w' := by
  obtain ⟨b, vw, vf, nx, fd, Fw, Ff, rfl, hb, hw, hf, nw, nf, wf, hG, hfr, hnx, ok⟩ := h
  obtain ⟨rfl, rfl⟩ := pg_none hfr hnx
  refine R_Pages_Take_in ?_
  unfold R_Pages_Take_lc
  all_goals (refine s_seq ?_; refine s_ops ?_; refine s_mov (by (conv => lhs; whnf); first | done | fail) ?_; refine s_nil ?_; (repeat (first | refine s_then ?_ | refine s_blockN ?_)); refine s_seq ?_; refine s_ops ?_; refine s_mov (by (conv => lhs; whnf); first | done | fail) ?_; refine s_nilc rfl ?_; (first | refine s_fld0 rfl ?_ | refine s_fld rfl ?_); refine s_loadb rfl (by assumption) (by rfl) ?_; refine s_mov (by (conv => lhs; whnf); first | done | fail) ?_; refine s_nil ?_; (repeat (first | refine s_then ?_ | refine s_blockN ?_)); refine s_seq ?_; refine s_seq ?_; refine s_ops ?_; refine s_mov (by (conv => lhs; whnf); first | done | fail) ?_; refine s_nilc rfl ?_; (first | refine s_fld0 rfl ?_ | refine s_fld rfl ?_); refine s_loadb rfl (by assumption) (by rfl) ?_; (first | (refine s_lenS (by (conv => lhs; whnf); first | done | fail) hf ?_; rw [List.map_nil, List.length_nil]) | (refine s_lenS (by (conv => lhs; whnf); first | done | fail) (by assumption) ?_) | (refine s_len rfl ?_)))
  all_goals (first | (refine s_gtr_t rfl rfl (by omega) ?_) | (refine s_gtr_f rfl rfl (by omega) ?_) | (refine s_gtr_s rfl rfl (fun hc => ?_) (fun hc => ?_)))
  all_goals (refine s_nil ?_; (repeat (first | refine s_then ?_ | refine s_blockN ?_)))
  all_goals refine s_cond_f rfl ?_
  all_goals (refine s_seq ?_; refine s_draw [(0, none), (1, none), (2, none), (3, none), (4, none), (5, none), (6, none), (7, none), (8, some none)] (by kernel_rfl) (by kernel_rfl) ?_; have hb := hb.fr0 (Fr.drew' (Fr.refl NF _)); refine s_mov (by (conv => lhs; whnf); first | done | fail) ?_; refine s_nilc rfl ?_; (first | refine s_fld0 rfl ?_ | refine s_fld rfl ?_); refine s_loadb rfl (by assumption) (by rfl) ?_; refine s_mov (by (conv => lhs; whnf); first | done | fail) ?_; refine s_nilc rfl ?_; (first | refine s_fld0 rfl ?_ | refine s_fld rfl ?_); refine s_loadb rfl (by assumption) (by rfl) ?_)
  all_goals (first | (refine s_eql_t rfl rfl (by omega) ?_) | (refine s_eql_f rfl rfl (by omega) ?_) | (refine s_eql_s rfl rfl (fun hc => ?_) (fun hc => ?_)))
  all_goals (refine s_nil ?_; (repeat (first | refine s_then ?_ | refine s_blockN ?_)))
  all_goals refine s_cond_t rfl ?_
  all_goals (refine s_seq ?_; refine s_ops ?_; refine s_mov (by (conv => lhs; whnf); first | done | fail) ?_; refine s_nil ?_; (repeat (first | refine s_then ?_ | refine s_blockN ?_)); refine s_ret ?_; (repeat (first | refine s_retT ?_ | refine s_retB ?_)); refine q_ret1 (by (conv => lhs; whnf); first | done | fail) ?_; exact ⟨_, rfl, rfl, Fr.drew' (Fr.refl NF _)⟩)
theorem rtake_c {q : Value} {G : Nat → Prop} {n k : Nat} {ws fr : List Int} {w : World} (h : PagesH w.heap q G n ws (fr ++ [(k : Int)])) : Rets Try.prog R_Pages_Take [q] w fun v w' => v = .int .i64 k ∧ PagesH w'.heap q G n (clearPg ws k) fr ∧ Fr G w w' := by
  obtain ⟨b, vw, vf, nx, fd, Fw, Ff, rfl, hb, hw, hf, nw, nf, wf, hG, hfr, hnx, ok⟩ := h
  obtain ⟨ok', hk, hkn⟩ := ok.take
  have hfl := ok.frlen; have hn := ok.le
  have hfd : fd.length ≤ 64 := by rw [hfr, List.length_append] at hfl; omega
  have hlf : (fd.map icell).length = fd.length := List.length_map _
  refine R_Pages_Take_in ?_
  unfold R_Pages_Take_lc
  all_goals (refine s_seq ?_; refine s_ops ?_; refine s_mov (by (conv => lhs; whnf); first | done | fail) ?_; refine s_nil ?_; (repeat (first | refine s_then ?_ | refine s_blockN ?_)); refine s_seq ?_; refine s_ops ?_; refine s_mov (by (conv => lhs; whnf); first | done | fail) ?_; refine s_nilc rfl ?_; (first | refine s_fld0 rfl ?_ | refine s_fld rfl ?_); refine s_loadb rfl (by assumption) (by rfl) ?_; refine s_mov (by (conv => lhs; whnf); first | done | fail) ?_; refine s_nil ?_; (repeat (first | refine s_then ?_ | refine s_blockN ?_)))
  refine s_mid (fun ρ' w' => ∃ (vf : Value) (nx : Nat) (fd : List Int), Has ρ' [(0, .pointer (some ⟨b, 0, none⟩)), (3, .int .i64 k)] ∧ Blk w'.heap b 57 [vw, vf, .int .i64 nx, .int .i64 n] ∧ Sl w'.heap 2 1 vw Fw (ws.map icell) ∧ Sl w'.heap 3 1 vf Ff (fd.map icell) ∧ fr = freeTo n (n - nx) ++ fd ∧ nx ≤ n ∧ Fr (· = b) w w') ?_ ?_
  · skip
    all_goals (refine s_seq ?_; refine s_ops ?_; refine s_mov (by (conv => lhs; whnf); first | done | fail) ?_; refine s_nilc rfl ?_; (first | refine s_fld0 rfl ?_ | refine s_fld rfl ?_); refine s_loadb rfl (by assumption) (by rfl) ?_; refine s_lenS (by (conv => lhs; whnf); first | done | fail) hf ?_)
    all_goals (first | (refine s_gtr_t rfl rfl (by omega) ?_) | (refine s_gtr_f rfl rfl (by omega) ?_) | (refine s_gtr_s rfl rfl (fun hc => ?_) (fun hc => ?_)))
    all_goals (refine s_nil ?_; (repeat (first | refine s_then ?_ | refine s_blockN ?_)))
    all_goals
      first
      | (refine s_cond_t rfl ?_ -- R_Pages_Take c0
         all_goals (obtain ⟨fd', rfl, rfl⟩ := pg_last hfr (by omega); have hl1 : (fd' ++ [(k : Int)]).length = fd'.length + 1 := (by simp); refine s_seq ?_; refine s_draw [(0, none), (1, none), (2, none), (3, none), (4, none), (5, none), (6, none), (7, none), (8, none), (9, none), (10, none), (11, none), (12, some none)] (by kernel_rfl) (by kernel_rfl) ?_; have hb := hb.fr0 (Fr.drew' (Fr.refl NF _)); have hf := hf.fr0 (Fr.drew' (Fr.refl NF _)); have hw := hw.fr0 (Fr.drew' (Fr.refl NF _)); refine s_mov (by (conv => lhs; whnf); first | done | fail) ?_; refine s_nilc rfl ?_; (first | refine s_fld0 rfl ?_ | refine s_fld rfl ?_); refine s_loadb rfl (by assumption) (by rfl) ?_; refine s_mov (by (conv => lhs; whnf); first | done | fail) ?_; refine s_nilc rfl ?_; (first | refine s_fld0 rfl ?_ | refine s_fld rfl ?_); refine s_loadb rfl (by assumption) (by rfl) ?_; refine s_lenS (by (conv => lhs; whnf); first | done | fail) hf ?_; rw [hlf, hl1]; refine s_subi rfl rfl (by omega) (by omega) ?_; rw [show ((fd'.length + 1 : Nat) : Int) - 1 = (fd'.length : Int) by omega]; refine s_idxSn (by (conv => lhs; whnf); first | done | fail) rfl hf (by omega) ?_; intro b1 o1 hel1; refine s_loadS rfl hel1 (c := icell k) (by rw [List.map_append, List.getElem?_append_right (by rw [List.length_map]; omega)]; simp) rfl ?_; refine s_mov (by (conv => lhs; whnf); first | done | fail) ?_; refine s_nil ?_; (repeat (first | refine s_then ?_ | refine s_blockN ?_)); refine s_draw [(0, none), (1, none), (2, none), (3, none), (4, none), (5, none), (6, none), (7, none), (8, none), (9, none), (10, none), (11, none), (12, none), (13, none), (14, some none)] (by kernel_rfl) (by kernel_rfl) ?_)
         all_goals (have hb := hb.fr0 (Fr.drew' (Fr.refl NF _)); have hf := hf.fr0 (Fr.drew' (Fr.refl NF _)); have hw := hw.fr0 (Fr.drew' (Fr.refl NF _)); refine s_mov (by (conv => lhs; whnf); first | done | fail) ?_; refine s_mov (by (conv => lhs; whnf); first | done | fail) ?_; refine s_nilc rfl ?_; (first | refine s_fld0 rfl ?_ | refine s_fld rfl ?_); refine s_loadb rfl (by assumption) (by rfl) ?_; refine s_mov (by (conv => lhs; whnf); first | done | fail) ?_; refine s_nilc rfl ?_; (first | refine s_fld0 rfl ?_ | refine s_fld rfl ?_); refine s_loadb rfl (by assumption) (by rfl) ?_; refine s_lenS (by (conv => lhs; whnf); first | done | fail) hf ?_; rw [hlf, hl1]; refine s_subi rfl rfl (by omega) (by omega) ?_; rw [show ((fd'.length + 1 : Nat) : Int) - 1 = (fd'.length : Int) by omega]; refine s_subS (by (conv => lhs; whnf); first | done | fail) hf rfl ⟨_, rfl⟩ rfl (by omega) (by omega) ?_; intro vf1 hf1; rw [show ((List.map icell (fd' ++ [(k : Int)])).take fd'.length).drop 0 = fd'.map icell by rw [List.drop_zero, List.map_append, List.take_left' (by rw [List.length_map])]] at hf1; refine s_nilc rfl ?_; (first | refine s_fld0 rfl ?_ | refine s_fld rfl ?_))
         all_goals (refine s_storeV rfl (by (conv => lhs; whnf); first | done | fail) hb (by simp) hf1.oneC (by rfl) ?_; intro w2 hf2 hz2 hb2; have hf2' := hf1.fr hf2 (fun x hx e => nf (e ▸ hx)); have hw2 := hw.fr hf2 (fun x hx e => nw (e ▸ hx)); have hfw : Fr (· = b) w w2 := ((Fr.refl NF w).drew'.drew'.of0 hf2))
         all_goals (refine s_nil ?_; (repeat (first | refine s_then ?_ | refine s_blockN ?_))))
      | (refine s_cond_f rfl ?_ -- R_Pages_Take c0
         all_goals (have hfd0 : fd = [] := List.eq_nil_of_length_eq_zero (by omega); subst hfd0; obtain ⟨hlt, hke, rfl⟩ := pg_next hfr hnx; obtain rfl : k = nx := (by omega); refine s_seq ?_; refine s_draw [(0, none), (1, none), (2, none), (3, none), (4, none), (5, none), (6, none), (7, none), (8, some none)] (by kernel_rfl) (by kernel_rfl) ?_; have hb := hb.fr0 (Fr.drew' (Fr.refl NF _)); have hf := hf.fr0 (Fr.drew' (Fr.refl NF _)); have hw := hw.fr0 (Fr.drew' (Fr.refl NF _)); refine s_mov (by (conv => lhs; whnf); first | done | fail) ?_; refine s_nilc rfl ?_; (first | refine s_fld0 rfl ?_ | refine s_fld rfl ?_); refine s_loadb rfl (by assumption) (by rfl) ?_; refine s_mov (by (conv => lhs; whnf); first | done | fail) ?_; refine s_nilc rfl ?_; (first | refine s_fld0 rfl ?_ | refine s_fld rfl ?_); refine s_loadb rfl (by assumption) (by rfl) ?_)
         all_goals (first | (refine s_eql_t rfl rfl (by omega) ?_) | (refine s_eql_f rfl rfl (by omega) ?_) | (refine s_eql_s rfl rfl (fun hc => ?_) (fun hc => ?_)))
         all_goals (refine s_nil ?_; (repeat (first | refine s_then ?_ | refine s_blockN ?_)))
         all_goals refine s_cond_f rfl ?_
         all_goals (refine s_ops ?_; refine s_mov (by (conv => lhs; whnf); first | done | fail) ?_; refine s_nilc rfl ?_; (first | refine s_fld0 rfl ?_ | refine s_fld rfl ?_); refine s_loadb rfl (by assumption) (by rfl) ?_; (first | (refine s_add rfl rfl (by omega) (by omega) ?_) | (refine s_addw rfl rfl ?_)); refine s_nilc rfl ?_; (first | refine s_fld0 rfl ?_ | refine s_fld rfl ?_))
         all_goals (refine s_storeV rfl (by (conv => lhs; whnf); first | done | fail) hb (by simp) rfl (by rfl) ?_; intro w2 hf2 hz2 hb2; have hf2' := hf.fr hf2 (fun x hx e => nf (e ▸ hx)); have hw2 := hw.fr hf2 (fun x hx e => nw (e ▸ hx)); have hfw : Fr (· = b) w w2 := ((Fr.refl NF w).drew'.of0 hf2))
         all_goals (refine s_nil ?_; (repeat (first | refine s_then ?_ | refine s_blockN ?_))))
    all_goals ((first | (exact ⟨_, _, _, ⟨rfl, rfl, trivial⟩, hb2, hw2, hf2', rfl, by omega, hfw⟩) | (exact ⟨_, k + 1, [], ⟨rfl, rfl, trivial⟩, hb2, hw2, hf2', rfl, by omega, hfw⟩)))
  clear hb hw hf hfr hnx; rintro ρ w5 ⟨vf, nx, fd, hρ, hb0, hw0, hf0, hfr, hnx, hfw0⟩; obtain ⟨ρ, rfl⟩ := env_intro _ hρ; have hol := ok.len
  all_goals (refine s_seq ?_; refine s_seq ?_; refine s_ops ?_; refine s_mov (by (conv => lhs; whnf); first | done | fail) ?_; refine s_nil ?_; (repeat (first | refine s_then ?_ | refine s_blockN ?_)); refine s_block ?_)
  refine s_loop (fun ρ' w' => ∃ (i : Nat), Has ρ' [(0, .pointer (some ⟨b, 0, none⟩)), (3, .int .i64 k), (4, .int .i64 i)] ∧ i ≤ 16 ∧ Blk w'.heap b 57 [vw, vf, .int .i64 nx, .int .i64 n] ∧ Sl w'.heap 2 1 vw Fw ((clrTo ws k i).map icell) ∧ Sl w'.heap 3 1 vf Ff (fd.map icell) ∧ Fr G w w') (fun ρ' _ => (16 - iv (ρ' 4)).toNat) ?_ ?_
  · exact ⟨0, ⟨rfl, rfl, rfl, trivial⟩, Nat.zero_le _, hb0, hw0, hf0, hfw0.into fun x h => (hG x).2 (.inl h)⟩
  rintro ρ w5 ⟨i, hρ, hi, hb, hw, hf, hfw⟩; obtain ⟨ρ, rfl⟩ := env_intro _ hρ; have hcl := clrTo_len ws k i; have hcl' : ((clrTo ws k i).map icell).length = ws.length := (by rw [List.length_map, hcl])
  unfold R_Pages_Take_b9
  all_goals (refine s_seq ?_; refine s_seq ?_; refine s_ops ?_; refine s_mov (by (conv => lhs; whnf); first | done | fail) ?_; refine s_lss_d rfl rfl ?_; refine s_nil ?_; (repeat (first | refine s_then ?_ | refine s_blockN ?_)))
  refine s_cond_d rfl (fun hc => ?_) (fun hc => ?_)
  · skip
    all_goals (refine s_skip ?_; (repeat (first | refine s_then ?_ | refine s_blockN ?_)); refine s_seq ?_; refine s_block ?_; refine s_ops ?_; refine s_mov (by (conv => lhs; whnf); first | done | fail) ?_; refine s_nilc rfl ?_; (first | refine s_fld0 rfl ?_ | refine s_fld rfl ?_); refine s_loadb rfl (by assumption) (by rfl) ?_; refine s_mov (by (conv => lhs; whnf); first | done | fail) ?_; (first | (refine s_mul rfl rfl (by omega) (by omega) ?_) | (refine s_mulw rfl rfl ?_)); refine s_mov (by (conv => lhs; whnf); first | done | fail) ?_; (first | (refine s_add rfl rfl (by omega) (by omega) ?_) | (refine s_addw rfl rfl ?_)); refine s_idxS (by (conv => lhs; whnf); first | done | fail) rfl hw (by omega) (by omega) ?_; intro b1 o1 hel1; refine s_storeS rfl (by (conv => lhs; whnf); first | done | fail) hel1 (map_get icell _ 0 (by omega)) (by omega) rfl ?_; intro w6 hf6 hz6 hel6; have hw6 := hel6.sl; rw [show ((k : Int) * 16 + i).toNat = k * 16 + i by omega, show (icell ((clrTo ws k i).getD (k * 16 + i) 0)).set 0 (Value.int .i64 0) = icell 0 from rfl, map_set] at hw6; refine s_nil ?_; (repeat (first | refine s_then ?_ | refine s_blockN ?_)); refine s_ops ?_; refine s_mov (by (conv => lhs; whnf); first | done | fail) ?_; (first | (refine s_add rfl rfl (by omega) (by omega) ?_) | (refine s_addw rfl rfl ?_)); refine s_mov (by (conv => lhs; whnf); first | done | fail) ?_; refine s_nil ?_; (repeat (first | refine s_then ?_ | refine s_blockN ?_)); exact ⟨⟨i + 1, ⟨rfl, rfl, rfl, trivial⟩, by omega, hb.fr hf6 nw, hw6, hf.fr hf6 (fun x hx h => wf x h hx), hfw.cat (hf6.into fun x h => (hG x).2 (.inr (.inl h)))⟩, meas_lt (by omega)⟩)
  · skip
    all_goals (refine s_exit ?_; (repeat (first | refine s_exitQ ?_ | refine s_exitT ?_ | refine s_exitB rfl ?_ | refine s_then ?_ | refine s_blockN ?_)); refine s_seq ?_; refine s_ops ?_; refine s_mov (by (conv => lhs; whnf); first | done | fail) ?_; refine s_mov (by (conv => lhs; whnf); first | done | fail) ?_; refine s_nil ?_; (repeat (first | refine s_then ?_ | refine s_blockN ?_)); refine s_ret ?_; (repeat (first | refine s_retT ?_ | refine s_retB ?_)); refine q_ret1 (by (conv => lhs; whnf); first | done | fail) ?_; refine ⟨_, rfl, rfl, ⟨b, vw, vf, nx, fd, Fw, Ff, rfl, hb, ?_, hf, nw, nf, wf, hG, hfr, hnx, ok'⟩, hfw⟩; rw [← clrTo_all hol hk, show 16 = i by omega]; exact hw)
end Go.Proofs.Ytocllfbfogcbgaa
