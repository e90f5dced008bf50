/- Types renamed (contracts). -/
import Derived.Test.YtanlkfeogoganaaTyS
import Derived.Test.YtanlkfeogoganaaLc11
namespace Go.Proofs.Ytanlkfeogoganaa
open Go.Lir
set_option maxHeartbeats 1000000
attribute [local irreducible] LC.wp opsWp thenQ blockQ retQ resWp LO.wp callPost Calls
set_option linter.unusedSimpArgs false
set_option linter.unusedVariables false
theorem ren_lo {k r : Int} {l : List Ty} {to : List Int} (h : k ≠ 1 ∧ (r < 0 ∨ (to.length : Int) ≤ r)) : Ty.ren (.mk k r l) to = none := by
  rw [Ty.ren, if_pos (by omega)]
theorem ren_neg {k r x : Int} {l : List Ty} {to : List Int} (hk : k ≠ 1) (hx : to[r.toNat]? = some x) (h : x < 0) : Ty.ren (.mk k r l) to = none := by
  rw [Ty.ren, if_pos ⟨hk, .inr (.inr (by rw [List.getD_eq_getElem?_getD, hx]; exact h))⟩]
theorem ren_one {k r : Int} {l : List Ty} {to : List Int} (h : k = 1) : Ty.ren (.mk k r l) to = (Tys.ren l to).map (Ty.mk k r) := by
  subst h
  rw [Ty.ren, if_neg (by omega)]
  cases Tys.ren l to <;> rfl
theorem ren_to {k r x : Int} {l : List Ty} {to : List Int} (hk : k ≠ 1) (h0 : 0 ≤ r) (h1 : r < to.length) (hx : to[r.toNat]? = some x) (h : 0 ≤ x) : Ty.ren (.mk k r l) to = (Tys.ren l to).map (Ty.mk k x) := by
  have hd : to.getD r.toNat 0 = x := by rw [List.getD_eq_getElem?_getD, hx]; rfl
  rw [Ty.ren, if_neg (by omega), hd]
  cases Tys.ren l to with
  | none => rfl
  | some m => simp [hk]
theorem rens_none {l us : List Ty} {to : List Int} {j : Nat} {x : Ty} (hd : Tys.ren l to = (Tys.ren (l.drop j) to).map (us ++ ·)) (hx : l[j]? = some x) (hn : x.ren to = none) : Tys.ren l to = none := by
  rw [hd, drop_cons hx, Tys.ren, hn]; rfl
theorem rens_some {l us : List Ty} {to : List Int} {j : Nat} {x y : Ty} (hd : Tys.ren l to = (Tys.ren (l.drop j) to).map (us ++ ·)) (hx : l[j]? = some x) (hn : x.ren to = some y) : Tys.ren l to = (Tys.ren (l.drop (j + 1)) to).map ((us ++ [y]) ++ ·) := by
  rw [hd, drop_cons hx, Tys.ren, hn]
  cases Tys.ren (l.drop (j + 1)) to <;> simp
theorem rens_all {l us : List Ty} {to : List Int} {j : Nat} (hd : Tys.ren l to = (Tys.ren (l.drop j) to).map (us ++ ·)) (hj : l.length ≤ j) : Tys.ren l to = some us := by
  rw [hd, List.drop_of_length_le hj, Tys.ren]; simp
theorem pren_c : ∀ (t : Ty), t.Short → ∀ {cx : Cx} {w : World} {L : List Res} {cs : List Value} {v2 : Value} {to : List Int}, tyR.at cx cs t → intR.sl cx v2 to → St cx w L →
    Rets Try.prog types_Rename [.agg ⟨cs⟩, v2] w fun u w' => ∃ c' ds, u = .tuple #[.agg ⟨ds⟩, .bool (t.ren to).isSome] ∧ cx.Le c' ∧ tyR.at c' ds ((t.ren to).getD (.mk 0 0 [])) ∧ St c' w' L := by
  intro t
  induction t using Ty.ind with
  | h k r l ih =>
    intro hs cx w L cs v2 to ht hto hS
    obtain ⟨v, rfl, hl⟩ := tyR_out ht
    simp only [Ty.kind, Ty.r, Ty.l] at hl ht ⊢
    obtain ⟨hlen, hsub⟩ := hs.parts
    have hle := St.refl hS
    all_goals refine types_Rename_in ?_
    all_goals (unfold types_Rename_lc; refine s_seq ?_; refine s_ops ?_; refine s_boxB hS (by (conv => lhs; whnf); first | done | exact rfl) (by rfl) ?_; (intro p2 w1 hS); refine s_allocB hS ?_; (intro p4 w1 hS); refine s_mov (by (conv => lhs; whnf); first | done | exact rfl) ?_; refine s_nil ?_; (repeat (first | refine s_then ?_ | refine s_blockN ?_)); refine s_seq ?_; refine s_ops ?_; (refine s_fld0 rfl ?_); ((refine s_loadB hS rfl (NthP.nth (by repeat constructor)) rfl ?_)); (refine s_fld0 rfl ?_); ((refine s_loadB hS rfl (NthP.nth (by repeat constructor)) rfl ?_)); refine s_build2 (cs := [_, _, _]) (by (conv => lhs; whnf); first | done | exact rfl) (by (conv => lhs; whnf); first | done | exact rfl) (by rfl) ?_; refine s_allocB hS ?_; (intro p6 w1 hS); ((refine s_storenF hS rfl rfl (by rfl) (NthP.nth (by repeat constructor)) (by rfl) (by (simp [oneC]; done)) ?_; intro w1 hS; simp only [List.set_cons_zero, List.set_cons_succ] at hS)))
    all_goals (refine s_nil ?_; (repeat (first | refine s_then ?_ | refine s_blockN ?_)))
    refine s_ask (i := 1) (by (conv => lhs; whnf); first | done | exact rfl) (fun e1 => ?_)
    refine s_ask (i := 2) (by (conv => lhs; whnf); first | done | exact rfl) (fun e2 => ?_)
    refine s_ask (i := 4) (by (conv => lhs; whnf); first | done | exact rfl) (fun e4 => ?_)
    refine s_ask (i := 6) (by (conv => lhs; whnf); first | done | exact rfl) (fun e6 => ?_)
    refine s_mid ((fun {xx1 V1 : Value} (_ : xx1 = V1) {xx2 V2 : Value} (_ : xx2 = V2) {xx4 V4 : Value} (_ : xx4 = V4) {xx6 V6 : Value} (_ : xx6 = V6) => (fun ρ' w' => ∃ (r2 : Int), Has ρ' [(1, V1), (2, V2), (4, V4), (6, V6)] ∧ (Ty.ren (.mk k r l) to = (Tys.ren l to).map (Ty.mk k r2)) ∧ St cx w' (blk p6 65 [.int .i64 k, .int .i64 r2, .slice none 0 0] :: blk p4 65 [.int .i64 0, .int .i64 0, .slice none 0 0] :: blk p2 65 [.int .i64 k, .int .i64 r, v] :: L) : Env → World → Prop)) e1 e2 e4 e6) ?_ ?_
    · skip
      all_goals (refine s_seq ?_; refine s_ops ?_; (refine s_fld0 rfl ?_); ((refine s_loadB hS rfl (NthP.nth (by repeat constructor)) rfl ?_)))
      all_goals (first | (refine s_neq_t rfl rfl (by omega) ?_) | (refine s_neq_f rfl rfl (by omega) ?_) | (refine s_neq_s rfl rfl (fun hc => ?_) (fun hc => ?_)))
      all_goals (refine s_nil ?_; (repeat (first | refine s_then ?_ | refine s_blockN ?_)))
      all_goals
        first
        | (refine s_cond_t rfl ?_ -- types_Rename c0
           all_goals (refine s_seq ?_; refine s_seq ?_; refine s_ops ?_; (refine s_fld0 rfl ?_); ((refine s_loadB hS rfl (NthP.nth (by repeat constructor)) rfl ?_)))
           all_goals (first | (refine s_lss_t rfl rfl (by omega) ?_) | (refine s_lss_f rfl rfl (by omega) ?_) | (refine s_lss_s rfl rfl (fun hc => ?_) (fun hc => ?_)))
           all_goals (refine s_mov (by (conv => lhs; whnf); first | done | exact rfl) ?_; (first | refine s_gn rfl rfl ?_ | (refine s_gy rfl ?_; (refine s_fld0 rfl ?_))); (first | refine s_gn rfl rfl ?_ | (refine s_gy rfl ?_; ((refine s_loadB hS rfl (NthP.nth (by repeat constructor)) rfl ?_)))); (first | refine s_gn rfl rfl ?_ | (refine s_gy rfl ?_; refine s_mov (by (conv => lhs; whnf); first | done | exact rfl) ?_)); (first | refine s_gn rfl rfl ?_ | (refine s_gy rfl ?_; ((refine s_lenL (by (conv => lhs; whnf); first | done | exact rfl) (by assumption) ?_)))))
           all_goals (first | refine s_gn rfl rfl ?_ | (refine s_gy rfl ?_; (first | (refine s_geq_t rfl rfl (by omega) ?_) | (refine s_geq_f rfl rfl (by omega) ?_) | (refine s_geq_s rfl rfl (fun hc => ?_) (fun hc => ?_)))))
           all_goals ((first | refine s_pick_t rfl (by (conv => lhs; whnf); first | done | exact rfl) ?_ | refine s_pick_f rfl (by (conv => lhs; whnf); first | done | exact rfl) ?_); refine s_mov (by (conv => lhs; whnf); first | done | exact rfl) ?_; (first | refine s_gn rfl rfl ?_ | (refine s_gy rfl ?_; refine s_mov (by (conv => lhs; whnf); first | done | exact rfl) ?_)); (first | refine s_gn rfl rfl ?_ | (refine s_gy rfl ?_; (refine s_fld0 rfl ?_))); (first | refine s_gn rfl rfl ?_ | (refine s_gy rfl ?_; ((refine s_loadB hS rfl (NthP.nth (by repeat constructor)) rfl ?_)))); (first | refine s_gn rfl rfl ?_ | (refine s_gy rfl ?_; ((first | refine s_idxLn (by (conv => lhs; whnf); first | done | exact rfl) rfl (by assumption) rfl (by first | omega | (simp; omega)) ?_ | refine s_idxL (by (conv => lhs; whnf); first | done | exact rfl) rfl (by assumption) rfl (by omega) (by omega) ?_); intro b1 o1 cs1 x1 hat1 hx1 he1; ((obtain rfl := intR_out he1))))); (first | refine s_gn rfl rfl ?_ | (refine s_gy rfl ?_; (first | (refine s_loadB hS rfl (NthP.nth (by repeat constructor)) rfl ?_) | (refine s_loadK hS (by assumption) rfl rfl ?_)))))
           all_goals (first | refine s_gn rfl rfl ?_ | (refine s_gy rfl ?_; (first | (refine s_lss_t rfl rfl (by omega) ?_) | (refine s_lss_f rfl rfl (by omega) ?_) | (refine s_lss_s rfl rfl (fun hc => ?_) (fun hc => ?_)))))
           all_goals ((first | refine s_pick_t rfl (by (conv => lhs; whnf); first | done | exact rfl) ?_ | refine s_pick_f rfl (by (conv => lhs; whnf); first | done | exact rfl) ?_); refine s_nil ?_; (repeat (first | refine s_then ?_ | refine s_blockN ?_)))
           all_goals
             first
             | (refine s_cond_t rfl ?_ -- types_Rename c1
                all_goals (refine s_seq ?_; refine s_ops ?_; refine s_build0 (cs := [_, _, _]) (by rfl) ?_; ((refine s_storenF hS rfl rfl (by rfl) (NthP.nth (by repeat constructor)) (by rfl) (by (simp [oneC]; done)) ?_; intro w1 hS; simp only [List.set_cons_zero, List.set_cons_succ] at hS)); refine s_mov (by (conv => lhs; whnf); first | done | exact rfl) ?_; refine s_nil ?_; (repeat (first | refine s_then ?_ | refine s_blockN ?_)); refine s_ret ?_; (repeat (first | refine s_retT ?_ | refine s_retB ?_)); refine q_retc1 (by (conv => lhs; whnf); first | done | exact rfl) (holds_blk (n := 3) (by kernel_rfl) (by kernel_rfl) (hS.blkAt (NthP.nth (by repeat constructor))) (by rfl) (by rfl)) (by (conv => lhs; whnf); first | done | exact rfl) ?_)
                all_goals (first | (rw [ren_lo (by omega)]; exact ⟨_, rfl, _, _, rfl, hle, tyR_mk (Rep.SR.nil _ _ _), (hS.subP (by (repeat constructor); first | done | fail))⟩) | (rw [ren_neg (by omega) hx1 (by omega)]; exact ⟨_, rfl, _, _, rfl, hle, tyR_mk (Rep.SR.nil _ _ _), (hS.subP (by (repeat constructor); first | done | fail))⟩)))
             | (refine s_cond_f rfl ?_ -- types_Rename c1
                all_goals (refine s_skip ?_; (repeat (first | refine s_then ?_ | refine s_blockN ?_))))
           all_goals (refine s_ops ?_; refine s_mov (by (conv => lhs; whnf); first | done | exact rfl) ?_; (refine s_fld0 rfl ?_); ((refine s_loadB hS rfl (NthP.nth (by repeat constructor)) rfl ?_)); (first | refine s_idxLn (by (conv => lhs; whnf); first | done | exact rfl) rfl (by assumption) rfl (by first | omega | (simp; omega)) ?_ | refine s_idxL (by (conv => lhs; whnf); first | done | exact rfl) rfl (by assumption) rfl (by omega) (by omega) ?_); intro b2 o2 cs2 x2 hat2 hx2 he2; ((obtain rfl := intR_out he2)); (first | (refine s_loadB hS rfl (NthP.nth (by repeat constructor)) rfl ?_) | (refine s_loadK hS (by assumption) rfl rfl ?_)); (refine s_fld0 rfl ?_); refine s_storeB hS rfl (by (conv => lhs; whnf); first | done | exact rfl) (NthP.nth (by repeat constructor)) (by simp) (by rfl) ?_; intro w1 hS; simp only [List.set_cons_zero, List.set_cons_succ] at hS)
           all_goals (refine s_nil ?_; (repeat (first | refine s_then ?_ | refine s_blockN ?_))))
        | (refine s_cond_f rfl ?_ -- types_Rename c0
           all_goals (refine s_skip ?_; (repeat (first | refine s_then ?_ | refine s_blockN ?_))))
      all_goals ((first | (exact ⟨_, ⟨rfl, rfl, rfl, rfl, trivial⟩, ren_to (by omega) (by omega) (by omega) hx2 (by have h9 := Option.some.inj (hx1.symm.trans hx2); omega), (hS.subP (by (repeat constructor); first | done | fail))⟩) | (exact ⟨_, ⟨rfl, rfl, rfl, rfl, trivial⟩, ren_one (by omega), (hS.subP (by (repeat constructor); first | done | fail))⟩)))
    dsimp only; clear e1 e2 e4 e6; rintro ρ w1 ⟨r2, hρ, hr, hS⟩; obtain ⟨ρ, rfl⟩ := env_intro _ hρ
    all_goals (refine s_seq ?_; refine s_seq ?_; refine s_ops ?_; (refine s_fld0 rfl ?_); ((refine s_loadB hS rfl (NthP.nth (by repeat constructor)) rfl ?_)); ((refine s_lenL (by (conv => lhs; whnf); first | done | exact rfl) (by assumption) ?_)); refine s_mov (by (conv => lhs; whnf); first | done | exact rfl) ?_; refine s_nil ?_; (repeat (first | refine s_then ?_ | refine s_blockN ?_)); refine s_block ?_)
    refine s_ask (i := 1) (by (conv => lhs; whnf); first | done | exact rfl) (fun e1 => ?_)
    refine s_ask (i := 4) (by (conv => lhs; whnf); first | done | exact rfl) (fun e4 => ?_)
    refine s_ask (i := 6) (by (conv => lhs; whnf); first | done | exact rfl) (fun e6 => ?_)
    refine s_ask (i := 45) (by (conv => lhs; whnf); first | done | exact rfl) (fun e45 => ?_)
    refine s_ask (i := 46) (by (conv => lhs; whnf); first | done | exact rfl) (fun e46 => ?_)
    refine s_loop ((fun {xx1 V1 : Value} (_ : xx1 = V1) {xx4 V4 : Value} (_ : xx4 = V4) {xx6 V6 : Value} (_ : xx6 = V6) {xx45 V45 : Value} (_ : xx45 = V45) {xx46 V46 : Value} (_ : xx46 = V46) => (fun ρ' w' => ∃ (k0 : Cx) (j : Nat) (u : Value) (css : List (List Value)) (us : List Ty), Has ρ' [(1, V1), (4, V4), (6, V6), (45, V45), (46, V46), (47, .int .i64 j)] ∧ (cx.Le k0) ∧ (j ≤ l.length) ∧ (us.length = j) ∧ (Tys.ren l to = (Tys.ren (l.drop j) to).map (us ++ ·)) ∧ (tyR.ls k0 css us) ∧ (oneC u = true) ∧ St k0 w' (sl 65 3 u css :: blk p6 65 [.int .i64 k, .int .i64 r2, u] :: blk p4 65 [.int .i64 0, .int .i64 0, .slice none 0 0] :: blk p2 65 [.int .i64 k, .int .i64 r, v] :: L) : Env → World → Prop)) e1 e4 e6 e45 e46) (fun ρ' _ => (l.length - iv (ρ' 47)).toNat) ?_ ?_
    · exact ⟨cx, 0, .slice none 0 0, [], [], ⟨rfl, rfl, rfl, rfl, rfl, rfl, trivial⟩, St.refl hS, (by omega), rfl, by simp, Rep.LR.nil _ _ _, rfl, by have hS := hS.nil (T := 65) (es := 3); exact (hS.subP (by (repeat constructor); first | done | fail))⟩
    dsimp only; clear e1 e4 e6 e45 e46; rintro ρ w1 ⟨k0, j, u, css, us, hρ, hle2, hj, hus, hd, hls, hu, hS⟩; obtain ⟨ρ, rfl⟩ := env_intro _ hρ; have hL0 := hle2; (try have hle := Cx.Le.trans hle hle2); (try have hl := Rep.SR.up hl hle2); ((have hto := Rep.SR.up hto hle2))
    unfold types_Rename_b7
    all_goals (refine s_seq ?_; refine s_ops ?_; refine s_lss_d rfl rfl ?_; refine s_nil ?_; (repeat (first | refine s_then ?_ | refine s_blockN ?_)); refine s_seq ?_)
    refine s_cond_d rfl (fun hc => ?_) (fun hc => ?_)
    · skip
      all_goals (refine s_skip ?_; (repeat (first | refine s_then ?_ | refine s_blockN ?_)); refine s_seq ?_; refine s_block ?_; refine s_seq ?_; refine s_ops ?_; (refine s_idxLn (by (conv => lhs; whnf); first | done | exact rfl) rfl (by assumption) rfl (by omega) ?_); intro b3 o3 cs3 x3 hat3 hx3 he3; ((obtain ⟨vl3, rfl, hl3⟩ := tyR_out he3)); (first | (refine s_loadnB hS rfl (NthP.nth (by repeat constructor)) rfl rfl ?_) | (refine s_loadnK hS (by assumption) rfl rfl ?_)); refine s_allocB hS ?_; (intro p8 w1 hS); ((refine s_storenF hS rfl rfl (by rfl) (NthP.nth (by repeat constructor)) (by rfl) (by first | (simp [oneC]; done) | assumption | exact Rep.one _ (by assumption)) ?_; intro w1 hS; simp only [List.set_cons_zero, List.set_cons_succ] at hS)))
      all_goals (refine s_nil ?_; (repeat (first | refine s_then ?_ | refine s_blockN ?_)); refine s_seq ?_; refine s_ops ?_; ((refine s_loadnB hS rfl (NthP.nth (by repeat constructor)) rfl rfl ?_)); refine s_mov (by (conv => lhs; whnf); first | done | exact rfl) ?_)
      all_goals (refine s_rets_2 (by (conv => lhs; whnf); first | done | exact rfl) (by (conv => lhs; whnf); first | done | exact rfl) (ih _ (List.mem_of_getElem? hx3) (hsub _ (List.mem_of_getElem? hx3)) he3 hto hS) ?_; rintro v1 w1 ⟨c1, ds, rfl, hle2, hd1, hS⟩; obtain ⟨y, hy⟩ : ∃ y, (x3.ren to).getD (.mk 0 0 []) = y := ⟨_, rfl⟩; rw [hy] at hd1; obtain ⟨v7, rfl, hv7⟩ := tyR_out hd1; (try have hle := Cx.Le.trans hle hle2); (try have hL0 := Cx.Le.trans hL0 hle2); (try have hl := Rep.SR.up hl hle2); (try have hl3 := Rep.SR.up hl3 hle2); (try have he3 := Rep.R.up he3 hle2); (try have hls := Rep.LR.up hls hle2); ((have hto := Rep.SR.up hto hle2)); cases hg : x3.ren to)
      all_goals (refine s_mov (by (conv => lhs; whnf); first | done | exact rfl) ?_; refine s_ext rfl rfl ?_; refine s_ext rfl rfl ?_; refine s_allocB hS ?_; (intro p9 w1 hS); ((refine s_storenF hS rfl rfl (by rfl) (NthP.nth (by repeat constructor)) (by rfl) (by first | (simp [oneC]; done) | assumption | exact Rep.one _ (by assumption)) ?_; intro w1 hS; simp only [List.set_cons_zero, List.set_cons_succ] at hS)); refine s_mov (by (conv => lhs; whnf); first | done | exact rfl) ?_; refine s_nil ?_; (repeat (first | refine s_then ?_ | refine s_blockN ?_)); refine s_seq ?_; refine s_seq ?_; refine s_ops ?_; refine s_mov (by (conv => lhs; whnf); first | done | exact rfl) ?_)
      all_goals (refine s_not rfl ?_; refine s_nil ?_; (repeat (first | refine s_then ?_ | refine s_blockN ?_)))
      all_goals
        first
        | (refine s_cond_t rfl ?_ -- types_Rename c3
           all_goals (refine s_seq ?_; refine s_ops ?_; refine s_build0 (cs := [_, _, _]) (by rfl) ?_; ((refine s_storenF hS rfl rfl (by rfl) (NthP.nth (by repeat constructor)) (by rfl) (by (simp [oneC]; done)) ?_; intro w1 hS; simp only [List.set_cons_zero, List.set_cons_succ] at hS)); refine s_mov (by (conv => lhs; whnf); first | done | exact rfl) ?_; refine s_nil ?_; (repeat (first | refine s_then ?_ | refine s_blockN ?_)); refine s_ret ?_; (repeat (first | refine s_retT ?_ | refine s_retB ?_)); refine q_retc1 (by (conv => lhs; whnf); first | done | exact rfl) (holds_blk (n := 3) (by kernel_rfl) (by kernel_rfl) (hS.blkAt (NthP.nth (by repeat constructor))) (by rfl) (by rfl)) (by (conv => lhs; whnf); first | done | exact rfl) ?_)
           all_goals (first | (rw [ren_lo (by omega)]; exact ⟨_, rfl, _, _, rfl, hle, tyR_mk (Rep.SR.nil _ _ _), (hS.subP (by (repeat constructor); first | done | fail))⟩) | (rw [ren_neg (by omega) hx1 (by omega)]; exact ⟨_, rfl, _, _, rfl, hle, tyR_mk (Rep.SR.nil _ _ _), (hS.subP (by (repeat constructor); first | done | fail))⟩) | (rw [hr, rens_none hd hx3 hg]; exact ⟨_, rfl, _, _, rfl, hle, tyR_mk (Rep.SR.nil _ _ _), (hS.subP (by (repeat constructor); first | done | fail))⟩)))
        | (refine s_cond_f rfl ?_ -- types_Rename c3
           all_goals (refine s_skip ?_; (repeat (first | refine s_then ?_ | refine s_blockN ?_))))
      all_goals (refine s_ops ?_; (refine s_fld0 rfl ?_); ((refine s_loadB hS rfl (NthP.nth (by repeat constructor)) rfl ?_)); ((refine s_loadnB hS rfl (NthP.nth (by repeat constructor)) rfl rfl ?_)); refine s_buildS1 (cs := [_, _, _]) (by (conv => lhs; whnf); first | done | exact rfl) (by rfl) ?_; intro b1 w1 hb1 hf1 _ hk1; have hS := hS.laid hb1 hf1 hk1; ((refine s_appR1 el_T28 u_T28 hS (by (conv => lhs; whnf); first | done | exact rfl) (by (conv => lhs; whnf); first | done | exact rfl) (NthP.nth (by repeat constructor)) (NthP.nth (by repeat constructor)) (by assumption) (by assumption) rfl (by omega) ?_; intro vp1 w1 css1 hls1 hv1 hS; simp only [List.set_cons_zero, List.set_cons_succ] at hS)))
      all_goals ((refine s_fld0 rfl ?_); refine s_storeB hS rfl (by (conv => lhs; whnf); first | done | exact rfl) (NthP.nth (by repeat constructor)) (by simp) (by first | rfl | assumption) ?_; intro w1 hS; simp only [List.set_cons_zero, List.set_cons_succ] at hS; refine s_nil ?_; (repeat (first | refine s_then ?_ | refine s_blockN ?_)); refine s_ops ?_; ((refine s_add rfl rfl (by omega) (by omega) ?_)); refine s_mov (by (conv => lhs; whnf); first | done | exact rfl) ?_; refine s_nil ?_; (repeat (first | refine s_then ?_ | refine s_blockN ?_)); ((exact ⟨⟨_, j + 1, _, _, us ++ [y], ⟨rfl, rfl, rfl, rfl, rfl, rfl, trivial⟩, hL0, (by omega), by simp [hus], rens_some hd hx3 (by rw [hg, ← hy, hg]; rfl), by assumption, by assumption, (hS.subP (by (repeat constructor); first | done | fail))⟩, meas_lt (by omega)⟩)))
    · skip
      all_goals (refine s_exit ?_; (repeat (first | refine s_exitQ ?_ | refine s_exitT ?_ | refine s_exitB rfl ?_ | refine s_then ?_ | refine s_blockN ?_)); refine s_seq ?_; refine s_ops ?_; ((refine s_loadnB hS rfl (NthP.nth (by repeat constructor)) rfl rfl ?_)); ((refine s_storenF hS rfl rfl (by rfl) (NthP.nth (by repeat constructor)) (by rfl) (by first | (simp [oneC]; done) | assumption | exact Rep.one _ (by assumption) | (simp only [List.take_succ_cons, List.take_zero, List.drop_zero, List.mem_cons, List.not_mem_nil, or_false, forall_eq_or_imp, forall_eq]; ((try refine And.intro ?_ ?_) <;> try refine And.intro ?_ ?_) <;> first | rfl | assumption)) ?_; intro w1 hS; simp only [List.set_cons_zero, List.set_cons_succ] at hS)); refine s_mov (by (conv => lhs; whnf); first | done | exact rfl) ?_)
      all_goals (refine s_nil ?_; (repeat (first | refine s_then ?_ | refine s_blockN ?_)); refine s_ret ?_; (repeat (first | refine s_retT ?_ | refine s_retB ?_)); refine q_retc1 (by (conv => lhs; whnf); first | done | exact rfl) (holds_blk (n := 3) (by kernel_rfl) (by kernel_rfl) (hS.blkAt (NthP.nth (by repeat constructor))) (by rfl) (by rfl)) (by (conv => lhs; whnf); first | done | exact rfl) ?_; (first | (rw [ren_lo (by omega)]; exact ⟨_, rfl, _, _, rfl, hle, tyR_mk (Rep.SR.nil _ _ _), (hS.subP (by (repeat constructor); first | done | fail))⟩) | (rw [ren_neg (by omega) hx1 (by omega)]; exact ⟨_, rfl, _, _, rfl, hle, tyR_mk (Rep.SR.nil _ _ _), (hS.subP (by (repeat constructor); first | done | fail))⟩) | (rw [hr, rens_none hd hx3 hg]; exact ⟨_, rfl, _, _, rfl, hle, tyR_mk (Rep.SR.nil _ _ _), (hS.subP (by (repeat constructor); first | done | fail))⟩) | (rw [hr, rens_all hd (by omega)]; obtain ⟨c3, hle3, hS, hl3⟩ := St.freezeL (r := tyR) (l := us) (T := 65) (es := 3) (v := u) (css := css) (L := L) (hS.subP (by (repeat constructor); first | done | fail)) hls rfl (by omega); exact ⟨_, rfl, c3, _, rfl, hle.trans hle3, tyR_mk hl3, hS⟩)))
end Go.Proofs.Ytanlkfeogoganaa
