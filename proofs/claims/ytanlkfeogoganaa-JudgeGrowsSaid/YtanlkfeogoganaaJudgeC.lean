/- The judge: what gives up is caught; instructions and ends as they are asked for (contracts). -/
import Derived.Test.YtanlkfeogoganaaJudgeE
namespace Go.Proofs.Ytanlkfeogoganaa
open Go.Lir
set_option maxHeartbeats 1000000
attribute [local irreducible] LC.wp opsWp thenQ blockQ retQ resWp LO.wp callPost Calls
set_option linter.unusedSimpArgs false
set_option linter.unusedVariables false
attribute [local irreducible] hasB heldL passGo heldTo keptB upTo
variable {cx : Cx} {w : World} {L : List Res} {j : JP} {h : List Bool} {vl : Value} {css : List (List Value)} {i : Nat} {m : Module}
theorem caught1_n {p : Nat} {n : Int} (hS : St cx w (blk p 3 [.int .i64 n] :: L)) : Defs Try.prog judge_caught_1 [.pointer (some ⟨p, 0, none⟩)] .returning w fun u' w' => u' = .returning ∧ St cx w' (blk p 3 [.int .i64 n] :: L) := by
  unfold Defs
  all_goals refine judge_caught_1_inR ?_
  all_goals (unfold judge_caught_1_ld; refine r_seq ?_; refine r_sp ?_; refine s_nil ?_; (repeat (first | refine s_then ?_ | refine s_blockN ?_)); refine s_mov (by (conv => lhs; whnf); first | done | exact rfl) ?_; refine s_nil ?_; (repeat (first | refine s_then ?_ | refine s_blockN ?_)); refine r_pl ?_; refine s_seq ?_; refine s_ops ?_; refine s_mov (by (conv => lhs; whnf); first | done | exact rfl) ?_; refine s_inil_f (ms := #[]) (by kernel_rfl) rfl ?_; refine s_nil ?_; (repeat (first | refine s_then ?_ | refine s_blockN ?_)))
  all_goals refine s_cond_f rfl ?_
  all_goals (refine s_skip ?_; (repeat (first | refine s_then ?_ | refine s_blockN ?_)); refine q_endR ?_; refine q_end0 ?_; exact ⟨⟨_, rfl⟩, rfl, (hS.subP (by (repeat constructor); first | done | fail))⟩)
theorem caught1_p {p : Nat} {n e : Int} (hS : St cx w (blk p 3 [.int .i64 n] :: L)) : Defs Try.prog judge_caught_1 [.pointer (some ⟨p, 0, none⟩)] (.panicking [{ v := goneV e, recovered := false }]) w fun u' w' => u' = .panicking [{ v := goneV e, recovered := true }] ∧ St cx w' (blk p 3 [.int .i64 e] :: L) := by
  unfold Defs
  all_goals refine judge_caught_1_inR ?_
  all_goals (unfold judge_caught_1_ld; refine r_seq ?_; refine r_sp ?_; refine s_nil ?_; (repeat (first | refine s_then ?_ | refine s_blockN ?_)); refine s_mov (by (conv => lhs; whnf); first | done | exact rfl) ?_; refine s_nil ?_; (repeat (first | refine s_then ?_ | refine s_blockN ?_)); refine r_pl ?_; refine s_seq ?_; refine s_ops ?_; refine s_mov (by (conv => lhs; whnf); first | done | exact rfl) ?_; refine s_inil_t (ms := #[]) (by kernel_rfl) rfl ?_; refine s_nil ?_; (repeat (first | refine s_then ?_ | refine s_blockN ?_)))
  all_goals refine s_cond_t rfl ?_
  all_goals (refine s_seq ?_; refine s_ops ?_; refine s_mov (by (conv => lhs; whnf); first | done | exact rfl) ?_; refine s_assert (D := .int .i64) (by kernel_rfl) (by intro m; exact TypeDesc.noConfusion) rfl ?_; refine s_mov (by (conv => lhs; whnf); first | done | exact rfl) ?_; refine s_ext rfl rfl ?_; refine s_ext rfl rfl ?_; refine s_mov (by (conv => lhs; whnf); first | done | exact rfl) ?_; refine s_mov (by (conv => lhs; whnf); first | done | exact rfl) ?_; refine s_nil ?_; (repeat (first | refine s_then ?_ | refine s_blockN ?_)); refine s_seq ?_; refine s_seq ?_; refine s_ops ?_; refine s_mov (by (conv => lhs; whnf); first | done | exact rfl) ?_; refine s_not rfl ?_; refine s_nil ?_; (repeat (first | refine s_then ?_ | refine s_blockN ?_)))
  all_goals refine s_cond_f rfl ?_
  all_goals (refine s_skip ?_; (repeat (first | refine s_then ?_ | refine s_blockN ?_)); refine s_ops ?_; refine s_mov (by (conv => lhs; whnf); first | done | exact rfl) ?_; refine s_storeB hS rfl (by (conv => lhs; whnf); first | done | exact rfl) (NthP.nth (by repeat constructor)) (by simp) (by rfl) ?_; intro w1 hS; simp only [List.set_cons_zero, List.set_cons_succ] at hS; refine s_nil ?_; (repeat (first | refine s_then ?_ | refine s_blockN ?_)); refine q_endR ?_; refine q_end0 ?_; exact ⟨⟨_, rfl⟩, rfl, (hS.subP (by (repeat constructor); first | done | fail))⟩)
theorem caught_c {f : FuncId} {cap : List Value} {X : Cx → List Res → Prop} {Y : Int → Cx → List Res → Prop} (hf : goFunc Try.prog f = true)
    (hc : ∀ (p : Nat) (w : World), St cx w (blk p 3 [.int .i64 0] :: L) → Fins Try.prog f cap w (fun _ w' => ∃ c' L', cx.Le c' ∧ St c' w' (blk p 3 [.int .i64 0] :: L') ∧ X c' L') (fun u w' => ∃ e c' L', u = goneV e ∧ cx.Le c' ∧ St c' w' (blk p 3 [.int .i64 0] :: L') ∧ Y e c' L')) (hS : St cx w L) :
    Rets Try.prog judge_caught [.func (.func f) #[] ⟨cap⟩] w fun u w' => ∃ e c' L', u = .int .i64 e ∧ cx.Le c' ∧ St c' w' L' ∧ (e = 0 ∧ X c' L' ∨ Y e c' L') := by
  all_goals refine judge_caught_in ?_
  all_goals (unfold judge_caught_ld; refine d_seq ?_; refine d_pl ?_; refine s_ops ?_; refine s_allocB hS ?_; (intro p2 w1 hS); refine s_nil ?_; (repeat (first | refine s_then ?_ | refine s_blockN ?_)); refine d_seq ?_; refine d_sp ?_; refine s_mkfn ?_; refine s_nil ?_; (repeat (first | refine s_then ?_ | refine s_blockN ?_)); refine ⟨_, _, rfl, ?_⟩; refine s_nil ?_; (repeat (first | refine s_then ?_ | refine s_blockN ?_)); refine d_pl ?_; refine s_seq ?_; refine s_ops ?_; refine s_mov (by (conv => lhs; whnf); first | done | exact rfl) ?_)
  all_goals (refine s_endsv rfl hf rfl (hc _ _ hS) (by rintro v9 w9 ⟨e, c1, L1, rfl, hle, hS, hY⟩; (repeat (first | refine s_panT ?_ | refine s_panB ?_)); refine q_panD ?_; refine leave_one (by intro h; cases h) (by kernel_rfl) (caught1_p hS) ?_; rintro u' w' ⟨rfl, hS⟩; refine leaves_ret ?_; refine q_retc (by (conv => lhs; whnf); first | done | exact rfl) (holds_cell (by kernel_rfl) (hS.blkAt nth0) rfl) ?_; exact ⟨_, rfl, e, c1, L1, rfl, hle, hS.drop, .inr hY⟩) ?_; rintro v1 w1 ⟨c1, L1, hle, hS, hX⟩)
  all_goals (refine s_nil ?_; (repeat (first | refine s_then ?_ | refine s_blockN ?_)); refine s_seq ?_; refine s_ops ?_; refine s_storeB hS rfl (by (conv => lhs; whnf); first | done | exact rfl) (NthP.nth (by repeat constructor)) (by simp) (by rfl) ?_; intro w1 hS; simp only [List.set_cons_zero, List.set_cons_succ] at hS; refine s_nil ?_; (repeat (first | refine s_then ?_ | refine s_blockN ?_)); refine s_ret ?_; (repeat (first | refine s_retT ?_ | refine s_retB ?_)))
  all_goals (refine q_retD ?_; refine leave_one (by intro h; cases h) (by kernel_rfl) (caught1_n hS) ?_; rintro u1 w1 ⟨rfl, hS⟩; refine leaves_ret ?_)
  all_goals (refine q_retc (by (conv => lhs; whnf); first | done | exact rfl) (holds_cell (by kernel_rfl) (hS.blkAt (NthP.nth (by repeat constructor))) rfl) ?_; ((exact ⟨_, rfl, 0, c1, L1, rfl, hle, hS.drop, .inl ⟨rfl, hX⟩⟩)))
theorem jins1_c {s : JS} {x : Ins} {cs : List Value} {p pa pb : Nat} (hm : m.Short) (hF : insForm m.funcs.length x = 0) (hn : s.l.length ≤ 80) (hh : s.h.length ≤ 16) (hj : j.Fits cx m) (hx : insR.at cx cs x) (hls : tyR.ls cx css s.l)
    (hS : St cx w (blk p 3 [.int .i64 0] :: blk pb 27 cs :: blk pa 59 [.pointer (some ⟨j.sp, 0, none⟩)] :: j.res s.h vl css :: L)) :
    Fins Try.prog judge_State_Ins_1 [.pointer (some ⟨pa, 0, none⟩), .pointer (some ⟨pb, 0, none⟩)] w
      (fun _ w' => ∃ c' L', cx.Le c' ∧ St c' w' (blk p 3 [.int .i64 0] :: L') ∧ ∃ s' vl' css', jins m j.f s x = .ok s' ∧ tyR.ls c' css' s'.l ∧ L' = blk pb 27 cs :: blk pa 59 [.pointer (some ⟨j.sp, 0, none⟩)] :: j.res s'.h vl' css' :: L)
      (fun u w' => ∃ e c' L', u = goneV e ∧ cx.Le c' ∧ St c' w' (blk p 3 [.int .i64 0] :: L') ∧ jins m j.f s x = .error e ∧ c' = cx ∧ L' = blk pb 27 cs :: blk pa 59 [.pointer (some ⟨j.sp, 0, none⟩)] :: j.res s.h vl css :: L) := by
  have hx' := hx
  obtain ⟨vr, va, rfl, hr, ha⟩ := insR_out hx
  unfold Fins
  all_goals refine judge_State_Ins_1_in ?_
  all_goals (unfold judge_State_Ins_1_lc; refine s_ops ?_; ((refine s_loadB hS rfl (NthP.nth (by repeat constructor)) rfl ?_)); ((refine s_loadnB hS rfl (NthP.nth (by repeat constructor)) rfl rfl ?_)); refine s_ends_2 (by (conv => lhs; whnf); first | done | exact rfl) (by (conv => lhs; whnf); first | done | exact rfl) (jins_c hm hF hn hh hj hx' hls hS (NthP.nth (by repeat constructor))) (by rintro v9 w9 ⟨c, g1, rfl, hS⟩; (repeat (first | refine s_panT ?_ | refine s_panB ?_ | refine fun _ => ?_)); refine q_pan ?_; refine .inr ⟨_, rfl, ?_⟩; exact ⟨c, cx, _, rfl, St.refl hS, hS, g1, rfl, rfl⟩) ?_; rintro v1 w1 ⟨rfl, c1, s1, vl4, cs4, hle, hr1, hls4, hS⟩; simp only [List.set_cons_zero, List.set_cons_succ] at hS; refine s_nil ?_; (repeat (first | refine s_then ?_ | refine s_blockN ?_)); refine q_end0 ?_; exact .inl ⟨_, rfl, c1, _, hle, hS, s1, vl4, cs4, hr1, hls4, rfl⟩)
theorem jIns_c {s : JS} {x : Ins} {cs : List Value} (hm : m.Short) (hn : s.l.length ≤ 80) (hh : s.h.length ≤ 16) (hj : j.Fits cx m) (hx : insR.at cx cs x) (hls : tyR.ls cx css s.l) (hS : St cx w L) (hi : nth L i = some (j.res s.h vl css)) :
    Rets Try.prog judge_State_Ins [.pointer (some ⟨j.sp, 0, none⟩), .agg ⟨cs⟩] w fun u w' => u = .int .i64 (jIns m j.f s x).1 ∧ ∃ c' vl' css', cx.Le c' ∧ tyR.ls c' css' (jIns m j.f s x).2.l ∧ St c' w' (L.set i (j.res (jIns m j.f s x).2.h vl' css')) := by
  have hS := hS.out hi
  have hx' := hx
  obtain ⟨vr, va, rfl, hr, ha⟩ := insR_out hx
  unfold jIns
  all_goals refine judge_State_Ins_in ?_
  all_goals (unfold judge_State_Ins_lc; refine s_seq ?_; refine s_ops ?_; refine s_boxB hS (by (conv => lhs; whnf); first | done | exact rfl) (by rfl) ?_; (intro p2 w1 hS); refine s_boxB hS (by (conv => lhs; whnf); first | done | exact rfl) (by rfl) ?_; (intro p3 w1 hS); refine s_mov (by (conv => lhs; whnf); first | done | exact rfl) ?_; refine s_nil ?_; (repeat (first | refine s_then ?_ | refine s_blockN ?_)); refine s_seq ?_; refine s_seq ?_; refine s_draw [(0, none), (1, none), (2, none), (3, none), (4, none), (5, some none), (6, some none)] (by kernel_rfl) (by kernel_rfl) ?_; have hS := hS.drew; (first | (refine s_loadJ hS rfl (NthP.nth (by repeat constructor)) rfl ?_) | (refine s_loadB hS rfl (NthP.nth (by repeat constructor)) rfl ?_)); refine s_nilc rfl ?_; (refine s_fld0 rfl ?_); ((refine s_loadnJ hS rfl (NthP.nth (by repeat constructor)) rfl rfl ?_)); (first | (refine s_loadnJ hS rfl (NthP.nth (by repeat constructor)) rfl rfl ?_) | (refine s_loadnB hS rfl (NthP.nth (by repeat constructor)) rfl rfl ?_)))
  all_goals (refine s_rets_2 (by (conv => lhs; whnf); first | done | exact rfl) (by (conv => lhs; whnf); first | done | exact rfl) (pins_c (m := m) ⟨_, rfl, hj.m⟩ hx' hS) ?_; rintro v1 w1 ⟨rfl, hS⟩; refine s_mov (by (conv => lhs; whnf); first | done | exact rfl) ?_; refine s_nil ?_; (repeat (first | refine s_then ?_ | refine s_blockN ?_)); refine s_seq ?_; refine s_ops ?_; refine s_mov (by (conv => lhs; whnf); first | done | exact rfl) ?_)
  all_goals (first | (refine s_neq_t rfl rfl (by omega) ?_) | (refine s_neq_f rfl rfl (by omega) ?_) | (refine s_neq_s rfl rfl (fun hc => ?_) (fun hc => ?_)))
  all_goals (refine s_nil ?_; (repeat (first | refine s_then ?_ | refine s_blockN ?_)))
  all_goals
    first
    | (refine s_cond_t rfl ?_ -- judge_State_Ins c0
       all_goals (refine s_seq ?_; refine s_ops ?_; refine s_mov (by (conv => lhs; whnf); first | done | exact rfl) ?_; refine s_mov (by (conv => lhs; whnf); first | done | exact rfl) ?_; refine s_nil ?_; (repeat (first | refine s_then ?_ | refine s_blockN ?_)); refine s_ret ?_; (repeat (first | refine s_retT ?_ | refine s_retB ?_)); refine q_ret1 (by (conv => lhs; whnf); first | done | exact rfl) ?_)
       all_goals ((exact ⟨_, rfl, by rw [if_pos (by omega)], cx, vl, css, St.refl hS, by rw [if_pos (by omega)]; exact hls, by rw [if_pos (by omega)]; exact (St.back (hS.subP (by (repeat constructor); first | done | fail)) hi)⟩)))
    | (refine s_cond_f rfl ?_ -- judge_State_Ins c0
       all_goals (refine s_skip ?_; (repeat (first | refine s_then ?_ | refine s_blockN ?_))))
  all_goals (refine s_seq ?_; refine s_ops ?_; refine s_mkfn ?_)
  all_goals (refine s_rets_1 (by (conv => lhs; whnf); first | done | exact rfl) (caught_c (by kernel_rfl) (fun p w hS => jins1_c (s := s) hm (by omega) hn hh hj hx' hls hS) (hS.subP (by (repeat constructor); first | done | fail))) ?_; rintro v1 w1 ⟨e, c1, L1, rfl, hle, hS, ⟨rfl, s1, vl4, cs4, hr1, hls4, rfl⟩ | ⟨hr1, rfl, rfl⟩⟩)
  all_goals (refine s_mov (by (conv => lhs; whnf); first | done | exact rfl) ?_; refine s_nil ?_; (repeat (first | refine s_then ?_ | refine s_blockN ?_)); refine s_ret ?_; (repeat (first | refine s_retT ?_ | refine s_retB ?_)); refine q_ret1 (by (conv => lhs; whnf); first | done | exact rfl) ?_; (first | (exact ⟨_, rfl, by rw [if_pos (by omega)], cx, vl, css, St.refl hS, by rw [if_pos (by omega)]; exact hls, by rw [if_pos (by omega)]; exact (St.back (hS.subP (by (repeat constructor); first | done | fail)) hi)⟩) | (exact ⟨_, rfl, by rw [if_neg (by omega), hr1], c1, vl4, cs4, hle, by rw [if_neg (by omega), hr1]; exact hls4, by rw [if_neg (by omega), hr1]; exact (St.back (hS.subP (by (repeat constructor); first | done | fail)) hi)⟩) | (exact ⟨_, rfl, by rw [if_neg (by omega), hr1], _, vl, css, St.refl hS, by rw [if_neg (by omega), hr1]; exact hls, by rw [if_neg (by omega), hr1]; exact (St.back (hS.subP (by (repeat constructor); first | done | fail)) hi)⟩)))
theorem jend1_c {s : JS} {x : Tail} {cs : List Value} {p pa pb : Nat} (hsf : j.f.Short) (hF : endForm j.f.blocks.length x = 0) (hfb : ∀ b ∈ j.f.blocks, j.f.regs ≤ b.regs) (hfr : j.f.regs ≤ 100000) (hh : s.h.length ≤ 16) (hj : j.Fits cx m) (hx : endR.at cx cs x) (hls : tyR.ls cx css s.l)
    (hS : St cx w (blk p 3 [.int .i64 0] :: blk pb 35 cs :: blk pa 59 [.pointer (some ⟨j.sp, 0, none⟩)] :: j.res s.h vl css :: L)) :
    Fins Try.prog judge_State_End_1 [.pointer (some ⟨pa, 0, none⟩), .pointer (some ⟨pb, 0, none⟩)] w
      (fun _ w' => ∃ c' L', cx.Le c' ∧ St c' w' (blk p 3 [.int .i64 0] :: L') ∧ jend j.f s x = .ok () ∧ c' = cx ∧ L' = blk pb 35 cs :: blk pa 59 [.pointer (some ⟨j.sp, 0, none⟩)] :: j.res s.h vl css :: L)
      (fun u w' => ∃ e c' L', u = goneV e ∧ cx.Le c' ∧ St c' w' (blk p 3 [.int .i64 0] :: L') ∧ jend j.f s x = .error e ∧ c' = cx ∧ L' = blk pb 35 cs :: blk pa 59 [.pointer (some ⟨j.sp, 0, none⟩)] :: j.res s.h vl css :: L) := by
  have hx' := hx
  obtain ⟨u1, u2, u3, u4, u5, rfl, h1, h2, h3, h4, h5⟩ := endR_out hx
  unfold Fins
  all_goals refine judge_State_End_1_in ?_
  all_goals (unfold judge_State_End_1_lc; refine s_ops ?_; ((refine s_loadB hS rfl (NthP.nth (by repeat constructor)) rfl ?_)); ((refine s_loadnB hS rfl (NthP.nth (by repeat constructor)) rfl rfl ?_)); refine s_ends_2 (by (conv => lhs; whnf); first | done | exact rfl) (by (conv => lhs; whnf); first | done | exact rfl) (jend_c hsf hF hfb hfr hh hj hx' hls hS (NthP.nth (by repeat constructor))) (by rintro v9 w9 ⟨c, g1, rfl, hS⟩; (repeat (first | refine s_panT ?_ | refine s_panB ?_ | refine fun _ => ?_)); refine q_pan ?_; refine .inr ⟨_, rfl, ?_⟩; exact ⟨c, cx, _, rfl, St.refl hS, hS, g1, rfl, rfl⟩) ?_; rintro v1 w1 ⟨hr1, rfl, hS⟩; refine s_nil ?_; (repeat (first | refine s_then ?_ | refine s_blockN ?_)); refine q_end0 ?_; exact .inl ⟨_, rfl, cx, _, St.refl hS, hS, hr1, rfl, rfl⟩)
theorem jEnd_c {s : JS} {x : Tail} {cs : List Value} (hsf : j.f.Short) (hfb : ∀ b ∈ j.f.blocks, j.f.regs ≤ b.regs) (hfr : j.f.regs ≤ 100000) (hh : s.h.length ≤ 16) (hj : j.Fits cx m) (hx : endR.at cx cs x) (hls : tyR.ls cx css s.l) (hS : St cx w L) (hi : nth L i = some (j.res s.h vl css)) :
    Rets Try.prog judge_State_End [.pointer (some ⟨j.sp, 0, none⟩), .agg ⟨cs⟩] w fun u w' => u = .int .i64 (jEnd j.f s x) ∧ St cx w' L := by
  have hS := hS.out hi
  have hx' := hx
  obtain ⟨u1, u2, u3, u4, u5, rfl, h1, h2, h3, h4, h5⟩ := endR_out hx
  unfold jEnd
  all_goals refine judge_State_End_in ?_
  all_goals (unfold judge_State_End_lc; refine s_seq ?_; refine s_ops ?_; refine s_boxB hS (by (conv => lhs; whnf); first | done | exact rfl) (by rfl) ?_; (intro p2 w1 hS); refine s_boxB hS (by (conv => lhs; whnf); first | done | exact rfl) (by rfl) ?_; (intro p3 w1 hS); refine s_mov (by (conv => lhs; whnf); first | done | exact rfl) ?_; refine s_nil ?_; (repeat (first | refine s_then ?_ | refine s_blockN ?_)); refine s_seq ?_; refine s_seq ?_; refine s_draw [(0, none), (1, none), (2, none), (3, none), (4, none), (5, some none), (6, some none)] (by kernel_rfl) (by kernel_rfl) ?_; have hS := hS.drew; (first | (refine s_loadJ hS rfl (NthP.nth (by repeat constructor)) rfl ?_) | (refine s_loadB hS rfl (NthP.nth (by repeat constructor)) rfl ?_)); refine s_nilc rfl ?_; (refine s_fld0 rfl ?_); ((refine s_loadnJ hS rfl (NthP.nth (by repeat constructor)) rfl rfl ?_)); (first | (refine s_loadnJ hS rfl (NthP.nth (by repeat constructor)) rfl rfl ?_) | (refine s_loadnB hS rfl (NthP.nth (by repeat constructor)) rfl rfl ?_)))
  all_goals (refine s_rets_2 (by (conv => lhs; whnf); first | done | exact rfl) (by (conv => lhs; whnf); first | done | exact rfl) (pend_c (x := j.f) ⟨_, _, _, rfl, hj.p, hj.r, hj.b⟩ hx' hS) ?_; rintro v1 w1 ⟨rfl, hS⟩; refine s_mov (by (conv => lhs; whnf); first | done | exact rfl) ?_; refine s_nil ?_; (repeat (first | refine s_then ?_ | refine s_blockN ?_)); refine s_seq ?_; refine s_ops ?_; refine s_mov (by (conv => lhs; whnf); first | done | exact rfl) ?_)
  all_goals (first | (refine s_neq_t rfl rfl (by omega) ?_) | (refine s_neq_f rfl rfl (by omega) ?_) | (refine s_neq_s rfl rfl (fun hc => ?_) (fun hc => ?_)))
  all_goals (refine s_nil ?_; (repeat (first | refine s_then ?_ | refine s_blockN ?_)))
  all_goals
    first
    | (refine s_cond_t rfl ?_ -- judge_State_End c0
       all_goals (refine s_seq ?_; refine s_ops ?_; refine s_mov (by (conv => lhs; whnf); first | done | exact rfl) ?_; refine s_mov (by (conv => lhs; whnf); first | done | exact rfl) ?_; refine s_nil ?_; (repeat (first | refine s_then ?_ | refine s_blockN ?_)); refine s_ret ?_; (repeat (first | refine s_retT ?_ | refine s_retB ?_)); refine q_ret1 (by (conv => lhs; whnf); first | done | exact rfl) ?_)
       all_goals ((exact ⟨_, rfl, by rw [if_pos (by omega)], (St.back0 (hS.subP (by (repeat constructor); first | done | fail)) hi)⟩)))
    | (refine s_cond_f rfl ?_ -- judge_State_End c0
       all_goals (refine s_skip ?_; (repeat (first | refine s_then ?_ | refine s_blockN ?_))))
  all_goals (refine s_seq ?_; refine s_ops ?_; refine s_mkfn ?_)
  all_goals (refine s_rets_1 (by (conv => lhs; whnf); first | done | exact rfl) (caught_c (by kernel_rfl) (fun p w hS => jend1_c (s := s) hsf (by omega) hfb hfr hh hj hx' hls hS) (hS.subP (by (repeat constructor); first | done | fail))) ?_; rintro v1 w1 ⟨e, c1, L1, rfl, hle, hS, ⟨rfl, hr1, rfl, rfl⟩ | ⟨hr1, rfl, rfl⟩⟩)
  all_goals (refine s_mov (by (conv => lhs; whnf); first | done | exact rfl) ?_; refine s_nil ?_; (repeat (first | refine s_then ?_ | refine s_blockN ?_)); refine s_ret ?_; (repeat (first | refine s_retT ?_ | refine s_retB ?_)); refine q_ret1 (by (conv => lhs; whnf); first | done | exact rfl) ?_; (first | (exact ⟨_, rfl, by rw [if_pos (by omega)], (St.back0 (hS.subP (by (repeat constructor); first | done | fail)) hi)⟩) | (exact ⟨_, rfl, by rw [if_neg (by omega), hr1], (St.back0 (hS.subP (by (repeat constructor); first | done | fail)) hi)⟩)))
end Go.Proofs.Ytanlkfeogoganaa
