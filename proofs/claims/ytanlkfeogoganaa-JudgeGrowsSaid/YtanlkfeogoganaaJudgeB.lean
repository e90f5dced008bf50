/- The judge at the least module (contract). -/
import Derived.Test.YtanlkfeogoganaaJudgeN
import Derived.Test.YtanlkfeogoganaaLeastW
namespace Go.Proofs.Ytanlkfeogoganaa
open Go.Lir
set_option maxHeartbeats 1000000
attribute [local irreducible] LC.wp opsWp thenQ blockQ retQ resWp LO.wp callPost Calls
set_option linter.unusedSimpArgs false
set_option linter.unusedVariables false
attribute [local irreducible] hasB heldL passGo heldTo keptB upTo Module.fault jIns jEnd
variable {cx : Cx} {w : World} {L : List Res} {j : JP} {h : List Bool} {vl : Value} {css : List (List Value)} {i : Nat} {m : Module}
def leastF : Fun := ⟨0, [], [], [leastB]⟩
theorem leastM_short : leastM.Short := by
  refine ⟨by decide, fun f hf => ?_⟩
  simp [leastM] at hf; subst hf
  refine ⟨⟨by decide, by simp⟩, ⟨by decide, by simp⟩, by decide, fun b hb => ?_⟩
  simp [leastB] at hb; subst hb
  exact ⟨⟨by decide, by simp⟩, by decide, by simp, ⟨by decide, by decide⟩, ⟨by decide, by decide⟩, by decide⟩
@[reducible] def insK (op : Int) : Ins := ⟨op, 0, 0, 0, 0, 0, [], []⟩
theorem insK_at (c : Cx) (op : Int) : insR.at c [.int .i64 op, .int .i64 0, .int .i64 0, .int .i64 0, .int .i64 0, .int .i64 0, .slice none 0 0, .slice none 0 0] (insK op) := ⟨_, _, rfl, Rep.SR.nil _ _ _, Rep.SR.nil _ _ _⟩
theorem endK_at (c : Cx) (op : Int) : endR.at c [.int .i64 op, .int .i64 0, .int .i64 0, .slice none 0 0, .slice none 0 0, .int .i64 0, .slice none 0 0, .slice none 0 0, .slice none 0 0] ⟨op, 0, ⟨0, [], []⟩, ⟨0, [], []⟩, []⟩ :=
  ⟨_, _, _, _, _, rfl, Rep.SR.nil _ _ _, Rep.SR.nil _ _ _, Rep.SR.nil _ _ _, Rep.SR.nil _ _ _, Rep.SR.nil _ _ _⟩
theorem judgeBegun_c (hS : St cx w L) : Rets Try.prog Law_judgeBegun [] w fun u w' => u = .bool true ∧ St cx w' L := by
  have e1 : leastM.fault = (0, 0) := by decide +kernel
  have i1 : jIns leastM leastF ⟨[], []⟩ (insK 3) = (0, ⟨[true], [.mk 2 0 []]⟩) := by decide +kernel
  have i2 : jIns leastM leastF ⟨[true], [.mk 2 0 []]⟩ (insK 11) = (9, ⟨[true], [.mk 2 0 []]⟩) := by decide +kernel
  have i3 : jIns leastM leastF ⟨[true], [.mk 2 0 []]⟩ (insK 4) = (0, ⟨[false], [.mk 2 0 []]⟩) := by decide +kernel
  have i4 : jIns leastM leastF ⟨[false], [.mk 2 0 []]⟩ (insK 4) = (10, ⟨[false], [.mk 2 0 []]⟩) := by decide +kernel
  have i1a : (jIns leastM leastF ⟨[], []⟩ (insK 3)).1 = 0 := by rw [i1]
  have i1b : (jIns leastM leastF ⟨[], []⟩ (insK 3)).2 = ⟨[true], [.mk 2 0 []]⟩ := by rw [i1]
  have i2a : (jIns leastM leastF ⟨[true], [.mk 2 0 []]⟩ (insK 11)).1 = 9 := by rw [i2]
  have i2b : (jIns leastM leastF ⟨[true], [.mk 2 0 []]⟩ (insK 11)).2 = ⟨[true], [.mk 2 0 []]⟩ := by rw [i2]
  have i3a : (jIns leastM leastF ⟨[true], [.mk 2 0 []]⟩ (insK 4)).1 = 0 := by rw [i3]
  have i3b : (jIns leastM leastF ⟨[true], [.mk 2 0 []]⟩ (insK 4)).2 = ⟨[false], [.mk 2 0 []]⟩ := by rw [i3]
  have i4a : (jIns leastM leastF ⟨[false], [.mk 2 0 []]⟩ (insK 4)).1 = 10 := by rw [i4]
  have i4b : (jIns leastM leastF ⟨[false], [.mk 2 0 []]⟩ (insK 4)).2 = ⟨[false], [.mk 2 0 []]⟩ := by rw [i4]
  have i5 : jEnd leastF ⟨[false], [.mk 2 0 []]⟩ ⟨3, 0, ⟨0, [], []⟩, ⟨0, [], []⟩, []⟩ = 0 := by decide +kernel
  have n0 : ∀ c : Cx, insR.sl c (.slice none 0 0) [] := fun c => Rep.SR.nil _ _ _
  all_goals refine Law_judgeBegun_in ?_
  all_goals (unfold Law_judgeBegun_lc; refine s_seq ?_; refine s_ops ?_; refine s_mov (by (conv => lhs; whnf); first | done | exact rfl) ?_; refine s_nil ?_; (repeat (first | refine s_then ?_ | refine s_blockN ?_)); refine s_seq ?_; refine s_ops ?_; refine s_rets_0 (least_c hS) ?_; rintro v1 w1 ⟨la, lb, rfl, hS⟩; obtain ⟨c1, hle1, hS, hm1⟩ := least_fz (n0 _) hS)
  all_goals (refine s_rets_3 (by (conv => lhs; whnf); first | done | exact rfl) (by (conv => lhs; whnf); first | done | exact rfl) (by (conv => lhs; whnf); first | done | exact rfl) (jNew_c (m := leastM) leastM_short hm1 hS) ?_; rintro v1 w1 (⟨h0, rfl, hS⟩ | ⟨h0, h9, rfl, hS⟩ | ⟨fn, y, j, c2, vl, css, h0, -, -, hfn, hy, rfl, hle2, hj, jf, hls, hS⟩); (exact absurd (by rw [e1]) h0); (exfalso; revert h9; simp [leastM]); (obtain rfl : leastF = fn := Option.some.inj hfn); (obtain rfl : leastB = y := Option.some.inj hy); have hS : St c2 _ (j.res [] vl css :: L) := hS)
  all_goals (refine s_mov (by (conv => lhs; whnf); first | done | exact rfl) ?_; refine s_ext rfl rfl ?_; refine s_ext rfl rfl ?_; refine s_allocB hS ?_; (intro p2 w1 hS); refine s_mov (by (conv => lhs; whnf); first | done | exact rfl) ?_; ((refine s_storenF hS rfl rfl (by rfl) (NthP.nth (by repeat constructor)) (by rfl) (by (simp [oneC]; done)) ?_; intro w1 hS; simp only [List.set_cons_zero, List.set_cons_succ] at hS)); refine s_nil ?_; (repeat (first | refine s_then ?_ | refine s_blockN ?_)); refine s_seq ?_; refine s_seq ?_; refine s_ops ?_; (refine s_fld0 rfl ?_))
  all_goals (((refine s_loadB hS rfl (NthP.nth (by repeat constructor)) rfl ?_)))
  all_goals (first | (refine s_neq_t rfl rfl (by omega) ?_) | (refine s_neq_f rfl rfl (by omega) ?_))
  all_goals (refine s_nil ?_; (repeat (first | refine s_then ?_ | refine s_blockN ?_)))
  all_goals
    first
    | (refine s_cond_t rfl ?_ -- Law_judgeBegun c0
       all_goals (refine s_seq ?_; refine s_ops ?_; refine s_mov (by (conv => lhs; whnf); first | done | exact rfl) ?_; refine s_nil ?_; (repeat (refine s_then ?_)); refine s_ret ?_; (repeat (refine s_retT ?_)); refine q_ret1 (by (conv => lhs; whnf); first | done | exact rfl) ?_)
       all_goals ((exact ⟨_, rfl, rfl, St.weak (hS.subP (by (repeat constructor); first | done | fail)) (hle1.trans (hle2.trans (hle3.trans (hle4.trans (hle5.trans (hle6.trans hle7))))))⟩)))
    | (refine s_cond_f rfl ?_ -- Law_judgeBegun c0
       all_goals (refine s_skip ?_; (repeat (first | refine s_then ?_ | refine s_blockN ?_))))
  all_goals (refine s_seq ?_; refine s_ops ?_; refine s_mov (by (conv => lhs; whnf); first | done | exact rfl) ?_; refine s_build1 (cs := [_, _, _, _, _, _, _, _]) (by (conv => lhs; whnf); first | done | exact rfl) (by rfl) ?_; refine s_rets_2 (by (conv => lhs; whnf); first | done | exact rfl) (by (conv => lhs; whnf); first | done | exact rfl) (jIns_c (m := leastM) (s := ⟨[], []⟩) (x := insK 3) leastM_short (by decide) (by decide) hj (insK_at _ _) hls hS (NthP.nth (by repeat constructor))) ?_; rintro v1 w1 ⟨rfl, c3, vl3, css3, hle3, hls, hS⟩; rw [jf, i1b] at hls hS; rw [jf, i1a]; simp only [List.set_cons_zero, List.set_cons_succ] at hS; have hj := hj.up hle3)
  all_goals ((refine s_eql_t rfl rfl (by omega) ?_))
  all_goals (refine s_mov (by (conv => lhs; whnf); first | done | exact rfl) ?_; (first | refine s_gn rfl rfl ?_ | (refine s_gy rfl ?_; refine s_mov (by (conv => lhs; whnf); first | done | exact rfl) ?_)); (first | refine s_gn rfl rfl ?_ | (refine s_gy rfl ?_; refine s_build1 (cs := [_, _, _, _, _, _, _, _]) (by (conv => lhs; whnf); first | done | exact rfl) (by rfl) ?_)); (first | (refine s_gn rfl rfl ?_) | (refine s_gy rfl ?_; refine s_rets_2 (by (conv => lhs; whnf); first | done | exact rfl) (by (conv => lhs; whnf); first | done | exact rfl) (jIns_c (m := leastM) (s := ⟨[true], [.mk 2 0 []]⟩) (x := insK 11) leastM_short (by decide) (by decide) hj (insK_at _ _) hls hS (NthP.nth (by repeat constructor))) ?_; rintro v1 w1 ⟨rfl, c4, vl4, css4, hle4, hls, hS⟩; rw [jf, i2b] at hls hS; rw [jf, i2a]; simp only [List.set_cons_zero, List.set_cons_succ] at hS; have hj := hj.up hle4)))
  all_goals (first | refine s_gn rfl rfl ?_ | (refine s_gy rfl ?_; ((refine s_eql_t rfl rfl (by omega) ?_))))
  all_goals ((refine s_pick_t rfl (by (conv => lhs; whnf); first | done | exact rfl) ?_); refine s_mov (by (conv => lhs; whnf); first | done | exact rfl) ?_; (first | refine s_gn rfl rfl ?_ | (refine s_gy rfl ?_; refine s_mov (by (conv => lhs; whnf); first | done | exact rfl) ?_)); (first | refine s_gn rfl rfl ?_ | (refine s_gy rfl ?_; refine s_build1 (cs := [_, _, _, _, _, _, _, _]) (by (conv => lhs; whnf); first | done | exact rfl) (by rfl) ?_)); (first | (refine s_gn rfl rfl ?_) | (refine s_gy rfl ?_; refine s_rets_2 (by (conv => lhs; whnf); first | done | exact rfl) (by (conv => lhs; whnf); first | done | exact rfl) (jIns_c (m := leastM) (s := ⟨[true], [.mk 2 0 []]⟩) (x := insK 4) leastM_short (by decide) (by decide) hj (insK_at _ _) hls hS (NthP.nth (by repeat constructor))) ?_; rintro v1 w1 ⟨rfl, c5, vl5, css5, hle5, hls, hS⟩; rw [jf, i3b] at hls hS; rw [jf, i3a]; simp only [List.set_cons_zero, List.set_cons_succ] at hS; have hj := hj.up hle5)))
  all_goals (first | refine s_gn rfl rfl ?_ | (refine s_gy rfl ?_; ((refine s_eql_t rfl rfl (by omega) ?_))))
  all_goals ((refine s_pick_t rfl (by (conv => lhs; whnf); first | done | exact rfl) ?_); refine s_mov (by (conv => lhs; whnf); first | done | exact rfl) ?_; (first | refine s_gn rfl rfl ?_ | (refine s_gy rfl ?_; refine s_mov (by (conv => lhs; whnf); first | done | exact rfl) ?_)); (first | refine s_gn rfl rfl ?_ | (refine s_gy rfl ?_; refine s_build1 (cs := [_, _, _, _, _, _, _, _]) (by (conv => lhs; whnf); first | done | exact rfl) (by rfl) ?_)); (first | (refine s_gn rfl rfl ?_) | (refine s_gy rfl ?_; refine s_rets_2 (by (conv => lhs; whnf); first | done | exact rfl) (by (conv => lhs; whnf); first | done | exact rfl) (jIns_c (m := leastM) (s := ⟨[false], [.mk 2 0 []]⟩) (x := insK 4) leastM_short (by decide) (by decide) hj (insK_at _ _) hls hS (NthP.nth (by repeat constructor))) ?_; rintro v1 w1 ⟨rfl, c6, vl6, css6, hle6, hls, hS⟩; rw [jf, i4b] at hls hS; rw [jf, i4a]; simp only [List.set_cons_zero, List.set_cons_succ] at hS; have hj := hj.up hle6)))
  all_goals (first | refine s_gn rfl rfl ?_ | (refine s_gy rfl ?_; ((refine s_eql_t rfl rfl (by omega) ?_))))
  all_goals ((refine s_pick_t rfl (by (conv => lhs; whnf); first | done | exact rfl) ?_); refine s_mov (by (conv => lhs; whnf); first | done | exact rfl) ?_; (first | refine s_gn rfl rfl ?_ | (refine s_gy rfl ?_; refine s_mov (by (conv => lhs; whnf); first | done | exact rfl) ?_)); (first | (refine s_gn rfl rfl ?_) | (refine s_gy rfl ?_; refine s_rets_1 (by (conv => lhs; whnf); first | done | exact rfl) (jTypes_c (s := ⟨[false], [.mk 2 0 []]⟩) (by intro t ht; simp at ht; subst ht; exact .mk (by decide) (by simp)) (by decide) hls hS (NthP.nth (by repeat constructor))) ?_; rintro v1 w1 ⟨c7, hle7, hk7, hS⟩; have hj := hj.up hle7; have hls := hls.up hle7)); (first | refine s_gn rfl rfl ?_ | (refine s_gy rfl ?_; ((refine s_lenL (by (conv => lhs; whnf); first | done | exact rfl) (by assumption) ?_)))); (first | (refine s_gn rfl rfl ?_) | (refine s_gy rfl ?_; refine s_eql_t rfl rfl (by decide) ?_)); (refine s_pick_t rfl (by (conv => lhs; whnf); first | done | exact rfl) ?_); refine s_mov (by (conv => lhs; whnf); first | done | exact rfl) ?_)
  all_goals ((first | refine s_gn rfl rfl ?_ | (refine s_gy rfl ?_; refine s_mov (by (conv => lhs; whnf); first | done | exact rfl) ?_)); (first | refine s_gn rfl rfl ?_ | (refine s_gy rfl ?_; refine s_build1 (cs := [_, _, _, _, _, _, _, _, _]) (by (conv => lhs; whnf); first | done | exact rfl) (by rfl) ?_)); (first | (refine s_gn rfl rfl ?_) | (refine s_gy rfl ?_; refine s_rets_2 (by (conv => lhs; whnf); first | done | exact rfl) (by (conv => lhs; whnf); first | done | exact rfl) (jEnd_c (m := leastM) (s := ⟨[false], [.mk 2 0 []]⟩) (x := ⟨3, 0, ⟨0, [], []⟩, ⟨0, [], []⟩, []⟩) (by rw [jf]; exact leastM_short.2 _ (by simp [leastM, leastF])) (by rw [jf]; intro b hb; simp [leastF] at hb; subst hb; simp [leastF, leastB]) (by rw [jf]; decide) (by decide) hj (endK_at _ _) hls hS (NthP.nth (by repeat constructor))) ?_; rintro v1 w1 ⟨rfl, hS⟩; rw [jf, i5])))
  all_goals (first | refine s_gn rfl rfl ?_ | (refine s_gy rfl ?_; ((refine s_eql_t rfl rfl (by omega) ?_))))
  all_goals ((refine s_pick_t rfl (by (conv => lhs; whnf); first | done | exact rfl) ?_); refine s_mov (by (conv => lhs; whnf); first | done | exact rfl) ?_; refine s_nil ?_; (repeat (first | refine s_then ?_ | refine s_blockN ?_)); refine s_ret ?_; (repeat (first | refine s_retT ?_ | refine s_retB ?_)); refine q_ret1 (by (conv => lhs; whnf); first | done | exact rfl) ?_; ((exact ⟨_, rfl, rfl, St.weak (hS.subP (by (repeat constructor); first | done | fail)) (hle1.trans (hle2.trans (hle3.trans (hle4.trans (hle5.trans (hle6.trans hle7))))))⟩)))
end Go.Proofs.Ytanlkfeogoganaa
