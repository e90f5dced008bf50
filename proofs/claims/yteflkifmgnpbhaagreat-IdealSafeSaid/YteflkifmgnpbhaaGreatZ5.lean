/- Lemmas of the proof, part 5: what the functions of the program do (contracts), and what follows. -/
import Derived.Test.YteflkifmgnpbhaaGreatZ2
import Derived.Test.YteflkifmgnpbhaaGreatZ3
import Derived.Test.YteflkifmgnpbhaaGreatZ4
import Derived.Lib.Strings
import Derived.Test.YteflkifmgnpbhaaGreatZ1
namespace Go.Proofs.YteflkifmgnpbhaaGreat
open Go.Lir
set_option maxHeartbeats 1000000
attribute [local irreducible] LC.wp Q2 QD QF retQ Q1a LO.wp Qf Calls
set_option linter.unusedSimpArgs false
set_option linter.unusedVariables false
theorem Q53 {x : Module} (hsm : x.Short) {cx : Cx} {w : World} {L : List Res} {cs : List Value} (hx : modR.at cx cs x) (hS : St cx w L) : Rets Tryz.prog code_Own [.agg ⟨cs⟩] w fun u w' => ∃ c' ds, u = .agg ⟨ds⟩ ∧ cx.Le c' ∧ modR.at c' ds x ∧ St c' w' L := by
 obtain ⟨vf, rfl, hf⟩ := Q1w hx
 obtain ⟨l⟩ := x
 have hf : funcR.sl cx vf l := hf
 have hsl : l.length ≤ 100000 := hsm.1
 have hsm : ∀ f ∈ l, f.Short := hsm.2
 have hle := St.refl hS
 all_goals refine lgo tyD Tryz.func64 ?_
 all_goals (refine Q0 ?_; refine Q1 ?_; refine zb hS ?_; intro p1 w1 hS; refine Q5 hS ?_; intro p2 w1 hS; refine zn ?_; refine Q0 ?_; refine Q1 ?_; refine Q5 hS ?_; intro p3 w1 hS; refine zn ?_; refine Q0 ?_; refine Q0 ?_; refine Q1 ?_; refine zf0 ?_; refine zl hS ?_; refine zL ?_; refine zm ?_; refine zn ?_; refine Q9 ?_)
 refine zo [2, 3, 13, 14] (fun A ρ' w' => ∃ (k0 : Cx) (j : Nat) (u : Value) (css : List (List Value)), Has ρ' A ∧ Has ρ' [(15, .int .i64 j)] ∧ (cx.Le k0) ∧ (j ≤ l.length) ∧ (funcR.ls k0 css (l.take j)) ∧ (oneC u = true) ∧ St k0 w' (sl 95 4 u css :: blk p3 24 [u] :: blk p2 24 [.slice none 0 0] :: blk p1 24 [vf] :: L)) (fun ρ' _ => (l.length - iv (ρ' 15)).toNat) ?_ ?_
 · exact ⟨cx, 0, .slice none 0 0, [], zh, zh, St.refl hS, (by omega), Rep.LR.nil _ _ _, rfl, by have hS := hS.nil (T := 95) (es := 4); exact hS⟩
 rintro ρ w1 ⟨k0, j, u, css, hA, hρ, hle2, hj, hls, hu, hS⟩; obtain ⟨ρ, rfl⟩ := env2 hA hρ; have hL0 := hle2; (try have hle := hle.trans hle2); (try have hf := hf.up hle2)
 all_goals (refine Q0 ?_; refine Q1 ?_; refine QA rfl rfl ?_; refine zn ?_; refine Q0 ?_)
 refine Qq rfl (fun hc => ?_) (fun hc => ?_)
 · skip
   all_goals (refine zsk ?_; refine Q0 ?_; refine Q9 ?_; refine Q0 ?_; refine Q1 ?_; refine zi ?_; intro b1 o1 cs1 x1 hat1 hx1 he1; obtain ⟨vp1, vr1, vb1, rfl, hp1, hr1, hb1⟩ := QM he1; (first | (refine zv hS ?_) | (refine zvk hS ?_)); refine Q5 hS ?_; intro p5 w1 hS; refine zsn hS ?_; intro w1 hS; have hS := hS.ns; refine zn ?_; have hsh := hsm x1 (List.mem_of_getElem? hx1); have hlb := hsh.2.2.1)
   have hJ6 := St.refl hS
   refine zML hS [2, 3, 5, 13, 14, 15] (fun A LL ρ' w' => ∃ (k6 : Cx) (a1 a2 : Option Addr) (n1 n2 p6 : Nat), Has ρ' A ∧ Has ρ' [(6, .pointer (some ⟨p6, 0, none⟩))] ∧ (k0.Le k6) ∧ (tyR.sl k6 (.slice a1 x1.params.length n1) x1.params) ∧ (tyR.sl k6 (.slice a2 x1.results.length n2) x1.results) ∧ St k6 w' (blk p6 95 [.int .i64 x1.regs, .slice a1 x1.params.length n1, .slice a2 x1.results.length n2, .slice none 0 0] :: LL)) ?_ ?_
   · skip
     refine Q24 4 9 (by kernel_rfl) ?_ ?_
     · skip
       refine Q24 7 9 (by kernel_rfl) ?_ ?_
       · skip
         all_goals (refine zC [(0, none), (1, none), (2, none), (3, none), (5, none), (6, none), (4, some (some [1, 6])), (7, some (some [1])), (8, none), (9, some (some [1])), (10, some none)] ?_; have hS := hS.drew; refine s_cq ?_; refine zf0 ?_; refine zt ?_; refine s_cq ?_; refine zl hS ?_; refine zt ?_; refine s_cq ?_; refine zf0 ?_; refine zt ?_; refine s_cq ?_; refine zl hS ?_; refine zt ?_; refine s_cq ?_; refine zf0 ?_; refine zt ?_; refine s_cq ?_; refine zl hS ?_; refine zt ?_; refine Qj ?_)
         all_goals (refine zR1 (c := Q3U hsh.1.1 hsh.1.2 hp1 hS) (h := ?_); rintro v1 w1 ⟨c1, hle2, hk1, hS⟩; obtain ⟨a1, n1, rfl⟩ := Rep.SR.shape hk1; (try have hle := hle.trans hle2); (try have hL0 := hL0.trans hle2); (try have hJ6 := hJ6.trans hle2); (try have hf := hf.up hle2); (try have hp1 := hp1.up hle2); (try have hr1 := hr1.up hle2); (try have hb1 := hb1.up hle2); (try have he1 := he1.up hle2); (try have hls := hls.up hle2))
         all_goals (refine zt ?_; refine zy ?_; refine Qj ?_)
         all_goals (refine zR1 (c := Q3U hsh.2.1.1 hsh.2.1.2 hr1 hS) (h := ?_); rintro v1 w1 ⟨c2, hle2, hk2, hS⟩; obtain ⟨a2, n2, rfl⟩ := Rep.SR.shape hk2; (try have hle := hle.trans hle2); (try have hL0 := hL0.trans hle2); (try have hJ6 := hJ6.trans hle2); (try have hf := hf.up hle2); (try have hk1 := hk1.up hle2); (try have hp1 := hp1.up hle2); (try have hr1 := hr1.up hle2); (try have hb1 := hb1.up hle2); (try have he1 := he1.up hle2); (try have hls := hls.up hle2))
         all_goals (refine zt ?_; refine zy ?_; refine s_cq ?_; refine zb3 [_, _, _, _] ?_; refine zt ?_; refine Qj ?_; refine Q5 hS ?_; intro p6 w1 hS; refine zt ?_; refine zy ?_; refine s_cf ?_; refine zsn hS ?_; intro w1 hS; have hS := hS.ns; refine zt ?_; refine zcn ?_; exact ⟨_, a1, a2, n1, n2, p6, zh, zh, hJ6, by assumption, by assumption, hS.sp⟩)
       · skip
         all_goals (refine zC [(0, none), (1, none), (2, none), (3, none), (5, none), (6, none), (4, some (some [1, 6])), (9, some (some [1, 6])), (7, some (some [1])), (8, none), (10, some none)] ?_; have hS := hS.drew; refine s_cq ?_; refine zf0 ?_; refine zt ?_; refine s_cq ?_; refine zl hS ?_; refine zt ?_; refine s_cq ?_; refine zf0 ?_; refine zt ?_; refine s_cq ?_; refine zl hS ?_; refine zt ?_; refine s_cq ?_; refine zf0 ?_; refine zt ?_; refine s_cq ?_; refine zl hS ?_; refine zt ?_; refine Qj ?_)
         all_goals (refine zR1 (c := Q3U hsh.1.1 hsh.1.2 hp1 hS) (h := ?_); rintro v1 w1 ⟨c1, hle2, hk1, hS⟩; obtain ⟨a1, n1, rfl⟩ := Rep.SR.shape hk1; (try have hle := hle.trans hle2); (try have hL0 := hL0.trans hle2); (try have hJ6 := hJ6.trans hle2); (try have hf := hf.up hle2); (try have hp1 := hp1.up hle2); (try have hr1 := hr1.up hle2); (try have hb1 := hb1.up hle2); (try have he1 := he1.up hle2); (try have hls := hls.up hle2))
         all_goals (refine zt ?_; refine zy ?_; refine Qj ?_; refine Q5 hS ?_; intro p6 w1 hS; refine zt ?_; refine zy ?_; refine Qj ?_)
         all_goals (refine zR1 (c := Q3U hsh.2.1.1 hsh.2.1.2 hr1 hS) (h := ?_); rintro v1 w1 ⟨c2, hle2, hk2, hS⟩; obtain ⟨a2, n2, rfl⟩ := Rep.SR.shape hk2; (try have hle := hle.trans hle2); (try have hL0 := hL0.trans hle2); (try have hJ6 := hJ6.trans hle2); (try have hf := hf.up hle2); (try have hk1 := hk1.up hle2); (try have hp1 := hp1.up hle2); (try have hr1 := hr1.up hle2); (try have hb1 := hb1.up hle2); (try have he1 := he1.up hle2); (try have hls := hls.up hle2))
         all_goals (refine zt ?_; refine zy ?_; refine s_cq ?_; refine zb3 [_, _, _, _] ?_; refine zt ?_; refine s_cf ?_; refine zsn hS ?_; intro w1 hS; have hS := hS.ns; refine zt ?_; refine zcn ?_; exact ⟨_, a1, a2, n1, n2, p6, zh, zh, hJ6, by assumption, by assumption, hS.sp⟩)
     · skip
       all_goals (refine zC [(0, none), (1, none), (2, none), (3, none), (5, none), (6, none), (9, some (some [1, 3, 6])), (4, some (some [1, 6])), (7, some (some [1])), (8, none), (10, some none)] ?_; have hS := hS.drew; refine s_cq ?_; refine zf0 ?_; refine zt ?_; refine s_cq ?_; refine zl hS ?_; refine zt ?_; refine s_cq ?_; refine zf0 ?_; refine zt ?_; refine s_cq ?_; refine zl hS ?_; refine zt ?_; refine s_cq ?_; refine zf0 ?_; refine zt ?_; refine s_cq ?_; refine zl hS ?_; refine zt ?_; refine Qj ?_; refine Q5 hS ?_; intro p6 w1 hS; refine zt ?_; refine zy ?_; refine Qj ?_)
       all_goals (refine zR1 (c := Q3U hsh.1.1 hsh.1.2 hp1 hS) (h := ?_); rintro v1 w1 ⟨c1, hle2, hk1, hS⟩; obtain ⟨a1, n1, rfl⟩ := Rep.SR.shape hk1; (try have hle := hle.trans hle2); (try have hL0 := hL0.trans hle2); (try have hJ6 := hJ6.trans hle2); (try have hf := hf.up hle2); (try have hp1 := hp1.up hle2); (try have hr1 := hr1.up hle2); (try have hb1 := hb1.up hle2); (try have he1 := he1.up hle2); (try have hls := hls.up hle2))
       all_goals (refine zt ?_; refine zy ?_; refine Qj ?_)
       all_goals (refine zR1 (c := Q3U hsh.2.1.1 hsh.2.1.2 hr1 hS) (h := ?_); rintro v1 w1 ⟨c2, hle2, hk2, hS⟩; obtain ⟨a2, n2, rfl⟩ := Rep.SR.shape hk2; (try have hle := hle.trans hle2); (try have hL0 := hL0.trans hle2); (try have hJ6 := hJ6.trans hle2); (try have hf := hf.up hle2); (try have hk1 := hk1.up hle2); (try have hp1 := hp1.up hle2); (try have hr1 := hr1.up hle2); (try have hb1 := hb1.up hle2); (try have he1 := he1.up hle2); (try have hls := hls.up hle2))
       all_goals (refine zt ?_; refine zy ?_; refine s_cq ?_; refine zb3 [_, _, _, _] ?_; refine zt ?_; refine s_cf ?_; refine zsn hS ?_; intro w1 hS; have hS := hS.ns; refine zt ?_; refine zcn ?_; exact ⟨_, a1, a2, n1, n2, p6, zh, zh, hJ6, by assumption, by assumption, hS.sp⟩)
   rintro ρ w1 ⟨k6, a1, a2, n1, n2, p6, hA, hρ, hle2, hk1, hk2, hS⟩; obtain ⟨ρ, rfl⟩ := env2 hA hρ; (try have hle := hle.trans hle2); (try have hL0 := hL0.trans hle2); (try have hJ6 := hJ6.trans hle2); (try have hf := hf.up hle2); (try have hp1 := hp1.up hle2); (try have hr1 := hr1.up hle2); (try have hb1 := hb1.up hle2); (try have he1 := he1.up hle2); (try have hls := hls.up hle2)
   all_goals (refine Q0 ?_; refine Q0 ?_; refine Q1 ?_; refine zf0 ?_; refine zl hS ?_; refine zL ?_; refine zm ?_; refine zn ?_; refine Q9 ?_)
   refine zo [2, 3, 6, 13, 14, 15, 29, 30] (fun A ρ' w' => ∃ (k1 : Cx) (i : Nat) (ub : Value) (cssB : List (List Value)), Has ρ' A ∧ Has ρ' [(31, .int .i64 i)] ∧ (k6.Le k1) ∧ (i ≤ x1.blocks.length) ∧ (blockR.ls k1 cssB (x1.blocks.take i)) ∧ (oneC ub = true) ∧ St k1 w' (sl 92 12 ub cssB :: blk p6 95 [.int .i64 x1.regs, .slice a1 x1.params.length n1, .slice a2 x1.results.length n2, ub] :: blk p5 95 [.int .i64 x1.regs, vp1, vr1, vb1] :: sl 95 4 u css :: blk p3 24 [u] :: blk p2 24 [.slice none 0 0] :: blk p1 24 [vf] :: L)) (fun ρ' _ => (x1.blocks.length - iv (ρ' 31)).toNat) ?_ ?_
   · exact ⟨k6, 0, .slice none 0 0, [], zh, zh, St.refl hS, (by omega), Rep.LR.nil _ _ _, rfl, by have hS := hS.nil (T := 92) (es := 12); exact hS.sp⟩
   rintro ρ w1 ⟨k1, i, ub, cssB, hA, hρ, hle2, hi, hlsB, hub, hS⟩; obtain ⟨ρ, rfl⟩ := env2 hA hρ; have hL1 := hle2; (try have hle := hle.trans hle2); (try have hL0 := hL0.trans hle2); (try have hJ6 := hJ6.trans hle2); (try have hf := hf.up hle2); (try have hk1 := hk1.up hle2); (try have hk2 := hk2.up hle2); (try have hp1 := hp1.up hle2); (try have hr1 := hr1.up hle2); (try have hb1 := hb1.up hle2); (try have he1 := he1.up hle2); (try have hls := hls.up hle2)
   all_goals (refine Q0 ?_; refine Q1 ?_; refine QA rfl rfl ?_; refine zn ?_; refine Q0 ?_)
   refine Qq rfl (fun hc => ?_) (fun hc => ?_)
   · skip
     all_goals (refine zsk ?_; refine Q0 ?_; refine Q9 ?_; refine Q0 ?_; refine Q1 ?_; refine zi ?_; intro b2 o2 cs2 x2 hat2 hx2 he2; obtain ⟨vp2, vc2, ve21, ve22, ve23, ve24, ve25, rfl, hp2, hc2, he21, he22, he23, he24, he25⟩ := Q1N he2; (first | (refine zv hS ?_) | (refine zvk hS ?_)); refine Q5 hS ?_; intro p8 w1 hS; refine zsn hS ?_; intro w1 hS; have hS := hS.ns; refine zn ?_; have hsb := hsh.2.2.2 x2 (List.mem_of_getElem? hx2); have hlc := hsb.2.1)
     have hJ10 := St.refl hS
     refine zML hS [2, 3, 6, 8, 13, 14, 15, 29, 30, 31] (fun A LL ρ' w' => ∃ (k10 : Cx) (a3 : Option Addr) (n3 p9 : Nat), Has ρ' A ∧ Has ρ' [(9, .pointer (some ⟨p9, 0, none⟩))] ∧ (k1.Le k10) ∧ (tyR.sl k10 (.slice a3 x2.params.length n3) x2.params) ∧ St k10 w' (blk p9 92 [.int .i64 x2.regs, .slice a3 x2.params.length n3, .slice none 0 0, .int .i64 x2.fin.op, .int .i64 x2.fin.a, .int .i64 x2.fin.yes.block, ve21, ve22, .int .i64 x2.fin.no.block, ve23, ve24, ve25] :: LL)) ?_ ?_
     · skip
       all_goals (obtain ⟨q1, m1, rfl⟩ := Rep.SR.shape he21; obtain ⟨q2, m2, rfl⟩ := Rep.SR.shape he22; obtain ⟨q3, m3, rfl⟩ := Rep.SR.shape he23; obtain ⟨q4, m4, rfl⟩ := Rep.SR.shape he24; obtain ⟨q5, m5, rfl⟩ := Rep.SR.shape he25)
       refine Q24 4 8 (by kernel_rfl) ?_ ?_
       · skip
         all_goals (refine zC [(0, none), (1, none), (2, none), (3, none), (5, none), (6, none), (4, some (some [1, 6])), (7, none), (8, some (some [1, 6])), (9, some none)] ?_; have hS := hS.drew; refine s_cq ?_; refine zf0 ?_; refine zt ?_; refine s_cq ?_; refine zl hS ?_; refine zt ?_; refine s_cq ?_; refine zf0 ?_; refine zt ?_; refine s_cq ?_; refine zl hS ?_; refine zt ?_; refine s_cq ?_; refine zf0 ?_; refine zt ?_; refine s_cq ?_; refine zv hS ?_; refine zt ?_; refine Qj ?_)
         all_goals (refine zR1 (c := Q3U hsb.1.1 hsb.1.2 hp2 hS) (h := ?_); rintro v1 w1 ⟨c3, hle2, hk3, hS⟩; obtain ⟨a3, n3, rfl⟩ := Rep.SR.shape hk3; (try have hle := hle.trans hle2); (try have hL0 := hL0.trans hle2); (try have hL1 := hL1.trans hle2); (try have hJ6 := hJ6.trans hle2); (try have hJ10 := hJ10.trans hle2); (try have hf := hf.up hle2); (try have hk1 := hk1.up hle2); (try have hk2 := hk2.up hle2); (try have hp1 := hp1.up hle2); (try have hr1 := hr1.up hle2); (try have hb1 := hb1.up hle2); (try have hp2 := hp2.up hle2); (try have hc2 := hc2.up hle2); (try have he21 := he21.up hle2); (try have he22 := he22.up hle2); (try have he23 := he23.up hle2); (try have he24 := he24.up hle2); (try have he25 := he25.up hle2); (try have he1 := he1.up hle2); (try have he2 := he2.up hle2); (try have hls := hls.up hle2); (try have hlsB := hlsB.up hle2))
         all_goals (refine zt ?_; refine zy ?_; refine s_cq ?_; refine zb3 [_, _, _, _, _, _, _, _, _, _, _, _] ?_; refine zt ?_; refine Qj ?_; refine Q5 hS ?_; intro p9 w1 hS; refine zt ?_; refine zy ?_; refine s_cf ?_; refine zsn hS ?_; intro w1 hS; have hS := hS.ns; refine zt ?_; refine zcn ?_; exact ⟨_, a3, n3, p9, zh, zh, hJ10, by assumption, hS.sp⟩)
       · skip
         all_goals (refine zC [(0, none), (1, none), (2, none), (3, none), (5, none), (6, none), (8, some (some [1, 3, 6])), (4, some (some [1, 6])), (7, none), (9, some none)] ?_; have hS := hS.drew; refine s_cq ?_; refine zf0 ?_; refine zt ?_; refine s_cq ?_; refine zl hS ?_; refine zt ?_; refine s_cq ?_; refine zf0 ?_; refine zt ?_; refine s_cq ?_; refine zl hS ?_; refine zt ?_; refine s_cq ?_; refine zf0 ?_; refine zt ?_; refine s_cq ?_; refine zv hS ?_; refine zt ?_; refine Qj ?_; refine Q5 hS ?_; intro p9 w1 hS; refine zt ?_; refine zy ?_; refine Qj ?_)
         all_goals (refine zR1 (c := Q3U hsb.1.1 hsb.1.2 hp2 hS) (h := ?_); rintro v1 w1 ⟨c3, hle2, hk3, hS⟩; obtain ⟨a3, n3, rfl⟩ := Rep.SR.shape hk3; (try have hle := hle.trans hle2); (try have hL0 := hL0.trans hle2); (try have hL1 := hL1.trans hle2); (try have hJ6 := hJ6.trans hle2); (try have hJ10 := hJ10.trans hle2); (try have hf := hf.up hle2); (try have hk1 := hk1.up hle2); (try have hk2 := hk2.up hle2); (try have hp1 := hp1.up hle2); (try have hr1 := hr1.up hle2); (try have hb1 := hb1.up hle2); (try have hp2 := hp2.up hle2); (try have hc2 := hc2.up hle2); (try have he21 := he21.up hle2); (try have he22 := he22.up hle2); (try have he23 := he23.up hle2); (try have he24 := he24.up hle2); (try have he25 := he25.up hle2); (try have he1 := he1.up hle2); (try have he2 := he2.up hle2); (try have hls := hls.up hle2); (try have hlsB := hlsB.up hle2))
         all_goals (refine zt ?_; refine zy ?_; refine s_cq ?_; refine zb3 [_, _, _, _, _, _, _, _, _, _, _, _] ?_; refine zt ?_; refine s_cf ?_; refine zsn hS ?_; intro w1 hS; have hS := hS.ns; refine zt ?_; refine zcn ?_; exact ⟨_, a3, n3, p9, zh, zh, hJ10, by assumption, hS.sp⟩)
     rintro ρ w1 ⟨k10, a3, n3, p9, hA, hρ, hle2, hk3, hS⟩; obtain ⟨ρ, rfl⟩ := env2 hA hρ; (try have hle := hle.trans hle2); (try have hL0 := hL0.trans hle2); (try have hL1 := hL1.trans hle2); (try have hJ6 := hJ6.trans hle2); (try have hJ10 := hJ10.trans hle2); (try have hf := hf.up hle2); (try have hk1 := hk1.up hle2); (try have hk2 := hk2.up hle2); (try have hp1 := hp1.up hle2); (try have hr1 := hr1.up hle2); (try have hb1 := hb1.up hle2); (try have hp2 := hp2.up hle2); (try have hc2 := hc2.up hle2); (try have he21 := he21.up hle2); (try have he22 := he22.up hle2); (try have he23 := he23.up hle2); (try have he24 := he24.up hle2); (try have he25 := he25.up hle2); (try have he1 := he1.up hle2); (try have he2 := he2.up hle2); (try have hls := hls.up hle2); (try have hlsB := hlsB.up hle2)
     all_goals (refine Q0 ?_; refine zC [(0, none), (1, none), (2, none), (4, none), (5, none), (6, none), (8, none), (9, none), (10, none), (3, some (some [6, 10])), (12, none), (13, none), (7, some (some [10])), (11, some (some [])), (14, some none), (15, none), (16, none), (17, some none), (18, none), (19, none), (20, some none)] ?_; have hS := hS.drew; refine s_cq ?_; refine zf0 ?_; refine zt ?_; refine s_cq ?_; (first | refine zf0 ?_ | refine zfd ?_); refine zt ?_; refine s_cq ?_; refine zv hS ?_; refine zt ?_; refine s_cq ?_; refine zf0 ?_; refine zt ?_; refine s_cq ?_; (first | refine zf0 ?_ | refine zfd ?_); refine zt ?_; refine s_cq ?_; refine zv hS ?_; refine zt ?_; refine s_cq ?_; refine zf0 ?_; refine zt ?_; refine s_cq ?_; (first | refine zf0 ?_ | refine zfd ?_); refine zt ?_; refine s_cq ?_; refine zl hS ?_; refine zt ?_; refine Qj ?_)
     all_goals (refine zR1 (c := QaZ (x := x2.fin.yes) (by have := hsb.2.2.2.1.1; omega) (by have := hsb.2.2.2.1.2; omega) ⟨_, _, rfl, he21, he22⟩ hS) (h := ?_); rintro v1 w1 ⟨c7, ds, rfl, hle2, hk7, hS⟩; obtain ⟨y1, y2, rfl, hy1, hy2⟩ := Q4K hk7; obtain ⟨a7, n7, rfl⟩ := Rep.SR.shape hy1; obtain ⟨a8, n8, rfl⟩ := Rep.SR.shape hy2; (try have hle := hle.trans hle2); (try have hL0 := hL0.trans hle2); (try have hL1 := hL1.trans hle2); (try have hJ6 := hJ6.trans hle2); (try have hJ10 := hJ10.trans hle2); (try have hf := hf.up hle2); (try have hk1 := hk1.up hle2); (try have hk2 := hk2.up hle2); (try have hk3 := hk3.up hle2); (try have hp1 := hp1.up hle2); (try have hr1 := hr1.up hle2); (try have hb1 := hb1.up hle2); (try have hp2 := hp2.up hle2); (try have hc2 := hc2.up hle2); (try have he21 := he21.up hle2); (try have he22 := he22.up hle2); (try have he23 := he23.up hle2); (try have he24 := he24.up hle2); (try have he25 := he25.up hle2); (try have he1 := he1.up hle2); (try have he2 := he2.up hle2); (try have hls := hls.up hle2); (try have hlsB := hlsB.up hle2))
     all_goals (refine zt ?_; refine zy ?_; refine s_cq ?_; refine zf0 ?_; refine zt ?_; refine s_cq ?_; (first | refine zf0 ?_ | refine zfd ?_); refine zt ?_; refine Qj ?_)
     all_goals (refine zR1 (c := QaZ (x := x2.fin.no) (by have := hsb.2.2.2.2.1.1; omega) (by have := hsb.2.2.2.2.1.2; omega) ⟨_, _, rfl, he23, he24⟩ hS) (h := ?_); rintro v1 w1 ⟨c8, ds, rfl, hle2, hk8, hS⟩; obtain ⟨z1, z2, rfl, hz1, hz2⟩ := Q4K hk8; obtain ⟨a9, n9, rfl⟩ := Rep.SR.shape hz1; obtain ⟨a10, n10, rfl⟩ := Rep.SR.shape hz2; (try have hle := hle.trans hle2); (try have hL0 := hL0.trans hle2); (try have hL1 := hL1.trans hle2); (try have hJ6 := hJ6.trans hle2); (try have hJ10 := hJ10.trans hle2); (try have hf := hf.up hle2); (try have hk1 := hk1.up hle2); (try have hk2 := hk2.up hle2); (try have hk3 := hk3.up hle2); (try have hk7 := hk7.up hle2); (try have hp1 := hp1.up hle2); (try have hr1 := hr1.up hle2); (try have hb1 := hb1.up hle2); (try have hp2 := hp2.up hle2); (try have hc2 := hc2.up hle2); (try have he21 := he21.up hle2); (try have he22 := he22.up hle2); (try have he23 := he23.up hle2); (try have he24 := he24.up hle2); (try have he25 := he25.up hle2); (try have he1 := he1.up hle2); (try have he2 := he2.up hle2); (try have hls := hls.up hle2); (try have hy1 := hy1.up hle2); (try have hy2 := hy2.up hle2); (try have hlsB := hlsB.up hle2))
     all_goals (refine zt ?_; refine zy ?_; refine Qj ?_)
     all_goals (refine zR1 (c := Q54 (by have := hsb.2.2.2.2.2; omega) he25 hS) (h := ?_); rintro v1 w1 ⟨c9, hle2, hw1, hS⟩; obtain ⟨a11, n11, rfl⟩ := Rep.SR.shape hw1; (try have hle := hle.trans hle2); (try have hL0 := hL0.trans hle2); (try have hL1 := hL1.trans hle2); (try have hJ6 := hJ6.trans hle2); (try have hJ10 := hJ10.trans hle2); (try have hf := hf.up hle2); (try have hk1 := hk1.up hle2); (try have hk2 := hk2.up hle2); (try have hk3 := hk3.up hle2); (try have hk7 := hk7.up hle2); (try have hk8 := hk8.up hle2); (try have hp1 := hp1.up hle2); (try have hr1 := hr1.up hle2); (try have hb1 := hb1.up hle2); (try have hp2 := hp2.up hle2); (try have hc2 := hc2.up hle2); (try have he21 := he21.up hle2); (try have he22 := he22.up hle2); (try have he23 := he23.up hle2); (try have he24 := he24.up hle2); (try have he25 := he25.up hle2); (try have he1 := he1.up hle2); (try have he2 := he2.up hle2); (try have hls := hls.up hle2); (try have hy1 := hy1.up hle2); (try have hy2 := hy2.up hle2); (try have hz1 := hz1.up hle2); (try have hz2 := hz2.up hle2); (try have hlsB := hlsB.up hle2))
     all_goals (refine zt ?_; refine zy ?_; refine s_cf ?_; (first | (refine zsn hS ?_; intro w1 hS; have hS := hS.ns) | (refine zsm hS ?_; intro w1 hS; have hS := hS.ns)); refine zt ?_; refine s_cq ?_; refine zf0 ?_; refine zt ?_; refine s_cq ?_; (first | refine zf0 ?_ | refine zfd ?_); refine zt ?_; refine s_cf ?_; (first | (refine zsn hS ?_; intro w1 hS; have hS := hS.ns) | (refine zsm hS ?_; intro w1 hS; have hS := hS.ns)); refine zt ?_; refine s_cq ?_; refine zf0 ?_; refine zt ?_; refine s_cq ?_; (first | refine zf0 ?_ | refine zfd ?_); refine zt ?_; refine s_cf ?_; refine zst hS ?_; intro w1 hS; have hS := hS.ns; refine zt ?_; refine zcn ?_; refine Q0 ?_; refine Q0 ?_; refine Q1 ?_; refine zf0 ?_; refine zl hS ?_; refine zL ?_; refine zm ?_; refine zn ?_; refine Q9 ?_)
     refine zo [2, 3, 6, 9, 13, 14, 15, 29, 30, 31, 62, 63] (fun A ρ' w' => ∃ (k2 : Cx) (k : Nat) (uc : Value) (cssC : List (List Value)), Has ρ' A ∧ Has ρ' [(64, .int .i64 k)] ∧ (c9.Le k2) ∧ (k ≤ x2.code.length) ∧ (insR.ls k2 cssC (x2.code.take k)) ∧ (oneC uc = true) ∧ St k2 w' (sl 84 8 uc cssC :: blk p9 92 [.int .i64 x2.regs, .slice a3 x2.params.length n3, uc, .int .i64 x2.fin.op, .int .i64 x2.fin.a, .int .i64 x2.fin.yes.block, .slice a7 x2.fin.yes.regs.length n7, .slice a8 x2.fin.yes.args.length n8, .int .i64 x2.fin.no.block, .slice a9 x2.fin.no.regs.length n9, .slice a10 x2.fin.no.args.length n10, .slice a11 x2.fin.args.length n11] :: blk p8 92 [.int .i64 x2.regs, vp2, vc2, .int .i64 x2.fin.op, .int .i64 x2.fin.a, .int .i64 x2.fin.yes.block, ve21, ve22, .int .i64 x2.fin.no.block, ve23, ve24, ve25] :: sl 92 12 ub cssB :: blk p6 95 [.int .i64 x1.regs, .slice a1 x1.params.length n1, .slice a2 x1.results.length n2, ub] :: blk p5 95 [.int .i64 x1.regs, vp1, vr1, vb1] :: sl 95 4 u css :: blk p3 24 [u] :: blk p2 24 [.slice none 0 0] :: blk p1 24 [vf] :: L)) (fun ρ' _ => (x2.code.length - iv (ρ' 64)).toNat) ?_ ?_
     · exact ⟨c9, 0, .slice none 0 0, [], zh, zh, St.refl hS, (by omega), Rep.LR.nil _ _ _, rfl, by have hS := hS.nil (T := 84) (es := 8); exact hS.sp⟩
     rintro ρ w1 ⟨k2, k, uc, cssC, hA, hρ, hle2, hkk, hlsC, huc, hS⟩; obtain ⟨ρ, rfl⟩ := env2 hA hρ; have hL2 := hle2; (try have hle := hle.trans hle2); (try have hL0 := hL0.trans hle2); (try have hL1 := hL1.trans hle2); (try have hJ6 := hJ6.trans hle2); (try have hJ10 := hJ10.trans hle2); (try have hf := hf.up hle2); (try have hk1 := hk1.up hle2); (try have hk2 := hk2.up hle2); (try have hk3 := hk3.up hle2); (try have hk7 := hk7.up hle2); (try have hk8 := hk8.up hle2); (try have hp1 := hp1.up hle2); (try have hr1 := hr1.up hle2); (try have hb1 := hb1.up hle2); (try have hp2 := hp2.up hle2); (try have hc2 := hc2.up hle2); (try have he21 := he21.up hle2); (try have he22 := he22.up hle2); (try have he23 := he23.up hle2); (try have he24 := he24.up hle2); (try have he25 := he25.up hle2); (try have he1 := he1.up hle2); (try have he2 := he2.up hle2); (try have hls := hls.up hle2); (try have hy1 := hy1.up hle2); (try have hy2 := hy2.up hle2); (try have hz1 := hz1.up hle2); (try have hz2 := hz2.up hle2); (try have hw1 := hw1.up hle2); (try have hlsB := hlsB.up hle2)
     all_goals (refine Q0 ?_; refine Q1 ?_; refine QA rfl rfl ?_; refine zn ?_; refine Q0 ?_)
     refine Qq rfl (fun hc => ?_) (fun hc => ?_)
     · skip
       all_goals (refine zsk ?_; refine Q0 ?_; refine Q9 ?_; refine Q0 ?_; refine Q1 ?_; refine zi ?_; intro b3 o3 cs3 x3 hat3 hx3 he3; obtain ⟨vr3, va3, rfl, hr3, ha3⟩ := Q1G he3; (first | (refine zv hS ?_) | (refine zvk hS ?_)); refine Q5 hS ?_; intro p11 w1 hS; refine zsn hS ?_; intro w1 hS; have hS := hS.ns; refine zn ?_; refine Q0 ?_; have hsi := hsb.2.2.1 x3 (List.mem_of_getElem? hx3); refine zC [(0, none), (1, none), (3, none), (4, none), (2, some (some [4])), (6, none), (5, some (some [])), (7, some none), (8, none), (9, some none)] ?_; have hS := hS.drew; refine s_cq ?_; refine zf0 ?_; refine zt ?_; refine s_cq ?_; refine zl hS ?_; refine zt ?_; refine s_cq ?_; refine zf0 ?_; refine zt ?_; refine s_cq ?_; refine zl hS ?_; refine zt ?_; refine Qj ?_)
       all_goals (refine zR1 (c := Q54 (by have := hsi.1; omega) hr3 hS) (h := ?_); rintro v1 w1 ⟨c4, hle2, hk4, hS⟩; obtain ⟨a4, n4, rfl⟩ := Rep.SR.shape hk4; (try have hle := hle.trans hle2); (try have hL0 := hL0.trans hle2); (try have hL1 := hL1.trans hle2); (try have hL2 := hL2.trans hle2); (try have hJ6 := hJ6.trans hle2); (try have hJ10 := hJ10.trans hle2); (try have hf := hf.up hle2); (try have hk1 := hk1.up hle2); (try have hk2 := hk2.up hle2); (try have hk3 := hk3.up hle2); (try have hk7 := hk7.up hle2); (try have hk8 := hk8.up hle2); (try have hp1 := hp1.up hle2); (try have hr1 := hr1.up hle2); (try have hb1 := hb1.up hle2); (try have hp2 := hp2.up hle2); (try have hc2 := hc2.up hle2); (try have he21 := he21.up hle2); (try have he22 := he22.up hle2); (try have he23 := he23.up hle2); (try have he24 := he24.up hle2); (try have he25 := he25.up hle2); (try have hr3 := hr3.up hle2); (try have ha3 := ha3.up hle2); (try have he1 := he1.up hle2); (try have he2 := he2.up hle2); (try have he3 := he3.up hle2); (try have hls := hls.up hle2); (try have hy1 := hy1.up hle2); (try have hy2 := hy2.up hle2); (try have hz1 := hz1.up hle2); (try have hz2 := hz2.up hle2); (try have hw1 := hw1.up hle2); (try have hlsB := hlsB.up hle2); (try have hlsC := hlsC.up hle2))
       all_goals (refine zt ?_; refine zy ?_; refine s_cq ?_; refine zf0 ?_; refine zt ?_; refine Qj ?_)
       all_goals (refine zR1 (c := Q54 (by have := hsi.2; omega) ha3 hS) (h := ?_); rintro v1 w1 ⟨c5, hle2, hk5, hS⟩; obtain ⟨a5, n5, rfl⟩ := Rep.SR.shape hk5; (try have hle := hle.trans hle2); (try have hL0 := hL0.trans hle2); (try have hL1 := hL1.trans hle2); (try have hL2 := hL2.trans hle2); (try have hJ6 := hJ6.trans hle2); (try have hJ10 := hJ10.trans hle2); (try have hf := hf.up hle2); (try have hk1 := hk1.up hle2); (try have hk2 := hk2.up hle2); (try have hk3 := hk3.up hle2); (try have hk4 := hk4.up hle2); (try have hk7 := hk7.up hle2); (try have hk8 := hk8.up hle2); (try have hp1 := hp1.up hle2); (try have hr1 := hr1.up hle2); (try have hb1 := hb1.up hle2); (try have hp2 := hp2.up hle2); (try have hc2 := hc2.up hle2); (try have he21 := he21.up hle2); (try have he22 := he22.up hle2); (try have he23 := he23.up hle2); (try have he24 := he24.up hle2); (try have he25 := he25.up hle2); (try have hr3 := hr3.up hle2); (try have ha3 := ha3.up hle2); (try have he1 := he1.up hle2); (try have he2 := he2.up hle2); (try have he3 := he3.up hle2); (try have hls := hls.up hle2); (try have hy1 := hy1.up hle2); (try have hy2 := hy2.up hle2); (try have hz1 := hz1.up hle2); (try have hz2 := hz2.up hle2); (try have hw1 := hw1.up hle2); (try have hlsB := hlsB.up hle2); (try have hlsC := hlsC.up hle2))
       all_goals (refine zt ?_; refine zy ?_; refine s_cf ?_; refine zst hS ?_; intro w1 hS; have hS := hS.ns; refine zt ?_; refine s_cq ?_; refine zf0 ?_; refine zt ?_; refine s_cf ?_; refine zst hS ?_; intro w1 hS; have hS := hS.ns; refine zt ?_; refine zcn ?_; have hk9 : insR.at c5 _ x3 := ⟨_, _, rfl, hk4, hk5⟩; refine Q1 ?_; refine zf0 ?_; refine zl hS ?_; refine zv hS ?_; refine zB1 hS [_, _, _, _, _, _, _, _] ?_; intro b1 w1 hS; refine za el_T85 u_T85 hS ?_; intro vp1 w1 css1 hls1 hv1 hS; have hS := hS.ns; refine zf0 ?_; refine zst hS ?_; intro w1 hS; have hS := hS.ns; refine zn ?_; refine Q1 ?_; refine zad ?_; refine zm ?_; refine zn ?_; exact ⟨⟨_, k + 1, _, _, zh, zh, hL2, (by omega), by rw [Q1U hx3]; assumption, by assumption, hS.sp⟩, Qs (by omega)⟩)
     · skip
       all_goals (refine zex ?_)
       all_goals (obtain ⟨c6, hle2, hS, hk6⟩ := St.freezeL (r := insR) (l := x2.code) hS (by rw [List.take_of_length_le (by omega)] at hlsC; exact hlsC) rfl (by have := hsb.2.1; omega); obtain ⟨a6, n6, rfl⟩ := Rep.SR.shape hk6; (try have hle := hle.trans hle2); (try have hL0 := hL0.trans hle2); (try have hL1 := hL1.trans hle2); (try have hL2 := hL2.trans hle2); (try have hJ6 := hJ6.trans hle2); (try have hJ10 := hJ10.trans hle2); (try have hf := hf.up hle2); (try have hk1 := hk1.up hle2); (try have hk2 := hk2.up hle2); (try have hk3 := hk3.up hle2); (try have hk7 := hk7.up hle2); (try have hk8 := hk8.up hle2); (try have hp1 := hp1.up hle2); (try have hr1 := hr1.up hle2); (try have hb1 := hb1.up hle2); (try have hp2 := hp2.up hle2); (try have hc2 := hc2.up hle2); (try have he21 := he21.up hle2); (try have he22 := he22.up hle2); (try have he23 := he23.up hle2); (try have he24 := he24.up hle2); (try have he25 := he25.up hle2); (try have he1 := he1.up hle2); (try have he2 := he2.up hle2); (try have hls := hls.up hle2); (try have hy1 := hy1.up hle2); (try have hy2 := hy2.up hle2); (try have hz1 := hz1.up hle2); (try have hz2 := hz2.up hle2); (try have hw1 := hw1.up hle2); (try have hlsB := hlsB.up hle2); (try have hlsC := hlsC.up hle2))
       all_goals (have hk9 : blockR.at c6 _ x2 := Q7g (x := x2) hk3 hk6 hy1 hy2 hz1 hz2 hw1; refine Q1 ?_; refine zf0 ?_; refine zl hS ?_; refine zv hS ?_; refine zB1 hS [_, _, _, _, _, _, _, _, _, _, _, _] ?_; intro b1 w1 hS; refine za el_T93 u_T93 hS ?_; intro vp2 w2 css2 hls2 hv2 hS; have hS := hS.ns; refine zf0 ?_; refine zst hS ?_; intro w1 hS; have hS := hS.ns; refine zn ?_; refine Q1 ?_; refine zad ?_; refine zm ?_; refine zn ?_; exact ⟨⟨_, i + 1, _, _, zh, zh, hL1, (by omega), by rw [Q1U hx2]; assumption, by assumption, hS.sp⟩, Qs (by omega)⟩)
   · skip
     all_goals (refine zex ?_)
     all_goals (obtain ⟨c10, hle2, hS, hk6⟩ := St.freezeL (r := blockR) (l := x1.blocks) hS (by rw [List.take_of_length_le (by omega)] at hlsB; exact hlsB) rfl (by have := hsh.2.2.1; omega); obtain ⟨a6, n6, rfl⟩ := Rep.SR.shape hk6; (try have hle := hle.trans hle2); (try have hL0 := hL0.trans hle2); (try have hL1 := hL1.trans hle2); (try have hJ6 := hJ6.trans hle2); (try have hf := hf.up hle2); (try have hk1 := hk1.up hle2); (try have hk2 := hk2.up hle2); (try have hp1 := hp1.up hle2); (try have hr1 := hr1.up hle2); (try have hb1 := hb1.up hle2); (try have he1 := he1.up hle2); (try have hls := hls.up hle2); (try have hlsB := hlsB.up hle2))
     all_goals (have hk9 : funcR.at c10 _ x1 := ⟨_, _, _, rfl, hk1, hk2, hk6⟩; refine Q1 ?_; refine zf0 ?_; refine zl hS ?_; refine zv hS ?_; refine zB1 hS [_, _, _, _] ?_; intro b1 w1 hS; refine za el_T22 u_T22 hS ?_; intro vp3 w3 css3 hls3 hv3 hS; have hS := hS.ns; refine zf0 ?_; refine zst hS ?_; intro w1 hS; have hS := hS.ns; refine zn ?_; refine Q1 ?_; refine zad ?_; refine zm ?_; refine zn ?_; exact ⟨⟨_, j + 1, _, _, zh, zh, hL0, (by omega), by rw [Q1U hx1]; assumption, by assumption, hS.sp⟩, Qs (by omega)⟩)
 · skip
   all_goals (refine zex ?_)
   all_goals (obtain ⟨c11, hle2, hS, hk6⟩ := St.freezeL (r := funcR) (l := l) hS (by rw [List.take_of_length_le (by omega)] at hls; exact hls) rfl (by omega); obtain ⟨a6, n6, rfl⟩ := Rep.SR.shape hk6; (try have hle := hle.trans hle2); (try have hL0 := hL0.trans hle2); (try have hf := hf.up hle2); (try have hls := hls.up hle2))
   all_goals (refine Q0 ?_; refine Q1 ?_; refine zv hS ?_; refine zsn hS ?_; intro w1 hS; have hS := hS.ns; refine zn ?_; refine zr ?_; refine Q1d vw (Q6 (n := 1) (by kernel_rfl) (by kernel_rfl) (hS.blkAt fd) (by rfl) (by rfl)) ?_; exact ⟨_, rfl, c11, _, rfl, hle, ⟨_, rfl, hk6⟩, hS.sp⟩)
end Go.Proofs.YteflkifmgnpbhaaGreat
namespace Go.Lir
/-- Why a run does not begin. -/
def Q2d (m : Module) (inp : List Int) (fuel pages : Int) : Flt := if m.fault.1 ≠ 0 then m.fault else if 200 < inp.length ∨ fuel < 0 ∨ 20000 < fuel ∨ pages < 0 ∨ 64 < pages then (1, -1) else (0, 0)
theorem Q1X {m : Module} {inp : List Int} {fuel pages : Int} (h : m.fault.1 ≠ 0) : Q2d m inp fuel pages = m.fault := if_pos h
theorem Q2A {m : Module} {inp : List Int} {fuel pages : Int} (h : ¬ m.fault.1 ≠ 0) (hr : 200 < inp.length ∨ fuel < 0 ∨ 20000 < fuel ∨ pages < 0 ∨ 64 < pages) : Q2d m inp fuel pages = (1, -1) := (if_neg h).trans (if_pos hr)
theorem Q4Z {m : Module} {inp : List Int} {fuel pages : Int} (h : ¬ m.fault.1 ≠ 0) (hr : ¬ (200 < inp.length ∨ fuel < 0 ∨ 20000 < fuel ∨ pages < 0 ∨ 64 < pages)) : Q2d m inp fuel pages = (0, 0) := (if_neg h).trans (if_neg hr)
end Go.Lir
namespace Go.Proofs.YteflkifmgnpbhaaGreat
open Go.Lir
set_option maxHeartbeats 1000000
attribute [local irreducible] LC.wp Q2 QD QF retQ Q1a LO.wp Qf Calls
set_option linter.unusedSimpArgs false
set_option linter.unusedVariables false
variable {cx : Cx} {w : World} {L : List Res} {m : Module} {inp : List Int}
@[reducible] def newC (hp fn lv iv : Value) (fuel : Int) : MC := ⟨hp, fn, lv, iv, 0, .slice none 0 0, .slice none 0 0, 0, fuel, false, 0, 0⟩
@[reducible] def newG : FrmV := ⟨0, 0, 0, .slice none 0 0, [], .slice none 0 0, []⟩
/-- What a new machine is. -/
def NewS (m : Module) (inp : List Int) (fuel pages : Int) (cx : Cx) (L : List Res) (u : Value) (w' : World) : Prop :=
 ((Q2d m inp fuel pages).1 ≠ 0 ∧ u = .tuple #[.pointer none, fltV (Q2d m inp fuel pages)] ∧ St cx w' L) ∨
 (Q2d m inp fuel pages = (0, 0) ∧ m.fault.1 = 0 ∧ inp.length ≤ 200 ∧ 0 ≤ fuel ∧ fuel ≤ 20000 ∧ 0 ≤ pages ∧ pages ≤ 64 ∧ ∃ c' p hp fn lv iv, u = .tuple #[.pointer (some ⟨p, 0, none⟩), fltV (0, 0)] ∧ cx.Le c' ∧ funcR.sl c' fn m.funcs ∧ intR.sl c' iv inp ∧ St c' w' (mS p (newC hp fn lv iv fuel) [] newG 0 ⟨[], pages⟩ [] L))
theorem new_c {cs : List Value} {v : Value} {fuel pages : Int} (hsh : m.Short) (hx : modR.at cx cs m) (hi : intR.sl cx v inp) (hS : St cx w L) :
 Rets Tryz.prog QdK [.agg ⟨cs⟩, v, .int .i64 fuel, .int .i64 pages] w (NewS m inp fuel pages cx L) := by
 have hle := St.refl hS
 have hx' := hx
 obtain ⟨vf, rfl, hf⟩ := Q1w hx
 have hil := hi.len
 unfold NewS
 all_goals refine lgo tyD Tryz.func20 ?_
 all_goals (refine Q0 ?_; refine Q1 ?_; refine zb hS ?_; intro p4 w1 hS; refine zm ?_; refine Q5 hS ?_; intro p9 w1 hS; refine zn ?_; refine Q0 ?_; refine Q0 ?_; refine Q1 ?_; refine zv hS ?_; refine zR1 (c := pcheck_c hsh hx' hS) (h := ?_); rintro v1 w1 ⟨rfl, hS⟩; unfold fltV; refine Q5 hS ?_; intro p10 w1 hS; refine zsn hS ?_; intro w1 hS; have hS := hS.ns; refine zn ?_; refine Q0 ?_; refine Q1 ?_; refine zf0 ?_; refine zl hS ?_)
 all_goals (first | (refine QJ ?_) | (refine QN ?_) | (refine Ql rfl rfl (fun hc => ?_) (fun hc => ?_)))
 all_goals (refine zn ?_)
 all_goals
  first
  | (refine zct ?_
     all_goals (refine Q0 ?_; refine zD [(0, none), (1, none), (2, some none)] ?_; have hS := hS.drew; refine zv hS ?_; refine zm ?_; refine zsn hS ?_; intro w1 hS; have hS := hS.ns; refine zn ?_; refine zr ?_; refine Q5L vw vw (Q6 (n := 2) (by kernel_rfl) (by kernel_rfl) (hS.blkAt fd) (by rfl) (by rfl)) ?_)
     all_goals (exact ⟨_, rfl, .inl ⟨by rw [Q1X (by omega)]; omega, by rw [Q1X (by omega)]; rfl, hS.sp⟩⟩))
  | (refine zcf ?_
     all_goals refine zsk ?_)
 all_goals (refine Q0 ?_; refine Q0 ?_; refine Q1 ?_; refine zm ?_; refine zL ?_)
 all_goals (first | (refine QL ?_) | (refine QQ ?_) | (refine Qe rfl rfl (fun hc => ?_) (fun hc => ?_)))
 all_goals (refine zm ?_; (first | refine zgn ?_ | (refine zgy ?_; refine zm ?_)))
 all_goals (first | refine zgn ?_ | (refine zgy ?_; (first | (refine Q18 ?_) | (refine Q1c ?_) | (refine Qy rfl rfl (fun hc => ?_) (fun hc => ?_)))))
 all_goals ((first | (refine zpt ?_) | (refine zpf ?_)); refine zm ?_; (first | refine zgn ?_ | (refine zgy ?_; refine zm ?_)))
 all_goals (first | refine zgn ?_ | (refine zgy ?_; (first | (refine QL ?_) | (refine QQ ?_) | (refine Qe rfl rfl (fun hc => ?_) (fun hc => ?_)))))
 all_goals ((first | (refine zpt ?_) | (refine zpf ?_)); refine zm ?_; (first | refine zgn ?_ | (refine zgy ?_; refine zm ?_)))
 all_goals (first | refine zgn ?_ | (refine zgy ?_; (first | (refine Q18 ?_) | (refine Q1c ?_) | (refine Qy rfl rfl (fun hc => ?_) (fun hc => ?_)))))
 all_goals ((first | (refine zpt ?_) | (refine zpf ?_)); refine zm ?_; (first | refine zgn ?_ | (refine zgy ?_; refine zm ?_)))
 all_goals (first | refine zgn ?_ | (refine zgy ?_; (first | (refine QL ?_) | (refine QQ ?_) | (refine Qe rfl rfl (fun hc => ?_) (fun hc => ?_)))))
 all_goals ((first | (refine zpt ?_) | (refine zpf ?_)); refine zn ?_)
 all_goals
  first
  | (refine zct ?_
     all_goals (refine Q0 ?_; refine Q1 ?_; refine zb2 [_, _] ?_; refine zm ?_; refine zsn hS ?_; intro w1 hS; have hS := hS.ns; refine zn ?_; refine zr ?_; refine Q5L vw vw (Q6 (n := 2) (by kernel_rfl) (by kernel_rfl) (hS.blkAt fd) (by rfl) (by rfl)) ?_)
     all_goals ((first | exact ⟨_, rfl, .inl ⟨by rw [Q1X (by omega)]; omega, by rw [Q1X (by omega)]; rfl, hS.sp⟩⟩ | exact ⟨_, rfl, .inl ⟨by rw [Q2A (by omega) (by omega)]; decide, by rw [Q2A (by omega) (by omega)]; rfl, hS.sp⟩⟩)))
  | (refine zcf ?_
     all_goals refine zsk ?_)
 all_goals (refine Q0 ?_)
 refine Q24 1 5 (by kernel_rfl) ?_ ?_
 · skip
   refine Q24 3 5 (by kernel_rfl) ?_ ?_
   · skip
     refine Q24 5 7 (by kernel_rfl) ?_ ?_
     · skip
       all_goals (refine zC [(0, none), (2, none), (4, none), (6, none), (8, none), (11, none), (1, some (some [2])), (3, some (some [])), (5, some (some [])), (7, some (some [])), (9, none), (10, some (some [])), (12, none), (13, some none)] ?_; have hS := hS.drew; refine s_cq ?_; refine zm ?_; refine zt ?_; refine s_cq ?_; refine zv hS ?_; refine zt ?_; refine s_cq ?_; refine zb0 [_, _, _, _, _] ?_; refine zt ?_; refine s_cq ?_; refine zm ?_; refine zt ?_; refine s_cq ?_; refine zm ?_; refine zt ?_; refine s_cq ?_; refine zb0 [_, _] ?_; refine zt ?_; refine Qj ?_; refine zR1 (c := Qbj pages (by omega) hS) (h := ?_); rintro v1 w1 ⟨bh, rfl, hS⟩; refine zt ?_; refine zy ?_; refine Qj ?_; refine zR1 (c := Q53 hsh hx' hS) (h := ?_); rintro v1 w1 ⟨c1, ds, rfl, hle1, hx1, hS⟩; obtain ⟨vf1, rfl, hf1⟩ := Q1w hx1; have hi := Rep.SR.up hi hle1; obtain ⟨af, nf, rfl⟩ := Rep.SR.shape hf1; refine zt ?_; refine zy ?_; refine Qj ?_; refine zB1 hS [_, _, _, _, _] ?_; intro b1 w1 hS; have hS := St.slOf (T := 110) (es := 5) (css := [[.int .i64 0, .int .i64 0, .int .i64 0, .slice none 0 0, .slice none 0 0]]) hS rfl (by simp) rfl; refine zt ?_; refine zy ?_; refine Qj ?_; refine zR1 (c := Q3s (by omega) hi hS) (h := ?_); rintro vi w1 ⟨c2, hle2, hi2, hS⟩; have hf1 := Rep.SR.up hf1 hle2; obtain ⟨ai, ni, rfl⟩ := Rep.SR.shape hi2; refine zt ?_; refine zy ?_; refine s_cq ?_; refine zb5 [_, _, _, _, _, _, _, _, _, _, _, _] ?_)
       all_goals (refine zt ?_; refine Qj ?_; refine zb hS ?_; intro p47 w1 hS; refine zt ?_; refine zy ?_; refine s_cq ?_; refine zm ?_; refine zt ?_; refine s_cf ?_; refine zsn hS ?_; intro w1 hS; have hS := hS.ns; refine zt ?_; refine zcn ?_; refine zr ?_; refine Q5L vw vw (Q6 (n := 2) (by kernel_rfl) (by kernel_rfl) (hS.blkAt fd) (by rfl) (by rfl)) ?_; (first | exact ⟨_, rfl, .inl ⟨by rw [Q1X (by omega)]; omega, by rw [Q1X (by omega)]; rfl, hS.sp⟩⟩ | exact ⟨_, rfl, .inl ⟨by rw [Q2A (by omega) (by omega)]; decide, by rw [Q2A (by omega) (by omega)]; rfl, hS.sp⟩⟩ | (have hS := St.big_nil FrmV.res (St.nil (T := 224) (es := 4) (St.nil (T := 3) (es := 1) (St.nil (T := 2) (es := 1) hS))); exact ⟨_, rfl, .inr ⟨Q4Z (by omega) (by omega), by omega, by omega, by omega, by omega, by omega, by omega, c2, _, _, _, _, _, rfl, hle1.trans hle2, hf1, hi2, hS.sp⟩⟩)))
     · skip
       all_goals (refine zC [(0, none), (2, none), (4, none), (6, none), (8, none), (11, none), (1, some (some [2])), (3, some (some [])), (7, some (some [])), (5, some (some [])), (9, none), (10, some (some [])), (12, none), (13, some none)] ?_; have hS := hS.drew; refine s_cq ?_; refine zm ?_; refine zt ?_; refine s_cq ?_; refine zv hS ?_; refine zt ?_; refine s_cq ?_; refine zb0 [_, _, _, _, _] ?_; refine zt ?_; refine s_cq ?_; refine zm ?_; refine zt ?_; refine s_cq ?_; refine zm ?_; refine zt ?_; refine s_cq ?_; refine zb0 [_, _] ?_; refine zt ?_; refine Qj ?_; refine zR1 (c := Qbj pages (by omega) hS) (h := ?_); rintro v1 w1 ⟨bh, rfl, hS⟩; refine zt ?_; refine zy ?_; refine Qj ?_; refine zR1 (c := Q53 hsh hx' hS) (h := ?_); rintro v1 w1 ⟨c1, ds, rfl, hle1, hx1, hS⟩; obtain ⟨vf1, rfl, hf1⟩ := Q1w hx1; have hi := Rep.SR.up hi hle1; obtain ⟨af, nf, rfl⟩ := Rep.SR.shape hf1; refine zt ?_; refine zy ?_; refine Qj ?_; refine zR1 (c := Q3s (by omega) hi hS) (h := ?_); rintro vi w1 ⟨c2, hle2, hi2, hS⟩; have hf1 := Rep.SR.up hf1 hle2; obtain ⟨ai, ni, rfl⟩ := Rep.SR.shape hi2; refine zt ?_; refine zy ?_; refine Qj ?_; refine zB1 hS [_, _, _, _, _] ?_; intro b1 w1 hS; have hS := St.slOf (T := 110) (es := 5) (css := [[.int .i64 0, .int .i64 0, .int .i64 0, .slice none 0 0, .slice none 0 0]]) hS rfl (by simp) rfl; refine zt ?_; refine zy ?_; refine s_cq ?_; refine zb5 [_, _, _, _, _, _, _, _, _, _, _, _] ?_)
       all_goals (refine zt ?_; refine Qj ?_; refine zb hS ?_; intro p47 w1 hS; refine zt ?_; refine zy ?_; refine s_cq ?_; refine zm ?_; refine zt ?_; refine s_cf ?_; refine zsn hS ?_; intro w1 hS; have hS := hS.ns; refine zt ?_; refine zcn ?_; refine zr ?_; refine Q5L vw vw (Q6 (n := 2) (by kernel_rfl) (by kernel_rfl) (hS.blkAt fd) (by rfl) (by rfl)) ?_; (first | exact ⟨_, rfl, .inl ⟨by rw [Q1X (by omega)]; omega, by rw [Q1X (by omega)]; rfl, hS.sp⟩⟩ | exact ⟨_, rfl, .inl ⟨by rw [Q2A (by omega) (by omega)]; decide, by rw [Q2A (by omega) (by omega)]; rfl, hS.sp⟩⟩ | (have hS := St.big_nil FrmV.res (St.nil (T := 224) (es := 4) (St.nil (T := 3) (es := 1) (St.nil (T := 2) (es := 1) hS))); exact ⟨_, rfl, .inr ⟨Q4Z (by omega) (by omega), by omega, by omega, by omega, by omega, by omega, by omega, c2, _, _, _, _, _, rfl, hle1.trans hle2, hf1, hi2, hS.sp⟩⟩)))
   · skip
     all_goals (refine zC [(0, none), (2, none), (4, none), (6, none), (8, none), (11, none), (1, some (some [2])), (5, some (some [2])), (3, some (some [])), (7, some (some [])), (9, none), (10, some (some [])), (12, none), (13, some none)] ?_; have hS := hS.drew; refine s_cq ?_; refine zm ?_; refine zt ?_; refine s_cq ?_; refine zv hS ?_; refine zt ?_; refine s_cq ?_; refine zb0 [_, _, _, _, _] ?_; refine zt ?_; refine s_cq ?_; refine zm ?_; refine zt ?_; refine s_cq ?_; refine zm ?_; refine zt ?_; refine s_cq ?_; refine zb0 [_, _] ?_; refine zt ?_; refine Qj ?_; refine zR1 (c := Qbj pages (by omega) hS) (h := ?_); rintro v1 w1 ⟨bh, rfl, hS⟩; refine zt ?_; refine zy ?_; refine Qj ?_; refine zB1 hS [_, _, _, _, _] ?_; intro b1 w1 hS; have hS := St.slOf (T := 110) (es := 5) (css := [[.int .i64 0, .int .i64 0, .int .i64 0, .slice none 0 0, .slice none 0 0]]) hS rfl (by simp) rfl; refine zt ?_; refine zy ?_; refine Qj ?_; refine zR1 (c := Q53 hsh hx' hS) (h := ?_); rintro v1 w1 ⟨c1, ds, rfl, hle1, hx1, hS⟩; obtain ⟨vf1, rfl, hf1⟩ := Q1w hx1; have hi := Rep.SR.up hi hle1; obtain ⟨af, nf, rfl⟩ := Rep.SR.shape hf1; refine zt ?_; refine zy ?_; refine Qj ?_; refine zR1 (c := Q3s (by omega) hi hS) (h := ?_); rintro vi w1 ⟨c2, hle2, hi2, hS⟩; have hf1 := Rep.SR.up hf1 hle2; obtain ⟨ai, ni, rfl⟩ := Rep.SR.shape hi2; refine zt ?_; refine zy ?_; refine s_cq ?_; refine zb5 [_, _, _, _, _, _, _, _, _, _, _, _] ?_)
     all_goals (refine zt ?_; refine Qj ?_; refine zb hS ?_; intro p47 w1 hS; refine zt ?_; refine zy ?_; refine s_cq ?_; refine zm ?_; refine zt ?_; refine s_cf ?_; refine zsn hS ?_; intro w1 hS; have hS := hS.ns; refine zt ?_; refine zcn ?_; refine zr ?_; refine Q5L vw vw (Q6 (n := 2) (by kernel_rfl) (by kernel_rfl) (hS.blkAt fd) (by rfl) (by rfl)) ?_; (first | exact ⟨_, rfl, .inl ⟨by rw [Q1X (by omega)]; omega, by rw [Q1X (by omega)]; rfl, hS.sp⟩⟩ | exact ⟨_, rfl, .inl ⟨by rw [Q2A (by omega) (by omega)]; decide, by rw [Q2A (by omega) (by omega)]; rfl, hS.sp⟩⟩ | (have hS := St.big_nil FrmV.res (St.nil (T := 224) (es := 4) (St.nil (T := 3) (es := 1) (St.nil (T := 2) (es := 1) hS))); exact ⟨_, rfl, .inr ⟨Q4Z (by omega) (by omega), by omega, by omega, by omega, by omega, by omega, by omega, c2, _, _, _, _, _, rfl, hle1.trans hle2, hf1, hi2, hS.sp⟩⟩)))
 · skip
   all_goals (refine zC [(0, none), (2, none), (4, none), (6, none), (8, none), (11, none), (5, some (some [2])), (1, some (some [2])), (3, some (some [])), (7, some (some [])), (9, none), (10, some (some [])), (12, none), (13, some none)] ?_; have hS := hS.drew; refine s_cq ?_; refine zm ?_; refine zt ?_; refine s_cq ?_; refine zv hS ?_; refine zt ?_; refine s_cq ?_; refine zb0 [_, _, _, _, _] ?_; refine zt ?_; refine s_cq ?_; refine zm ?_; refine zt ?_; refine s_cq ?_; refine zm ?_; refine zt ?_; refine s_cq ?_; refine zb0 [_, _] ?_; refine zt ?_; refine Qj ?_; refine zB1 hS [_, _, _, _, _] ?_; intro b1 w1 hS; have hS := St.slOf (T := 110) (es := 5) (css := [[.int .i64 0, .int .i64 0, .int .i64 0, .slice none 0 0, .slice none 0 0]]) hS rfl (by simp) rfl; refine zt ?_; refine zy ?_; refine Qj ?_; refine zR1 (c := Qbj pages (by omega) hS) (h := ?_); rintro v1 w1 ⟨bh, rfl, hS⟩; refine zt ?_; refine zy ?_; refine Qj ?_; refine zR1 (c := Q53 hsh hx' hS) (h := ?_); rintro v1 w1 ⟨c1, ds, rfl, hle1, hx1, hS⟩; obtain ⟨vf1, rfl, hf1⟩ := Q1w hx1; have hi := Rep.SR.up hi hle1; obtain ⟨af, nf, rfl⟩ := Rep.SR.shape hf1; refine zt ?_; refine zy ?_; refine Qj ?_; refine zR1 (c := Q3s (by omega) hi hS) (h := ?_); rintro vi w1 ⟨c2, hle2, hi2, hS⟩; have hf1 := Rep.SR.up hf1 hle2; obtain ⟨ai, ni, rfl⟩ := Rep.SR.shape hi2; refine zt ?_; refine zy ?_; refine s_cq ?_; refine zb5 [_, _, _, _, _, _, _, _, _, _, _, _] ?_)
   all_goals (refine zt ?_; refine Qj ?_; refine zb hS ?_; intro p47 w1 hS; refine zt ?_; refine zy ?_; refine s_cq ?_; refine zm ?_; refine zt ?_; refine s_cf ?_; refine zsn hS ?_; intro w1 hS; have hS := hS.ns; refine zt ?_; refine zcn ?_; refine zr ?_; refine Q5L vw vw (Q6 (n := 2) (by kernel_rfl) (by kernel_rfl) (hS.blkAt fd) (by rfl) (by rfl)) ?_; (first | exact ⟨_, rfl, .inl ⟨by rw [Q1X (by omega)]; omega, by rw [Q1X (by omega)]; rfl, hS.sp⟩⟩ | exact ⟨_, rfl, .inl ⟨by rw [Q2A (by omega) (by omega)]; decide, by rw [Q2A (by omega) (by omega)]; rfl, hS.sp⟩⟩ | (have hS := St.big_nil FrmV.res (St.nil (T := 224) (es := 4) (St.nil (T := 3) (es := 1) (St.nil (T := 2) (es := 1) hS))); exact ⟨_, rfl, .inr ⟨Q4Z (by omega) (by omega), by omega, by omega, by omega, by omega, by omega, by omega, c2, _, _, _, _, _, rfl, hle1.trans hle2, hf1, hi2, hS.sp⟩⟩)))
end Go.Proofs.YteflkifmgnpbhaaGreat
namespace Go.Lir
set_option linter.unusedVariables false
def hasB (l : List Bool) (r : Int) : Bool := decide (0 ≤ r) && decide (r < l.length) && l.getD r.toNat false

/-- The numbers ahead of n that are held. -/
def Q1y (l : List Bool) (n : Nat) : List Int := ((List.range n).filter fun j => l.getD j false).map Int.ofNat
def Q1B (l : List Bool) : List Int := Q1y l l.length
theorem Q4T (l : List Bool) (n : Nat) : Q1y l (n + 1) = Q1y l n ++ if l.getD n false then [(n : Int)] else [] := by
 unfold Q1y
 rw [List.range_succ, List.filter_append, List.map_append]
 congr 1
 by_cases h : l.getD n false = true
 · rw [if_pos h, List.filter_cons_of_pos (by simpa using h)]; rfl
 · rw [if_neg h, List.filter_cons_of_neg (by simpa using h)]; rfl
theorem Q7K (l : List Bool) (n : Nat) : (Q1y l n).length ≤ n := by
 unfold Q1y
 rw [List.length_map]
 exact Nat.le_trans (List.length_filter_le _ _) (by simp)

/-- What Pass answers: of the numbers yet to come, behind those that were seen. -/
def Q1r (l : List Bool) (seen : List Int) : List Int → Int
 | [] => if seen.length < (Q1B l).length then 12 else 0
 | x :: xs => if hasB l x then if x ∈ seen then 13 else Q1r l (seen ++ [x]) xs else 10
theorem Q5j {l : List Bool} {r : Int} (h : hasB l r = true) : 0 ≤ r ∧ r < l.length ∧ l.getD r.toNat false = true := by
 simp only [hasB, Bool.and_eq_true, decide_eq_true_eq] at h; exact ⟨h.1.1, h.1.2, h.2⟩

def Q3j (l : List Bool) (xs0 seen : List Int) : List Int → Int
 | [] => if ∀ y ∈ Q1B l, y ∈ xs0 then 0 else 12
 | x :: xs => if hasB l x then if x ∈ seen then 13 else Q3j l xs0 (seen ++ [x]) xs else 10

/-! ### What both answer is the same -/

theorem mem_heldL {l : List Bool} {x : Int} : x ∈ Q1B l ↔ hasB l x = true := by
 simp only [Q1B, Q1y, List.mem_map, List.mem_filter, List.mem_range, hasB, Bool.and_eq_true, decide_eq_true_eq]
 constructor
 · rintro ⟨j, ⟨h1, h2⟩, rfl⟩
   exact ⟨⟨by simp, by simpa using h1⟩, by simpa using h2⟩
 · rintro ⟨⟨h0, h1⟩, h2⟩
   exact ⟨x.toNat, ⟨by omega, h2⟩, by simp; omega⟩
theorem Qab (l : List Bool) : (Q1B l).Nodup := by
 unfold Q1B Q1y
 unfold List.Nodup
 rw [List.pairwise_map]
 refine List.Pairwise.imp ?_ (List.Pairwise.filter _ (List.nodup_range (n := l.length)))
 intro a b h e; exact h (Int.ofNat.inj e)
theorem Q92 (l : List Bool) (xs : List Int) : ∀ (rest seen : List Int), seen ++ rest = xs → seen.Nodup → (∀ y ∈ seen, hasB l y = true) → Q1r l seen rest = Q3j l xs seen rest := by
 intro rest
 induction rest with
 | nil =>
   intro seen he hn hs
   rw [List.append_nil] at he; subst he
   simp only [Q1r, Q3j]
   have h1 : seen.length ≤ (Q1B l).length := Q3d hn fun y hy => mem_heldL.2 (hs y hy)
   by_cases h : ∀ y ∈ Q1B l, y ∈ seen
   · have := Q3d (Qab l) h
     rw [if_pos h, if_neg (by omega)]
   · rw [if_neg h, if_pos]
     simp only [Classical.not_forall] at h
     obtain ⟨y, hy, hn'⟩ := h
     have := Q3d (a := y :: seen) (b := Q1B l) (List.nodup_cons.2 ⟨hn', hn⟩) (by
      intro z hz
      rcases List.mem_cons.1 hz with rfl | hz
      · exact hy
      · exact mem_heldL.2 (hs z hz))
     simp only [List.length_cons] at this; omega
 | cons x rest ih =>
   intro seen he hn hs
   simp only [Q1r, Q3j]
   by_cases h1 : hasB l x = true
   · rw [if_pos h1, if_pos h1]
     by_cases h2 : x ∈ seen
     · rw [if_pos h2, if_pos h2]
     · rw [if_neg h2, if_neg h2]
       refine ih (seen ++ [x]) (by rw [List.append_assoc]; exact he) ?_ ?_
       · rw [List.nodup_append]
         exact ⟨hn, by simp, fun a ha b hb e => by simp at hb; subst hb; subst e; exact h2 ha⟩
       · intro y hy
         rcases List.mem_append.1 hy with hy | hy
         · exact hs y hy
         · simp at hy; subst hy; exact h1
   · rw [if_neg h1, if_neg h1]
theorem Qdh (l : List Bool) (xs : List Int) : Q1r l [] xs = Q3j l xs [] xs := Q92 l xs xs [] rfl List.nodup_nil (by simp)
end Go.Lir
namespace Go.Lir
set_option linter.unusedVariables false
/-- Which regions are held, which values there are. -/
structure JS where
 h : List Bool
 l : List Ty
deriving instance DecidableEq for JS
def jval (s : JS) (k : Int) : Except Int Ty := if k < 0 then .error 1 else match s.l[k.toNat]? with
 | none => .error 1
 | some t => .ok t
def ebind {α β : Type} (x : Except Int α) (f : α → Except Int β) : Except Int β := match x with
 | .error e => .error e
 | .ok a => f a
theorem Q1n {α β : Type} {x : Except Int α} {f : α → Except Int β} {e : Int} (h : x = .error e) : ebind x f = .error e := by rw [h]; rfl
theorem Qo {α β : Type} {x : Except Int α} {f : α → Except Int β} {a : α} (h : x = .ok a) : ebind x f = f a := by rw [h]; rfl
theorem Q7 {α β : Type} {x : Except Int α} {f : α → Except Int β} {b : β} (h : ebind x f = .ok b) : ∃ a, x = .ok a ∧ f a = .ok b := by
 cases x with
 | error e => cases h
 | ok a => exact ⟨a, rfl, h⟩
def jkind (s : JS) (k kind : Int) : Except Int Ty := ebind (jval s k) fun t => if t.kind ≠ kind then .error 9 else .ok t
def jat (s : JS) (k kind : Int) : Except Int Ty := ebind (jkind s k kind) fun t => if hasB s.h t.r = false then .error 10 else .ok t
def jput (s : JS) (t : Ty) : Except Int JS := if s.l.length = 80 then .error 2 else .ok ⟨s.h, s.l ++ [t]⟩
def Q21 (s : JS) (regs : List Int) : List Int → List Ty → Except Int Unit
 | k :: l, u :: want => ebind (jval s k) fun t => match u.ren regs with
   | none => .error 9
   | some u' => if t ≠ u' then .error 9 else Q21 s regs l want
 | _, _ => .ok ()
def Q45 (s : JS) (l : List Int) (want : List Ty) (regs : List Int) : Except Int Unit := if l.length ≠ want.length then .error 2 else Q21 s regs l want
def Q2O (t : Ty) (k : Int) : Except Int Ty := match t.l[k.toNat]? with
 | none => .error 9
 | some u => .ok u
/-- The regions that a call hands over: those behind p. -/
def Q2p (h : List Bool) (p : List Int) : List Int → Except Int Unit
 | [] => .ok ()
 | r :: l => if hasB h r = false then .error 10 else if r ∈ p then .error 13 else Q2p h (p ++ [r]) l
def renT (to : List Int) (t : Ty) : Ty := (t.ren to).getD (.mk 0 0 [])
def Q6k (m : Module) (s : JS) (x : Ins) : Except Int JS := match m.funcs[x.k.toNat]? with
 | none => .error 1
 | some g => if (x.regs.length : Int) ≠ g.regs then .error 2 else ebind (Q2p s.h [] x.regs) fun _ => ebind (Q45 s x.args g.params x.regs) fun _ =>
   if 80 < s.l.length + g.results.length then .error 2 else .ok ⟨s.h, s.l ++ g.results.map (renT x.regs)⟩
/-- The types of the values of these numbers, behind some. -/
def jfields (s : JS) : List Int → Except Int (List Ty)
 | [] => .ok []
 | k :: l => ebind (jval s k) fun t => ebind (jfields s l) fun ts => .ok (t :: ts)
def number : Ty := .mk 1 0 []
def Q67 (s : JS) (x : Ins) : Except Int JS := ebind (jat s x.a 2) fun t => ebind (jfields s x.args) fun ts =>
 if (Ty.mk 3 t.r ts).fault s.h.length ≠ 0 then .error 19 else jput s (.mk 3 t.r ts)
def jins (m : Module) (f : Fun) (s : JS) (x : Ins) : Except Int JS :=
 if x.op = 1 ∨ x.op = 12 then jput s number
 else if x.op = 2 then ebind (jkind s x.a 1) fun _ => ebind (jkind s x.b 1) fun _ => jput s number
 else if x.op = 3 then (if s.h.length = 16 ∨ s.l.length = 80 then .error 2 else .ok ⟨s.h ++ [true], s.l ++ [.mk 2 s.h.length []]⟩)
 else if x.op = 4 then ebind (jat s x.a 2) fun t => if t.r < f.regs then .error 11 else .ok ⟨s.h.set t.r.toNat false, s.l⟩
 else if x.op = 5 then Q67 s x
 else if x.op = 6 then ebind (jat s x.a 3) fun t => ebind (Q2O t x.k) fun u => jput s u
 else if x.op = 7 then ebind (jat s x.a 3) fun t => ebind (Q2O t x.k) fun u => ebind (jval s x.b) fun v => if u ≠ v then .error 9 else .ok s
 else if x.op = 8 then ebind (jat s x.a 2) fun t => ebind (jkind s x.b 1) fun _ => jput s (.mk 4 t.r [])
 else if x.op = 9 then ebind (jat s x.a 4) fun _ => ebind (jkind s x.b 1) fun _ => jput s number
 else if x.op = 10 then ebind (jat s x.a 4) fun _ => ebind (jkind s x.b 1) fun _ => ebind (jkind s x.c 1) fun _ => .ok s
 else if x.op = 11 then ebind (jat s x.a 4) fun _ => jput s number
 else if x.op = 13 then ebind (jkind s x.a 1) fun _ => .ok s
 else Q6k m s x
/-- One instruction: a code, and what is known behind it. -/
def jIns (m : Module) (f : Fun) (s : JS) (x : Ins) : Int × JS := if Qw m.funcs.length x ≠ 0 then (Qw m.funcs.length x, s) else match jins m f s x with
 | .error c => (c, s)
 | .ok s' => (0, s')
/-- Do the first n numbers of a list stand for themselves? -/
def Q37 (l : List Int) (n : Nat) : Bool := (List.range n).all fun i => decide (l[i]? = some (i : Int))
def jto (f : Fun) (s : JS) (t : To) : Except Int Unit := match f.blocks[t.block.toNat]? with
 | none => .error 1
 | some b => if (t.regs.length : Int) ≠ b.regs then .error 2 else if Q37 t.regs f.regs.toNat = false then .error 11 else
   if Q1r s.h [] t.regs ≠ 0 then .error (Q1r s.h [] t.regs) else Q45 s t.args b.params t.regs
def upTo (n : Nat) : List Int := (List.range n).map Int.ofNat
def jend (f : Fun) (s : JS) (e : Tail) : Except Int Unit :=
 if e.op = 1 then jto f s e.yes
 else if e.op = 2 then ebind (jkind s e.a 1) fun _ => ebind (jto f s e.yes) fun _ => jto f s e.no
 else ebind (Q45 s e.args f.results (upTo f.regs.toNat)) fun _ => if f.regs < (Q1B s.h).length then .error 12 else .ok ()
def jEnd (f : Fun) (s : JS) (e : Tail) : Int := if Q1l f.blocks.length e ≠ 0 then Q1l f.blocks.length e else match jend f s e with
 | .error c => c
 | .ok _ => 0
/-- At the beginning of a block. -/
def Q1s (y : Block) : JS := ⟨List.replicate (min y.regs 16).toNat true, y.params⟩

/-! ### What is true of it -/
theorem Q8g {s : JS} {k : Int} {t : Ty} (h : jval s k = .ok t) : 0 ≤ k ∧ s.l[k.toNat]? = some t := by
 unfold jval at h
 split at h
 · cases h
 · rename_i h0
   split at h
   · cases h
   · rename_i u hu; cases h; exact ⟨by omega, hu⟩
theorem Q4O {s : JS} {k : Int} (h : k < 0 ∨ (s.l.length : Int) ≤ k) : jval s k = .error 1 := by
 unfold jval
 by_cases h0 : k < 0
 · rw [if_pos h0]
 · rw [if_neg h0, List.getElem?_eq_none (by omega)]
theorem Q3f {s : JS} {k : Int} {t : Ty} (h0 : 0 ≤ k) (h : s.l[k.toNat]? = some t) : jval s k = .ok t := by
 unfold jval
 rw [if_neg (by omega), h]
theorem Q8j {s : JS} {k kind : Int} {t : Ty} (h : jkind s k kind = .ok t) : 0 ≤ k ∧ s.l[k.toNat]? = some t ∧ t.kind = kind := by
 obtain ⟨u, h1, h2⟩ := Q7 h
 split at h2
 · cases h2
 · rename_i hk; cases h2; have := Q8g h1; exact ⟨this.1, this.2, Classical.not_not.1 hk⟩
theorem Q5c {s : JS} {k kind : Int} {t : Ty} (h : jat s k kind = .ok t) : 0 ≤ k ∧ s.l[k.toNat]? = some t ∧ t.kind = kind ∧ hasB s.h t.r = true := by
 obtain ⟨u, h1, h2⟩ := Q7 h
 split at h2
 · cases h2
 · rename_i hk; cases h2; have := Q8j h1; exact ⟨this.1, this.2.1, this.2.2, by simpa using hk⟩
theorem Q8i {s s' : JS} {t : Ty} (h : jput s t = .ok s') : s.l.length ≠ 80 ∧ s'.h = s.h ∧ s'.l = s.l ++ [t] := by
 unfold jput at h
 split at h
 · cases h
 · rename_i hk; cases h; exact ⟨hk, rfl, rfl⟩
/-- How an instruction that is let by changes what is known. -/
structure JStep (x : Ins) (s s' : JS) : Prop where
 len : s.l.length ≤ 80 → s'.l.length ≤ 80
 pre : ∃ more, s'.l = s.l ++ more ∧ (x.op ≠ 14 → more.length ≤ 1) ∧ (x.op = 3 → more.length = 1) ∧ (x.op = 4 → more = [])
 new : x.op = 3 → s'.h = s.h ++ [true] ∧ s.h.length ≠ 16
 free : x.op = 4 → ∃ t, 0 ≤ x.a ∧ s.l[x.a.toNat]? = some t ∧ t.kind = 2 ∧ hasB s.h t.r = true ∧ s'.h = s.h.set t.r.toNat false
 else_ : x.op ≠ 3 → x.op ≠ 4 → s'.h = s.h
theorem Q33 {x : Ins} {s s' : JS} {t : Ty} (h : jput s t = .ok s') (h3 : x.op ≠ 3) (h4 : x.op ≠ 4) : JStep x s s' := by
 obtain ⟨h1, h2, h5⟩ := Q8i h
 refine ⟨fun hl => by rw [h5, List.length_append]; simp only [List.length_cons, List.length_nil]; omega, ⟨[t], h5, fun _ => by simp, fun h => absurd h h3, fun h => absurd h h4⟩, fun h => absurd h h3, fun h => absurd h h4, fun _ _ => h2⟩
theorem Q5Q {x : Ins} {s : JS} (h3 : x.op ≠ 3) (h4 : x.op ≠ 4) : JStep x s s :=
 ⟨fun hl => hl, ⟨[], by simp, fun _ => by simp, fun h => absurd h h3, fun h => absurd h h4⟩, fun h => absurd h h3, fun h => absurd h h4, fun _ _ => rfl⟩
theorem Qdw {m : Module} {f : Fun} {s s' : JS} {x : Ins} (hop : 1 ≤ x.op ∧ x.op ≤ 14) (h : jins m f s x = .ok s') : JStep x s s' := by
 unfold jins at h
 by_cases h1 : x.op = 1 ∨ x.op = 12
 · rw [if_pos h1] at h; exact Q33 h (by omega) (by omega)
 rw [if_neg h1] at h
 by_cases h2 : x.op = 2
 · rw [if_pos h2] at h; obtain ⟨_, _, h⟩ := Q7 h; obtain ⟨_, _, h⟩ := Q7 h; exact Q33 h (by omega) (by omega)
 rw [if_neg h2] at h
 by_cases hc : x.op = 3
 · rw [if_pos hc] at h
   by_cases hn : s.h.length = 16 ∨ s.l.length = 80
   · rw [if_pos hn] at h; cases h
   · rw [if_neg hn] at h
     cases h
     exact ⟨fun hl => by simp only [List.length_append, List.length_cons, List.length_nil]; omega, ⟨[_], rfl, fun _ => by simp, fun _ => rfl, fun h => by omega⟩, fun _ => ⟨rfl, by omega⟩, fun h => by omega, fun h => absurd hc h⟩
 rw [if_neg hc] at h
 by_cases hc4 : x.op = 4
 · rw [if_pos hc4] at h
   obtain ⟨t, h1, h⟩ := Q7 h
   by_cases hk : t.r < f.regs
   · rw [if_pos hk] at h; cases h
   · rw [if_neg hk] at h
     cases h
     obtain ⟨a1, a2, a3, a4⟩ := Q5c h1
     exact ⟨fun hl => hl, ⟨[], by simp, fun _ => by simp, fun h => by omega, fun _ => rfl⟩, fun h => by omega, fun _ => ⟨t, a1, a2, a3, a4, rfl⟩, fun _ h => absurd hc4 h⟩
 rw [if_neg hc4] at h
 by_cases h5 : x.op = 5
 · rw [if_pos h5] at h
   unfold Q67 at h
   obtain ⟨t, _, h⟩ := Q7 h; obtain ⟨ts, _, h⟩ := Q7 h
   by_cases hk : (Ty.mk 3 t.r ts).fault s.h.length ≠ 0
   · rw [if_pos hk] at h; cases h
   · rw [if_neg hk] at h; exact Q33 h (by omega) (by omega)
 rw [if_neg h5] at h
 by_cases h6 : x.op = 6
 · rw [if_pos h6] at h; obtain ⟨_, _, h⟩ := Q7 h; obtain ⟨_, _, h⟩ := Q7 h; exact Q33 h (by omega) (by omega)
 rw [if_neg h6] at h
 by_cases h7 : x.op = 7
 · rw [if_pos h7] at h
   obtain ⟨_, _, h⟩ := Q7 h; obtain ⟨u, _, h⟩ := Q7 h; obtain ⟨v, _, h⟩ := Q7 h
   by_cases hk : u ≠ v
   · rw [if_pos hk] at h; cases h
   · rw [if_neg hk] at h; cases h; exact Q5Q (by omega) (by omega)
 rw [if_neg h7] at h
 by_cases h8 : x.op = 8
 · rw [if_pos h8] at h; obtain ⟨_, _, h⟩ := Q7 h; obtain ⟨_, _, h⟩ := Q7 h; exact Q33 h (by omega) (by omega)
 rw [if_neg h8] at h
 by_cases h9 : x.op = 9
 · rw [if_pos h9] at h; obtain ⟨_, _, h⟩ := Q7 h; obtain ⟨_, _, h⟩ := Q7 h; exact Q33 h (by omega) (by omega)
 rw [if_neg h9] at h
 by_cases h10 : x.op = 10
 · rw [if_pos h10] at h; obtain ⟨_, _, h⟩ := Q7 h; obtain ⟨_, _, h⟩ := Q7 h; obtain ⟨_, _, h⟩ := Q7 h; cases h; exact Q5Q (by omega) (by omega)
 rw [if_neg h10] at h
 by_cases h11 : x.op = 11
 · rw [if_pos h11] at h; obtain ⟨_, _, h⟩ := Q7 h; exact Q33 h (by omega) (by omega)
 rw [if_neg h11] at h
 by_cases h13 : x.op = 13
 · rw [if_pos h13] at h; obtain ⟨_, _, h⟩ := Q7 h; cases h; exact Q5Q (by omega) (by omega)
 rw [if_neg h13] at h
 unfold Q6k at h
 split at h
 · cases h
 · rename_i g hg
   by_cases hr : (x.regs.length : Int) ≠ g.regs
   · rw [if_pos hr] at h; cases h
   · rw [if_neg hr] at h
     obtain ⟨_, _, h⟩ := Q7 h; obtain ⟨_, _, h⟩ := Q7 h
     by_cases hn : 80 < s.l.length + g.results.length
     · rw [if_pos hn] at h; cases h
     · rw [if_neg hn] at h
       cases h
       exact ⟨fun hl => by rw [List.length_append, List.length_map]; omega, ⟨_, rfl, fun h => by omega, fun h => by omega, fun h => by omega⟩, fun h => by omega, fun h => by omega, fun _ _ => rfl⟩
theorem Q2S {n : Nat} {x : Ins} (h : Qw n x = 0) : 1 ≤ x.op ∧ x.op ≤ 14 := by
 unfold Qw at h
 split at h
 · cases h
 · omega
section
variable {s : JS} {regs l : List Int} {want : List Ty} {k : Nat} {x c : Int} {u u' t : Ty}
theorem Qai (hx : l[k]? = some x) (hu : want[k]? = some u) (h : jval s x = .error c) : Q21 s regs (l.drop k) (want.drop k) = .error c := by
 rw [Q3 hx, Q3 hu, Q21, Q1n h]
theorem QdC (hx : l[k]? = some x) (hu : want[k]? = some u) (h : jval s x = .ok t) (hn : u.ren regs = none) : Q21 s regs (l.drop k) (want.drop k) = .error 9 := by
 rw [Q3 hx, Q3 hu, Q21, Qo h, hn]
theorem QdD (hx : l[k]? = some x) (hu : want[k]? = some u) (h : jval s x = .ok t) (hn : u.ren regs = some u') (hd : t ≠ u') : Q21 s regs (l.drop k) (want.drop k) = .error 9 := by
 rw [Q3 hx, Q3 hu, Q21, Qo h, hn]; exact if_pos hd
theorem jargs_s (hx : l[k]? = some x) (hu : want[k]? = some u) (h : jval s x = .ok t) (hn : u.ren regs = some u') (hd : t = u') : Q21 s regs (l.drop k) (want.drop k) = Q21 s regs (l.drop (k + 1)) (want.drop (k + 1)) := by
 rw [Q3 hx, Q3 hu, Q21, Qo h, hn]; exact if_neg (fun h => h hd)
theorem jargs_z (h : l.length ≤ k) : Q21 s regs (l.drop k) (want.drop k) = .ok () := by
 rw [List.drop_of_length_le h, Q21]
 intro k l u w h; cases h
end
section
variable {m : Module} {f : Fun} {s : JS} {x : Ins}
theorem Q68 (h : x.op = 1 ∨ x.op = 12) : jins m f s x = (jput s number) := by
 unfold jins; rw [if_pos (by omega)]
theorem Qbe (h : x.op = 2) : jins m f s x = (ebind (jkind s x.a 1) fun _ => ebind (jkind s x.b 1) fun _ => jput s number) := by
 unfold jins; rw [if_neg (by omega), if_pos (by omega)]
theorem Qbd (h : x.op = 3) : jins m f s x = (if s.h.length = 16 ∨ s.l.length = 80 then .error 2 else .ok ⟨s.h ++ [true], s.l ++ [.mk 2 s.h.length []]⟩) := by
 unfold jins; rw [if_neg (by omega), if_neg (by omega), if_pos (by omega)]
theorem Qbc (h : x.op = 4) : jins m f s x = (ebind (jat s x.a 2) fun t => if t.r < f.regs then .error 11 else .ok ⟨s.h.set t.r.toNat false, s.l⟩) := by
 unfold jins; rw [if_neg (by omega), if_neg (by omega), if_neg (by omega), if_pos (by omega)]
theorem Qbb (h : x.op = 5) : jins m f s x = (Q67 s x) := by
 unfold jins; rw [if_neg (by omega), if_neg (by omega), if_neg (by omega), if_neg (by omega), if_pos (by omega)]
theorem Qba (h : x.op = 6) : jins m f s x = (ebind (jat s x.a 3) fun t => ebind (Q2O t x.k) fun u => jput s u) := by
 unfold jins; rw [if_neg (by omega), if_neg (by omega), if_neg (by omega), if_neg (by omega), if_neg (by omega), if_pos (by omega)]
theorem Qb9 (h : x.op = 7) : jins m f s x = (ebind (jat s x.a 3) fun t => ebind (Q2O t x.k) fun u => ebind (jval s x.b) fun v => if u ≠ v then .error 9 else .ok s) := by
 unfold jins; rw [if_neg (by omega), if_neg (by omega), if_neg (by omega), if_neg (by omega), if_neg (by omega), if_neg (by omega), if_pos (by omega)]
theorem Qb8 (h : x.op = 8) : jins m f s x = (ebind (jat s x.a 2) fun t => ebind (jkind s x.b 1) fun _ => jput s (.mk 4 t.r [])) := by
 unfold jins; rw [if_neg (by omega), if_neg (by omega), if_neg (by omega), if_neg (by omega), if_neg (by omega), if_neg (by omega), if_neg (by omega), if_pos (by omega)]
theorem Qb7 (h : x.op = 9) : jins m f s x = (ebind (jat s x.a 4) fun _ => ebind (jkind s x.b 1) fun _ => jput s number) := by
 unfold jins; rw [if_neg (by omega), if_neg (by omega), if_neg (by omega), if_neg (by omega), if_neg (by omega), if_neg (by omega), if_neg (by omega), if_neg (by omega), if_pos (by omega)]
theorem Q8m (h : x.op = 10) : jins m f s x = (ebind (jat s x.a 4) fun _ => ebind (jkind s x.b 1) fun _ => ebind (jkind s x.c 1) fun _ => .ok s) := by
 unfold jins; rw [if_neg (by omega), if_neg (by omega), if_neg (by omega), if_neg (by omega), if_neg (by omega), if_neg (by omega), if_neg (by omega), if_neg (by omega), if_neg (by omega), if_pos (by omega)]
theorem Q8l (h : x.op = 11) : jins m f s x = (ebind (jat s x.a 4) fun _ => jput s number) := by
 unfold jins; rw [if_neg (by omega), if_neg (by omega), if_neg (by omega), if_neg (by omega), if_neg (by omega), if_neg (by omega), if_neg (by omega), if_neg (by omega), if_neg (by omega), if_neg (by omega), if_pos (by omega)]
theorem Q8k (h : x.op = 13) : jins m f s x = (ebind (jkind s x.a 1) fun _ => .ok s) := by
 unfold jins; rw [if_neg (by omega), if_neg (by omega), if_neg (by omega), if_neg (by omega), if_neg (by omega), if_neg (by omega), if_neg (by omega), if_neg (by omega), if_neg (by omega), if_neg (by omega), if_neg (by omega), if_pos (by omega)]
theorem Q6R (h : x.op = 14) : jins m f s x = (Q6k m s x) := by
 unfold jins; rw [if_neg (by omega), if_neg (by omega), if_neg (by omega), if_neg (by omega), if_neg (by omega), if_neg (by omega), if_neg (by omega), if_neg (by omega), if_neg (by omega), if_neg (by omega), if_neg (by omega), if_neg (by omega)]
theorem QdA {q : Nat} {k c : Int} {ts : List Ty} (hx : x.args[q]? = some k) (hd : jfields s x.args = ebind (jfields s (x.args.drop q)) fun l => .ok (ts ++ l)) (h : jval s k = .error c) : jfields s x.args = .error c := by
 rw [hd, Q3 hx, jfields, Q1n h]; rfl
theorem Qdz {q : Nat} {k : Int} {t : Ty} {ts : List Ty} (hx : x.args[q]? = some k) (hd : jfields s x.args = ebind (jfields s (x.args.drop q)) fun l => .ok (ts ++ l)) (h : jval s k = .ok t) : jfields s x.args = ebind (jfields s (x.args.drop (q + 1))) fun l => .ok ((ts ++ [t]) ++ l) := by
 rw [hd, Q3 hx, jfields, Qo h]
 cases jfields s (x.args.drop (q + 1)) with
 | error c => rfl
 | ok l => simp [ebind]
theorem Qdy {q : Nat} {ts : List Ty} (hd : jfields s x.args = ebind (jfields s (x.args.drop q)) fun l => .ok (ts ++ l)) (h : x.args.length ≤ q) : jfields s x.args = .ok ts := by
 rw [hd, List.drop_of_length_le h, jfields]; simp [ebind]
end
theorem kept_s (l : List Int) (n : Nat) : Q37 l (n + 1) = (Q37 l n && decide (l[n]? = some (n : Int))) := by
 unfold Q37; rw [List.range_succ, List.all_append]; simp
theorem Qah {l : List Int} {n q : Nat} (hq : q < n) (h : l[q]? ≠ some (q : Int)) : Q37 l n = false := by
 unfold Q37
 rw [List.all_eq_false]
 exact ⟨q, List.mem_range.2 hq, by simpa using h⟩
theorem upTo_s (n : Nat) : upTo (n + 1) = upTo n ++ [(n : Int)] := by unfold upTo; rw [List.range_succ, List.map_append]; rfl
section
variable {f : Fun} {s : JS} {t : To} {b : Block} {e : Tail}
theorem jto_2 (hb : f.blocks[t.block.toNat]? = some b) (h : (t.regs.length : Int) ≠ b.regs) : jto f s t = .error 2 := by unfold jto; rw [hb]; exact if_pos h
theorem Qdu (hb : f.blocks[t.block.toNat]? = some b) (h : ¬ (t.regs.length : Int) ≠ b.regs) (h2 : Q37 t.regs f.regs.toNat = false) : jto f s t = .error 11 := by unfold jto; rw [hb]; simp only; rw [if_neg h, if_pos h2]
theorem jto_p (hb : f.blocks[t.block.toNat]? = some b) (h : ¬ (t.regs.length : Int) ≠ b.regs) (h2 : Q37 t.regs f.regs.toNat = true) (h3 : Q1r s.h [] t.regs ≠ 0) : jto f s t = .error (Q1r s.h [] t.regs) := by unfold jto; rw [hb]; simp only; rw [if_neg h, if_neg (by rw [h2]; decide), if_pos h3]
theorem jto_a (hb : f.blocks[t.block.toNat]? = some b) (h : ¬ (t.regs.length : Int) ≠ b.regs) (h2 : Q37 t.regs f.regs.toNat = true) (h3 : Q1r s.h [] t.regs = 0) : jto f s t = Q45 s t.args b.params t.regs := by unfold jto; rw [hb]; simp only; rw [if_neg h, if_neg (by rw [h2]; decide), if_neg (fun h => h h3)]
theorem jend_1 (h : e.op = 1) : jend f s e = jto f s e.yes := by unfold jend; rw [if_pos h]
theorem Qbg (h : e.op = 2) : jend f s e = ebind (jkind s e.a 1) fun _ => ebind (jto f s e.yes) fun _ => jto f s e.no := by unfold jend; rw [if_neg (by omega), if_pos h]
theorem Qbf (h : e.op = 3) : jend f s e = ebind (Q45 s e.args f.results (upTo f.regs.toNat)) fun _ => if f.regs < (Q1B s.h).length then .error 12 else .ok () := by unfold jend; rw [if_neg (by omega), if_neg (by omega)]
theorem Q4l {n : Nat} (h : Q1v n t true = 0) : 0 ≤ t.block ∧ t.block < n := by
 unfold Q1v at h
 simp at h; omega
theorem Q4v {n : Nat} (h : Q1l n e = 0) : 1 ≤ e.op ∧ e.op ≤ 3 ∧ Q1v n e.yes (decide (e.op ≠ 3)) = 0 ∧ Q1v n e.no (decide (e.op = 2)) = 0 := by
 unfold Q1l at h
 split at h
 · cases h
 · split at h
   · cases h
   · split at h
     · cases h
     · unfold orC at h
       split at h
       · rename_i h1; exact absurd h h1
       · rename_i h1; exact ⟨by omega, by omega, Classical.not_not.1 h1, h⟩
end
/-! ### A code that is told is not 0 -/
def NZ {α : Type} (x : Except Int α) : Prop := ∀ c, x = .error c → c ≠ 0
theorem NZ.e {α : Type} {c : Int} (h : c ≠ 0) : NZ (.error c : Except Int α) := fun _ h' => by cases h'; exact h
theorem NZ.o {α : Type} (a : α) : NZ (.ok a : Except Int α) := fun _ h' => by cases h'
theorem NZ.bind {α β : Type} {x : Except Int α} {f : α → Except Int β} (h1 : NZ x) (h2 : ∀ a, x = .ok a → NZ (f a)) : NZ (ebind x f) := by
 cases x with
 | error e => exact fun c h => by cases h; exact h1 _ rfl
 | ok a => exact h2 a rfl
theorem NZ.ite {α : Type} {p : Prop} [Decidable p] {a b : Except Int α} (h1 : NZ a) (h2 : NZ b) : NZ (if p then a else b) := by
 split
 · exact h1
 · exact h2
theorem Q6Q (s : JS) (k : Int) : NZ (jval s k) := by
 unfold jval
 split
 · exact .e (by decide)
 · split
   · exact .e (by decide)
   · exact .o _
theorem Q2q (s : JS) (k kind : Int) : NZ (jkind s k kind) := by
 refine .bind (Q6Q s k) fun t _ => ?_
 split
 · exact .e (by decide)
 · exact .o _
theorem Q6S (s : JS) (k kind : Int) : NZ (jat s k kind) := by
 refine .bind (Q2q s k kind) fun t _ => ?_
 split
 · exact .e (by decide)
 · exact .o _
theorem jput_nz (s : JS) (t : Ty) : NZ (jput s t) := by
 unfold jput
 split
 · exact .e (by decide)
 · exact .o _
theorem Q9e (s : JS) (regs : List Int) : ∀ (l : List Int) (want : List Ty), NZ (Q21 s regs l want)
 | [], [] => by unfold Q21; exact .o _
 | [], _ :: _ => by unfold Q21; exact .o _
 | _ :: _, [] => by unfold Q21; exact .o _
 | k :: l, u :: want => by
   unfold Q21
   refine .bind (Q6Q s k) fun t _ => ?_
   split
   · exact .e (by decide)
   · split
     · exact .e (by decide)
     · exact Q9e s regs l want
theorem Q3C (s : JS) (l : List Int) (want : List Ty) (regs : List Int) : NZ (Q45 s l want regs) := by
 unfold Q45
 split
 · exact .e (by decide)
 · exact Q9e s regs l want
theorem Q9d (t : Ty) (k : Int) : NZ (Q2O t k) := by
 unfold Q2O
 split
 · exact .e (by decide)
 · exact .o _
theorem Q8h (h : List Bool) : ∀ (l p : List Int), NZ (Q2p h p l)
 | [], _ => by unfold Q2p; exact .o _
 | r :: l, p => by
   unfold Q2p
   split
   · exact .e (by decide)
   · split
     · exact .e (by decide)
     · exact Q8h h l _
theorem Q5R (s : JS) : ∀ (l : List Int), NZ (jfields s l)
 | [] => by unfold jfields; exact .o _
 | k :: l => by
   unfold jfields
   exact .bind (Q6Q s k) fun _ _ => .bind (Q5R s l) fun _ _ => .o _
theorem jcall_nz (m : Module) (s : JS) (x : Ins) : NZ (Q6k m s x) := by
 unfold Q6k
 split
 · exact .e (by decide)
 · split
   · exact .e (by decide)
   · refine .bind (Q8h _ _ _) fun _ _ => .bind (Q3C _ _ _ _) fun _ _ => ?_
     split
     · exact .e (by decide)
     · exact .o _
theorem jins_nz (m : Module) (f : Fun) (s : JS) (x : Ins) : NZ (jins m f s x) := by
 unfold jins Q67
 repeat' (first | exact jput_nz _ _ | exact jcall_nz _ _ _ | exact .o _ | exact .e (by decide) | refine .bind (Q2q _ _ _) fun _ _ => ?_ | refine .bind (Q6S _ _ _) fun _ _ => ?_ | refine .bind (Q9d _ _) fun _ _ => ?_ | refine .bind (Q6Q _ _) fun _ _ => ?_ | refine .bind (Q5R _ _) fun _ _ => ?_ | refine .ite ?_ ?_)
theorem QdE {m : Module} {f : Fun} {s : JS} {x : Ins} (h : (jIns m f s x).1 = 0) : Qw m.funcs.length x = 0 ∧ jins m f s x = .ok (jIns m f s x).2 := by
 unfold jIns at h ⊢
 split at h
 · rename_i hf; exact absurd h hf
 · rename_i hf
   rw [if_neg hf]
   refine ⟨Classical.not_not.1 hf, ?_⟩
   cases hj : jins m f s x with
   | error c => rw [hj] at h; exact absurd h (jins_nz m f s x c hj)
   | ok s' => rfl
theorem jIns_no {m : Module} {f : Fun} {s : JS} {x : Ins} (h : (jIns m f s x).1 ≠ 0) : (jIns m f s x).2 = s := by
 unfold jIns at h ⊢
 split
 · rfl
 · rename_i hf
   rw [if_neg hf] at h
   cases hj : jins m f s x with
   | error c => rfl
   | ok s' => rw [hj] at h; exact absurd rfl h
end Go.Lir
namespace Go.Lir
set_option linter.unusedVariables false
/-! ### A module of the right form -/
theorem Q3c {a b : Flt} (h : (orF a b).1 = 0) : a.1 = 0 ∧ b.1 = 0 := by
 unfold orF at h
 split at h
 · rename_i hc; exact absurd h hc.2
 · rename_i hc
   refine ⟨h, ?_⟩
   exact Classical.byContradiction fun hb => hc ⟨h, hb⟩
theorem Q5s {n f b : Nat} : ∀ {l : List Ins} {i : Nat}, (Q10 n f b i l).1 = 0 → ∀ x ∈ l, Qw n x = 0
 | [], _, _, x, hx => by cases hx
 | y :: l, i, h, x, hx => by
   rw [Q10] at h
   obtain ⟨h1, h2⟩ := Q3c h
   rw [Q1O] at h1
   rcases List.mem_cons.1 hx with rfl | hx
   · exact h1
   · exact Q5s h2 x hx
theorem Q4h {n f : Nat} {x : Fun} : ∀ {l : List Block} {b0 : Nat}, (QU n f x b0 l).1 = 0 → ∀ (b : Nat) (y : Block), l[b]? = some y → (QR n f x (b0 + b) y).1 = 0
 | [], _, _, b, y, hy => by cases hy
 | z :: l, b0, h, b, y, hy => by
   rw [QU] at h
   obtain ⟨h1, h2⟩ := Q3c h
   cases b with
   | zero => rw [List.getElem?_cons_zero] at hy; cases hy; exact h1
   | succ b => rw [List.getElem?_cons_succ] at hy; rw [show b0 + (b + 1) = b0 + 1 + b by omega]; exact Q4h h2 b y hy
theorem Q3D {n : Nat} : ∀ {l : List Fun} {f0 : Nat}, (Q1i n f0 l).1 = 0 → ∀ (f : Nat) (x : Fun), l[f]? = some x → (Q1H n (f0 + f) x).1 = 0
 | [], _, _, b, y, hy => by cases hy
 | z :: l, b0, h, b, y, hy => by
   rw [Q1i] at h
   obtain ⟨h1, h2⟩ := Q3c h
   cases b with
   | zero => rw [List.getElem?_cons_zero] at hy; cases hy; exact h1
   | succ b => rw [List.getElem?_cons_succ] at hy; rw [show b0 + (b + 1) = b0 + 1 + b by omega]; exact Q3D h2 b y hy
theorem Q77 {m : Module} (h : m.fault.1 = 0) : 1 ≤ m.funcs.length ∧ m.funcs.length ≤ 8 := by
 have h1 := (Q3c h).1
 rw [Q1O] at h1
 split at h1
 · cases h1
 · omega
theorem Q1K {m : Module} (h : m.fault.1 = 0) {f : Nat} {x : Fun} (hx : m.funcs[f]? = some x) : Qz f x = 0 := by
 have h1 := Q3D (Q3c h).2 f x hx
 rw [Nat.zero_add] at h1
 have h2 := (Q3c h1).1
 rwa [Q1O] at h2
theorem Q1V {m : Module} (h : m.fault.1 = 0) {f b : Nat} {x : Fun} {y : Block} (hx : m.funcs[f]? = some x) (hy : x.blocks[b]? = some y) : Qt x b y = 0 ∧ (∀ i ∈ y.code, Qw m.funcs.length i = 0) ∧ Q1l x.blocks.length y.fin = 0 := by
 have h1 := Q3D (Q3c h).2 f x hx
 have h2 := Q4h (Q3c h1).2 b y hy
 obtain ⟨h3, h4⟩ := Q3c h2
 obtain ⟨h5, h6⟩ := Q3c h4
 rw [Q1O] at h3 h6
 rw [Nat.zero_add] at h3
 exact ⟨h3, Q5s h5, h6⟩
theorem Q2c {x : Fun} {b : Nat} {y : Block} (h : Qt x b y = 0) : x.regs ≤ y.regs ∧ y.regs ≤ 16 ∧ Qp y.params y.regs = 0 ∧ (b = 0 → y.regs = x.regs ∧ y.params = x.params) ∧ y.code.length ≤ 40 := by
 unfold Qt at h
 split at h
 · cases h
 · rename_i h1
   split at h
   · rename_i h2; exact absurd h h2
   · rename_i h2
     split at h
     · cases h
     · rename_i h3
       split at h
       · cases h
       · refine ⟨by omega, by omega, Classical.not_not.1 h2, fun hb => ?_, by omega⟩
         refine ⟨Classical.byContradiction fun hr => h3 ⟨hb, .inl hr⟩, Classical.byContradiction fun hr => h3 ⟨hb, .inr hr⟩⟩
theorem Q1x {f : Nat} {x : Fun} (h : Qz f x = 0) : 0 ≤ x.regs ∧ x.regs ≤ 6 ∧ Qp x.params x.regs = 0 ∧ Qp x.results x.regs = 0 ∧ 1 ≤ x.blocks.length ∧ x.blocks.length ≤ 12 := by
 unfold Qz at h
 split at h
 · cases h
 · rename_i h1
   split at h
   · rename_i h2; exact absurd h h2
   · rename_i h2
     split at h
     · rename_i h3; exact absurd h h3
     · rename_i h3
       split at h
       · cases h
       · exact ⟨by omega, by omega, Classical.not_not.1 h2, Classical.not_not.1 h3, by omega, by omega⟩
theorem Q99 {l : List Ty} {r : Int} (h : Qp l r = 0) : l.length ≤ 8 := by
 unfold Qp at h
 split at h
 · cases h
 · omega
theorem orC_z {a b : Int} (h : orC a b = 0) : a = 0 ∧ b = 0 := by
 unfold orC at h
 split at h
 · rename_i h1; exact absurd h h1
 · rename_i h1; exact ⟨Classical.not_not.1 h1, h⟩
theorem Q6z {r : Int} : ∀ {l : List Ty}, Q29 r l = 0 → ∀ t ∈ l, t.fault r = 0
 | [], _, t, ht => by cases ht
 | x :: l, h, t, ht => by
   rw [Q29] at h
   obtain ⟨h1, h2⟩ := orC_z h
   rcases List.mem_cons.1 ht with rfl | ht
   · exact h1
   · exact Q6z h2 t ht
theorem Q2I {l : List Ty} {r : Int} (h : Qp l r = 0) : ∀ t ∈ l, t.fault r = 0 := by
 unfold Qp at h
 split at h
 · cases h
 · exact Q6z h
/-! ### What is renamed is short -/
theorem Ty.ren_short : ∀ (t : Ty) {to : List Int} {u : Ty}, t.Short → t.ren to = some u → u.Short := by
 intro t
 induction t using Ty.ind with
 | h k r l ih =>
   intro to u hs h
   obtain ⟨hl, hp⟩ := hs.parts
   rw [Ty.ren] at h
   split at h
   · cases h
   · split at h
     · cases h
     · rename_i m hm
       cases h
       have key : ∀ (l : List Ty) (m : List Ty), (∀ x ∈ l, x.Short ∧ ∀ {u : Ty}, x.Short → x.ren to = some u → u.Short) → Tys.ren l to = some m → m.length = l.length ∧ ∀ y ∈ m, y.Short := by
        intro l
        induction l with
        | nil => intro m _ h; rw [Tys.ren] at h; cases h; exact ⟨rfl, by simp⟩
        | cons x l ihl =>
          intro m hx h
          rw [Tys.ren] at h
          cases h1 : x.ren to with
          | none => rw [h1] at h; cases h
          | some y =>
            rw [h1] at h
            cases h2 : Tys.ren l to with
            | none => rw [h2] at h; cases h
            | some m2 =>
              rw [h2] at h
              simp only [Option.some.injEq] at h
              subst h
              obtain ⟨h3, h4⟩ := ihl m2 (fun z hz => hx z (List.mem_cons_of_mem _ hz)) h2
              refine ⟨by simp [h3], fun z hz => ?_⟩
              rcases List.mem_cons.1 hz with rfl | hz
              · obtain ⟨h5, h6⟩ := hx x (List.mem_cons_self ..); exact h6 h5 h1
              · exact h4 z hz
       obtain ⟨h3, h4⟩ := key l m (fun x hx => ⟨hp x hx, fun hs h => ih x hx hs h⟩) hm
       exact .mk (by omega) h4
theorem Ty.Short.part {t : Ty} (h : t.Short) : ∀ u ∈ t.l, u.Short := by
 obtain ⟨k, r, l⟩ := t
 exact h.parts.2
theorem QbI {t : Ty} {to : List Int} (h : t.Short) : (renT to t).Short := by
 unfold renT
 cases hn : t.ren to with
 | none => exact .mk (by decide) (by simp)
 | some u => exact Ty.ren_short t h hn
/-! ### What stays so -/
structure JGood (s : JS) : Prop where
 n : s.l.length ≤ 80
 h : s.h.length ≤ 16
 s : ∀ t ∈ s.l, t.Short
theorem JGood.get {s : JS} (hg : JGood s) {k : Int} {t : Ty} (h : jval s k = .ok t) : t.Short := hg.s t (List.mem_of_getElem? (Q8g h).2)
theorem JGood.put {s s' : JS} {t : Ty} (hg : JGood s) (ht : t.Short) (h : jput s t = .ok s') : JGood s' := by
 obtain ⟨h1, h2, h3⟩ := Q8i h
 refine ⟨by rw [h3, List.length_append]; have := hg.n; simp only [List.length_cons, List.length_nil]; omega, by rw [h2]; exact hg.h, fun u hu => ?_⟩
 rw [h3] at hu
 rcases List.mem_append.1 hu with hu | hu
 · exact hg.s u hu
 · simp at hu; subst hu; exact ht
theorem Q6D {k r : Int} : (Ty.mk k r []).Short := .mk (by decide) (by simp)
theorem Q44 {s : JS} (hg : JGood s) : ∀ {l : List Int} {ts : List Ty}, jfields s l = .ok ts → ts.length = l.length ∧ ∀ t ∈ ts, t.Short
 | [], ts, h => by rw [jfields] at h; cases h; exact ⟨rfl, by simp⟩
 | k :: l, ts, h => by
   rw [jfields] at h
   obtain ⟨t, h1, h⟩ := Q7 h
   obtain ⟨us, h2, h⟩ := Q7 h
   cases h
   obtain ⟨h3, h4⟩ := Q44 hg h2
   refine ⟨by simp [h3], fun u hu => ?_⟩
   rcases List.mem_cons.1 hu with rfl | hu
   · exact hg.get h1
   · exact h4 u hu
theorem Qdv {s : JS} {k kd : Int} {t : Ty} (h : jkind s k kd = .ok t) : jval s k = .ok t := by have := Q8j h; exact Q3f this.1 this.2.1
theorem QdB {s : JS} {k kd : Int} {t : Ty} (h : jat s k kd = .ok t) : jval s k = .ok t := by have := Q5c h; exact Q3f this.1 this.2.1
theorem Q5b {t u : Ty} {k : Int} (h : Q2O t k = .ok u) : t.l[k.toNat]? = some u := by
 unfold Q2O at h
 split at h
 · cases h
 · rename_i v hv; cases h; exact hv
theorem Qdx {m : Module} {f : Fun} {s s' : JS} {x : Ins} (hm : m.Short) (hg : JGood s) (hF : Qw m.funcs.length x = 0) (h : jins m f s x = .ok s') : JGood s' := by
 have hop := Q2S hF
 have hst := Qdw hop h
 have hn : s'.l.length ≤ 80 := hst.len hg.n
 by_cases h3 : x.op = 3
 · rw [Qbd h3] at h
   split at h
   · cases h
   · rename_i hc
     cases h
     refine ⟨hn, by have := hg.h; simp only [List.length_append, List.length_cons, List.length_nil]; omega, fun u hu => ?_⟩
     rcases List.mem_append.1 hu with hu | hu
     · exact hg.s u hu
     · simp at hu; subst hu; exact Q6D
 by_cases h4 : x.op = 4
 · rw [Qbc h4] at h
   obtain ⟨t, h1, h⟩ := Q7 h
   split at h
   · cases h
   · cases h; exact ⟨hn, by rw [List.length_set]; exact hg.h, hg.s⟩
 rcases op_cases (op := x.op) (by omega) (by omega) with e | e | e | e | e | e | e | e | e | e | e | e | e | e
 · rw [Q68 (by omega)] at h; exact hg.put Q6D h
 · rw [Qbe (by omega)] at h; obtain ⟨_, _, h⟩ := Q7 h; obtain ⟨_, _, h⟩ := Q7 h; exact hg.put Q6D h
 · exact absurd e h3
 · exact absurd e h4
 · rw [Qbb (by omega)] at h
   unfold Q67 at h
   obtain ⟨t, _, h⟩ := Q7 h; obtain ⟨ts, h2, h⟩ := Q7 h
   split at h
   · cases h
   · obtain ⟨h5, h6⟩ := Q44 hg h2
     have hal : x.args.length ≤ 8 := by
      unfold Qw Q1b at hF
      simp [e] at hF; omega
     exact hg.put (.mk (by omega) h6) h
 · rw [Qba (by omega)] at h; obtain ⟨t, h1, h⟩ := Q7 h; obtain ⟨u, h2, h⟩ := Q7 h
   exact hg.put (Ty.Short.part (hg.get (QdB h1)) u (List.mem_of_getElem? (Q5b h2))) h
 · rw [Qb9 (by omega)] at h; obtain ⟨_, _, h⟩ := Q7 h; obtain ⟨_, _, h⟩ := Q7 h; obtain ⟨_, _, h⟩ := Q7 h
   split at h
   · cases h
   · cases h; exact hg
 · rw [Qb8 (by omega)] at h; obtain ⟨_, _, h⟩ := Q7 h; obtain ⟨_, _, h⟩ := Q7 h; exact hg.put Q6D h
 · rw [Qb7 (by omega)] at h; obtain ⟨_, _, h⟩ := Q7 h; obtain ⟨_, _, h⟩ := Q7 h; exact hg.put Q6D h
 · rw [Q8m (by omega)] at h; obtain ⟨_, _, h⟩ := Q7 h; obtain ⟨_, _, h⟩ := Q7 h; obtain ⟨_, _, h⟩ := Q7 h; cases h; exact hg
 · rw [Q8l (by omega)] at h; obtain ⟨_, _, h⟩ := Q7 h; exact hg.put Q6D h
 · rw [Q68 (by omega)] at h; exact hg.put Q6D h
 · rw [Q8k (by omega)] at h; obtain ⟨_, _, h⟩ := Q7 h; cases h; exact hg
 · rw [Q6R (by omega)] at h
   unfold Q6k at h
   split at h
   · cases h
   · rename_i g hgf
     split at h
     · cases h
     · obtain ⟨_, _, h⟩ := Q7 h; obtain ⟨_, _, h⟩ := Q7 h
       split at h
       · cases h
       · cases h
         refine ⟨hn, hg.h, fun u hu => ?_⟩
         rcases List.mem_append.1 hu with hu | hu
         · exact hg.s u hu
         · obtain ⟨t, ht, rfl⟩ := List.mem_map.1 hu
           exact QbI ((hm.2 g (List.mem_of_getElem? hgf)).2.1.2 t ht)
theorem Qaj {m : Module} (hm : m.Short) (hF : m.fault.1 = 0) {f b : Nat} {x : Fun} {y : Block} (hx : m.funcs[f]? = some x) (hy : x.blocks[b]? = some y) : JGood (Q1s y) := by
 have h1 := Q2c (Q1V hF hx hy).1
 have h2 := Q99 h1.2.2.1
 refine ⟨by unfold Q1s; simp only; omega, by unfold Q1s; simp only [List.length_replicate]; omega, ?_⟩
 exact ((hm.2 x (List.mem_of_getElem? hx)).2.2.2 y (List.mem_of_getElem? hy)).1.2
/-! ### What was freed -/
theorem Q41 {h : List Bool} : ∀ {l p : List Int}, Q2p h p l = .ok () → ∀ r ∈ l, hasB h r = true
 | [], _, _, r, hr => by cases hr
 | x :: l, p, hd, r, hr => by
   rw [Q2p] at hd
   split at hd
   · cases hd
   · rename_i h1
     split at hd
     · cases hd
     · rcases List.mem_cons.1 hr with rfl | hr
       · simpa using h1
       · exact Q41 hd r hr
theorem jat_gone {s : JS} {k kd : Int} {t : Ty} (h0 : 0 ≤ k) (h : s.l[k.toNat]? = some t) (hk : t.kind = kd) (hh : hasB s.h t.r = false) : jat s k kd = .error 10 := by
 unfold jat jkind
 rw [Qo (Q3f h0 h), if_neg (fun h => h hk), Qo rfl, if_pos hh]
/-! ### What is held, as a list -/
end Go.Lir
namespace Go.Lir
set_option linter.unusedVariables false
theorem Q6U {n : Nat} {x : Ins} (h : Qw n x = 0) : Q1b n x = 0 := by
 unfold Qw at h
 split at h
 · cases h
 · split at h
   · cases h
   · exact h
theorem insF_k {n : Nat} {x : Ins} (h : Qw n x = 0) (ho : x.op = 14) : 0 ≤ x.k ∧ x.k < n := by
 have hk := Q6U h
 unfold Q1b at hk
 rw [if_neg (by omega), if_neg (by omega), if_neg (by omega), if_pos ho] at hk
 split at hk
 · cases hk
 · omega
theorem insF_t {n : Nat} {x : Ins} (h : Qw n x = 0) (ho : x.op = 5) : x.args.length ≤ 8 := by
 have hk := Q6U h
 unfold Q1b at hk
 rw [if_neg (by omega), if_pos ho] at hk
 split at hk
 · cases hk
 · omega
theorem Qal {n : Nat} {x : Ins} (h : Qw n x = 0) : x.regs.length ≤ 16 ∧ x.args.length ≤ 8 := by
 have hk := Q6U h
 have ho : ¬ x.odd := by
  unfold Qw at h
  split at h
  · cases h
  · split at h
    · cases h
    · assumption
 unfold Ins.odd at ho
 by_cases h14 : x.op = 14
 · unfold Q1b at hk
   rw [if_neg (by omega), if_neg (by omega), if_neg (by omega), if_pos h14] at hk
   split at hk
   · cases hk
   · split at hk
     · cases hk
     · omega
 · have g1 : fG x.op = false := by unfold fG; exact decide_eq_false h14
   have r0 : ¬ 0 < x.regs.length := fun hh => ho (.inr (.inr (.inr (.inr (.inr (.inl ⟨g1, hh⟩))))))
   by_cases h5 : x.op = 5
   · exact ⟨by omega, insF_t h h5⟩
   · have g2 : fR x.op = false := by unfold fR; exact decide_eq_false (by omega)
     have a0 : ¬ 0 < x.args.length := fun hh => ho (.inr (.inr (.inr (.inr (.inr (.inr ⟨g2, hh⟩))))))
     exact ⟨by omega, by omega⟩
theorem Qcr {n : Nat} {t : To} (h : Q1v n t true = 0) : t.regs.length ≤ 16 ∧ t.args.length ≤ 8 := by
 unfold Q1v at h
 rw [if_neg (by decide)] at h
 split at h
 · cases h
 · split at h
   · cases h
   · omega
theorem QdR {n : Nat} {e : Tail} (h : Q1l n e = 0) : e.args.length ≤ 8 := by
 unfold Q1l at h
 split at h
 · cases h
 · split at h
   · cases h
   · split at h
     · cases h
     · omega
theorem Q5x {g : Frm} : ∀ {l : List Int} {vs : List Val}, g.args l = some vs → vs.length = l.length
 | [], _, h => by cases h; rfl
 | k :: l, vs, h => by
   rw [Frm.args] at h
   split at h
   · rename_i v vs' h1 h2
     cases h
     rw [List.length_cons, List.length_cons, Q5x h2]
   · cases h
theorem Q9Z {g : Frm} : ∀ {l : List Int} {vs : List Int}, g.rgs l = some vs → vs.length = l.length
 | [], _, h => by cases h; rfl
 | k :: l, vs, h => by
   rw [Frm.rgs] at h
   split at h
   · rename_i v vs' h1 h2
     cases h
     rw [List.length_cons, List.length_cons, Q9Z h2]
   · cases h
theorem Q9h : ∀ {l : List Val} {ns : List Int}, intsV l = some ns → ns.length = l.length
 | [], _, h => by cases h; rfl
 | v :: l, ns, h => by
   rw [intsV] at h
   split at h
   · cases h
   · rename_i ns' h1
     split at h
     · cases h
       rw [List.length_cons, List.length_cons, Q9h h1]
     · cases h
/-- What is true of what goes on. -/
def Stp.All (P : MS → Prop) : Stp → Prop
 | .go s => P s
 | .done l => l.length ≤ 8
 | _ => True
theorem Stp.all_bind {α : Type} {P : MS → Prop} {x : Option α} {f : α → Stp} (h : ∀ a, x = some a → (f a).All P) : (Q1k x f).All P := by
 cases x with
 | none => exact trivial
 | some a => exact h a rfl
theorem Stp.all_if {P : MS → Prop} {c : Prop} [Decidable c] {a b : Stp} (h1 : c → a.All P) (h2 : ¬ c → b.All P) : (if c then a else b).All P := by
 by_cases hc : c
 · rw [if_pos hc]; exact h1 hc
 · rw [if_neg hc]; exact h2 hc
def FrB (m : Module) (k : Nat) (g : Frm) : Prop := ∃ f b, m.funcs[g.f]? = some f ∧ f.blocks[g.b]? = some b ∧ g.i ≤ b.code.length ∧ g.vals.length ≤ 8 + 8 * k ∧ g.regs.length ≤ 16 + k
structure Bnd (m : Module) (k : Nat) (s : MS) : Prop where
 cur : FrB m k s.g
 st : ∀ x ∈ s.st, FrB m k x
 sl : s.st.length ≤ 39
 out : s.out.length ≤ 2000
section
variable {m : Module} {k : Nat} {s : MS}
theorem FrB.up {g : Frm} (h : FrB m k g) : FrB m (k + 1) g := by
 obtain ⟨f, b, h1, h2, h3, h4, h5⟩ := h
 exact ⟨f, b, h1, h2, h3, by omega, by omega⟩
theorem FrB.more {g : Frm} (h : FrB m k g) {vs : List Val} {rs : List Int} (hv : vs.length ≤ 8) (hr : rs.length ≤ 1) : FrB m (k + 1) ⟨g.f, g.b, g.i, g.vals ++ vs, g.regs ++ rs⟩ := by
 obtain ⟨f, b, h1, h2, h3, h4, h5⟩ := h
 refine ⟨f, b, h1, h2, h3, ?_, ?_⟩
 · show (g.vals ++ vs).length ≤ _; rw [List.length_append]; omega
 · show (g.regs ++ rs).length ≤ _; rw [List.length_append]; omega
theorem Bnd.up (h : Bnd m k s) : Bnd m (k + 1) s := ⟨h.cur.up, fun x hx => (h.st x hx).up, h.sl, h.out⟩
theorem Bnd.put (h : Bnd m k s) {vs : List Val} (hv : vs.length ≤ 8) : Bnd m (k + 1) (s.put vs) := by
 refine ⟨?_, fun x hx => (h.st x hx).up, h.sl, h.out⟩
 have := h.cur.more (rs := []) hv (by simp)
 rw [List.append_nil] at this
 exact this
theorem Bnd.hp (h : Bnd m k s) (q : HpS) : Bnd m k (s.hp q) := ⟨h.cur, h.st, h.sl, h.out⟩
theorem Bnd.made (h : Bnd m k s) {e : Int} {q : HpS} {v : Val} : (s.made e q v).All (Bnd m (k + 1)) := by
 unfold MS.made
 exact Stp.all_if (fun _ => trivial) fun _ => Stp.all_if (fun _ => trivial) fun _ => (h.hp q).put (by simp)
theorem Q8E {P : MS → Prop} {v : Val} {e : Int} {r : Stp} (h : r.All P) : (Q3y v e r).All P := by
 unfold Q3y
 exact Stp.all_if (fun _ => trivial) fun _ => Stp.all_if (fun _ => trivial) fun _ => Stp.all_if (fun _ => trivial) fun _ => h
theorem Bnd.ins (h : Bnd m k s) (hM : m.fault.1 = 0) {x : Ins} (hx : Qw m.funcs.length x = 0) : (s.ins m x).All (Bnd m (k + 1)) := by
 obtain ⟨q1, q2⟩ := Qal hx
 have h1 : ∀ (v : Val) (t : MS), Bnd m k t → (Stp.go (t.put [v])).All (Bnd m (k + 1)) := fun v t ht => ht.put (by simp)
 have h2 : ∀ (q : HpS), (Stp.go (s.hp q)).All (Bnd m (k + 1)) := fun q => (h.hp q).up
 unfold MS.ins
 refine Stp.all_if (fun _ => h1 _ _ h) fun _ => Stp.all_if (fun _ => Stp.all_bind fun a _ => Stp.all_bind fun b _ => Stp.all_if (fun _ => trivial) fun _ => h1 _ _ h) fun _ => Stp.all_if (fun _ => ?_) fun _ =>
  Stp.all_if (fun _ => Stp.all_bind fun v _ => Stp.all_if (fun _ => trivial) fun _ => h2 _) fun _ => Stp.all_if (fun _ => Stp.all_bind fun v _ => Stp.all_bind fun l _ => h.made) fun _ =>
  Stp.all_if (fun _ => Stp.all_bind fun v _ => Stp.all_if (fun _ => trivial) fun _ => Stp.all_if (fun _ => trivial) fun _ => h1 _ _ h) fun _ =>
  Stp.all_if (fun _ => Stp.all_bind fun v _ => Stp.all_if (fun _ => trivial) fun _ => Stp.all_bind fun y _ => Stp.all_if (fun _ => trivial) fun _ => h2 _) fun _ =>
  Stp.all_if (fun _ => Stp.all_bind fun v _ => Stp.all_bind fun n _ => Stp.all_if (fun _ => trivial) fun _ => h.made) fun _ =>
  Stp.all_if (fun _ => Stp.all_bind fun v _ => Stp.all_bind fun n _ => Q8E (h1 _ _ h)) fun _ =>
  Stp.all_if (fun _ => Stp.all_bind fun v _ => Stp.all_bind fun n _ => Stp.all_bind fun c _ => Q8E (h2 _)) fun _ =>
  Stp.all_if (fun _ => Stp.all_bind fun v _ => Q8E (h1 _ _ h)) fun _ => Stp.all_if (fun _ => ?_) fun _ => Stp.all_if (fun _ => Stp.all_bind fun n _ => ?_) fun _ => ?_
 · unfold MS.newR
   refine Stp.all_if (fun _ => trivial) fun _ => ?_
   refine ⟨?_, fun x hx => (h.st x hx).up, h.sl, h.out⟩
   exact h.cur.more (vs := [_]) (rs := [_]) (by simp) (by simp)
 · unfold MS.inS
   split
   · exact trivial
   · exact h1 _ _ ⟨h.cur, h.st, h.sl, h.out⟩
 · unfold MS.outS
   refine Stp.all_if (fun _ => trivial) fun hn => ?_
   refine ⟨h.cur.up, fun x hx => (h.st x hx).up, h.sl, ?_⟩
   have := h.out
   show (s.out ++ [n]).length ≤ 2000
   rw [List.length_append]
   simp only [List.length_cons, List.length_nil]
   omega
 · unfold MS.call
   split
   · exact trivial
   · rename_i g hg
     refine Stp.all_bind fun rs hr => Stp.all_bind fun vs hv => Stp.all_if (fun _ => trivial) fun _ => Stp.all_if (fun _ => trivial) fun hl => ?_
     have hb := (Q1x (Q1K hM hg)).2.2.2.2.1
     obtain ⟨b, hb⟩ : ∃ b, g.blocks[0]? = some b := ⟨_, List.getElem?_eq_getElem (by omega)⟩
     refine ⟨⟨g, b, hg, hb, Nat.zero_le _, ?_, ?_⟩, ?_, ?_, h.out⟩
     · show vs.length ≤ _; rw [Q5x hv]; omega
     · show rs.length ≤ _; rw [Q9Z hr]; omega
     · intro y hy
       rcases List.mem_cons.1 hy with rfl | hy
       · exact h.cur.up
       · exact (h.st y hy).up
     · have := h.sl
       show (s.g :: s.st).length ≤ 39
       rw [List.length_cons]; omega
theorem Bnd.to (h : Bnd m k s) {f : Fun} (hf : m.funcs[s.g.f]? = some f) {t : To} (ht : Q1v f.blocks.length t true = 0) : (s.to f t).All (Bnd m (k + 1)) := by
 obtain ⟨q1, q2⟩ := Qcr ht
 unfold MS.to
 split
 · exact trivial
 · rename_i b hb
   refine Stp.all_bind fun rs hr => Stp.all_bind fun vs hv => Stp.all_if (fun _ => trivial) fun _ => ?_
   refine ⟨⟨f, b, hf, hb, Nat.zero_le _, ?_, ?_⟩, fun x hx => (h.st x hx).up, h.sl, h.out⟩
   · show vs.length ≤ _; rw [Q5x hv]; omega
   · show rs.length ≤ _; rw [Q9Z hr]; omega
theorem Bnd.fin (h : Bnd m k s) {f : Fun} (hf : m.funcs[s.g.f]? = some f) {e : Tail} (he : Q1l f.blocks.length e = 0) : (s.fin f e).All (Bnd m (k + 1)) := by
 obtain ⟨q1, q2, q3, q4⟩ := Q4v he
 have q5 := QdR he
 unfold MS.fin
 refine Stp.all_if (fun e1 => ?_) fun n1 => Stp.all_if (fun e2 => Stp.all_bind fun n _ => Stp.all_if (fun _ => ?_) fun _ => ?_) fun n2 => ?_
 · rw [decide_eq_true (by omega)] at q3; exact h.to hf q3
 · rw [decide_eq_true (by omega)] at q3; exact h.to hf q3
 · rw [decide_eq_true (by omega)] at q4; exact h.to hf q4
 · unfold MS.ret
   refine Stp.all_bind fun vs hv => Stp.all_if (fun _ => trivial) fun _ => ?_
   split
   · rename_i c st hst
     have hc := h.st c (by rw [hst]; exact List.mem_cons_self)
     have h8 : vs.length ≤ 8 := by rw [Q5x hv]; omega
     refine Bnd.put (s := ⟨s.h, c, st, s.inp, s.out, s.fuel⟩) ⟨hc, fun x hx => h.st x (by rw [hst]; exact List.mem_cons_of_mem _ hx), ?_, h.out⟩ h8
     have := h.sl
     rw [hst, List.length_cons] at this
     show st.length ≤ 39
     omega
   · split
     · exact trivial
     · rename_i ns hns
       show ns.length ≤ 8
       rw [Q9h hns, Q5x hv]; omega
theorem Bnd.one (h : Bnd m k s) (hM : m.fault.1 = 0) : (s.one m).All (Bnd m (k + 1)) := by
 obtain ⟨f, b, hf, hb, hi, hv, hr⟩ := h.cur
 obtain ⟨-, q1, q2⟩ := Q1V hM hf hb
 unfold MS.one
 rw [hf]; dsimp only; rw [hb]; dsimp only
 cases hx : b.code[s.g.i]? with
 | none => exact h.fin hf q2
 | some x =>
   have hlt := (List.getElem?_eq_some_iff.1 hx).1
   refine Bnd.ins (s := s.next) ⟨⟨f, b, hf, hb, ?_, hv, hr⟩, h.st, h.sl, h.out⟩ hM (q1 x (List.mem_of_getElem? hx))
   show s.g.i + 1 ≤ _
   omega
theorem Bnd.start (hM : m.fault.1 = 0) (inp : List Int) (pages : Int) : Bnd m 0 (MS.start inp pages) := by
 have hl := Q77 hM
 obtain ⟨f, hf⟩ : ∃ f, m.funcs[0]? = some f := ⟨_, List.getElem?_eq_getElem (by omega)⟩
 have hb := (Q1x (Q1K hM hf)).2.2.2.2.1
 obtain ⟨b, hb⟩ : ∃ b, f.blocks[0]? = some b := ⟨_, List.getElem?_eq_getElem (by omega)⟩
 exact ⟨⟨f, b, hf, hb, Nat.zero_le _, Nat.zero_le _, Nat.zero_le _⟩, fun x hx => (by cases hx), Nat.zero_le _, Nat.zero_le _⟩
end
end Go.Lir
namespace Go.Lir
set_option linter.unusedVariables false
/-- What the program makes of a number ahead of writing it. -/
def zigI (n : Int) : Int := bitI .xor .u64 (IntKind.u64.wrap (IntKind.u64.wrap n * 2 ^ (min (1 : Int).toNat IntKind.u64.bits))) (IntKind.u64.wrap (n.fdiv (2 ^ (min (63 : Int).toNat IntKind.i64.bits))))
def zig (n : Int) : Nat := (zigI n).toNat
/-- The low bits first, seven at a time. -/
def leb : Nat → Nat → List UInt8
 | 0, _ => []
 | k + 1, u => if u < 128 then [UInt8.ofNat u] else UInt8.ofNat (u % 128 + 128) :: leb k (u / 128)
theorem Qds : ∀ (k u : Nat), (leb k u).length ≤ k
 | 0, _ => by simp [leb]
 | k + 1, u => by
   rw [leb]
   split
   · simp
   · have := Qds k (u / 128)
     simp only [List.length_cons]; omega
def Q3J (n : Int) : List UInt8 := leb 10 (zig n)
def Qb5 (l : List Int) : List UInt8 := l.flatMap Q3J
theorem Q17 (n : Int) : (Q3J n).length ≤ 10 := Qds 10 _
theorem Q7G : ∀ (l : List Int), (Qb5 l).length ≤ 10 * l.length
 | [] => by simp [Qb5]
 | n :: l => by
   have h1 := Q17 n
   have h2 := Q7G l
   simp only [Qb5, List.flatMap_cons, List.length_append, List.length_cons] at h2 ⊢
   omega
/-- A list of numbers, its length ahead of it. -/
def Qak (l : List Int) : List UInt8 := Q3J l.length ++ Qb5 l
mutual
def Ty.bts : Ty → List UInt8
 | .mk k r l => Q3J k ++ (if k ≠ 1 then Q3J r else []) ++ (if k = 3 then Q3J l.length ++ Tys.bts l else [])
def Tys.bts : List Ty → List UInt8
 | [] => []
 | x :: l => x.bts ++ Tys.bts l
end
/-- A list of types, its length ahead of it. -/
def tysB (l : List Ty) : List UInt8 := Q3J l.length ++ Tys.bts l
def To.bts (t : To) : List UInt8 := Q3J t.block ++ Qak t.regs ++ Qak t.args
def Tail.bts (e : Tail) : List UInt8 := Q3J e.op ++ (if e.op = 1 then e.yes.bts else if e.op = 2 then Q3J e.a ++ e.yes.bts ++ e.no.bts else if e.op = 3 then Qak e.args else [])
/-- Which parts an instruction has. -/
def Q2M (op : Int) : Nat := if op < 0 ∨ 14 < op then 0 else [0, 64, 11, 0, 1, 33, 9, 11, 3, 3, 7, 1, 0, 1, 56].getD op.toNat 0
def regsB (h : Nat) : Nat → List Int → List UInt8
 | _, [] => []
 | k, n :: l => (if h / 2 ^ k % 2 = 1 then Q3J n else []) ++ regsB h (k + 1) l
def Ins.bts (x : Ins) : List UInt8 := Q3J x.op ++ regsB (Q2M x.op) 0 [x.a, x.b, x.c, x.k] ++ (if Q2M x.op / 64 % 2 = 1 then Q3J x.n else []) ++ (if Q2M x.op / 16 % 2 = 1 then Qak x.regs else []) ++ (if Q2M x.op / 32 % 2 = 1 then Qak x.args else [])
end Go.Lir
namespace Go.Lir
set_option linter.unusedVariables false
mutual
def Ty.nodes : Ty → Nat
 | .mk _ _ l => 1 + Tys.nodes l
def Tys.nodes : List Ty → Nat
 | [] => 0
 | x :: l => x.nodes + Tys.nodes l
end
mutual
theorem Ty.size_nodes : ∀ (t : Ty) {n : Int}, 0 ≤ t.size n → t.size n = n - t.nodes
 | .mk k r l, n, h => by
   rw [Ty.size] at h ⊢
   rw [Tys.size_nodes l h, Ty.nodes]
   omega
theorem Tys.size_nodes : ∀ (l : List Ty) {n : Int}, 0 ≤ Tys.size l n → Tys.size l n = n - Tys.nodes l
 | [], n, h => by rw [Tys.size, Tys.nodes]; omega
 | x :: l, n, h => by
   rw [Tys.size] at h ⊢
   by_cases hn : 0 ≤ n
   · rw [if_pos hn] at h ⊢
     have hx : 0 ≤ x.size n := by
      rcases Int.lt_or_le (x.size n) 0 with h1 | h1
      · rw [Tys.size_neg l h1] at h; omega
      · exact h1
     rw [Tys.size_nodes l h, Ty.size_nodes x hx, Tys.nodes]
     omega
   · rw [if_neg hn] at h; omega
end
theorem Ty.nodes_of_great {t : Ty} (h : t.great = false) : t.nodes ≤ 2000 := by
 unfold Ty.great at h
 simp at h
 have := Ty.size_nodes t h
 omega
end Go.Lir
namespace Go.Lir
set_option linter.unusedVariables false
/-- One bit. -/
def crcStep (c : BitVec 32) : BitVec 32 := (c >>> 1) ^^^ (3988292384#32 &&& -(c &&& 1#32))
def crcN : Nat → BitVec 32 → BitVec 32
 | 0, c => c
 | k + 1, c => crcN k (crcStep c)
/-- One byte. -/
def crcByte (c : BitVec 32) (x : UInt8) : BitVec 32 := crcN 8 (c ^^^ BitVec.ofNat 32 x.toNat)
def crcOf (bs : List UInt8) : BitVec 32 := 4294967295#32 ^^^ bs.foldl crcByte 4294967295#32
section
variable {P : Program} {l : List GO} {Q : QT} {ρ : Env} {w : World}
end
end Go.Lir
namespace Go.Lir
set_option linter.unusedVariables false
def Block.bts (b : Block) : List UInt8 := Q3J b.regs ++ tysB b.params ++ Q3J b.code.length ++ b.code.flatMap Ins.bts ++ b.fin.bts
def Fun.bts (f : Fun) : List UInt8 := Q3J f.regs ++ tysB f.params ++ tysB f.results ++ Q3J f.blocks.length ++ f.blocks.flatMap Block.bts
def Module.body (m : Module) : List UInt8 := [67, 72, 1] ++ Q3J m.funcs.length ++ m.funcs.flatMap Fun.bts
def Ins.Few (x : Ins) : Prop := x.regs.length ≤ 300 ∧ x.args.length ≤ 300
def To.Few (x : To) : Prop := x.regs.length ≤ 300 ∧ x.args.length ≤ 300
def Tail.Few (x : Tail) : Prop := x.yes.Few ∧ x.no.Few ∧ x.args.length ≤ 300
def Block.Few (b : Block) : Prop := Tys.great b.params = false ∧ b.code.length ≤ 200 ∧ (∀ i ∈ b.code, i.Few) ∧ b.fin.Few
def Fun.Few (f : Fun) : Prop := Tys.great f.params = false ∧ Tys.great f.results = false ∧ f.blocks.length ≤ 30 ∧ ∀ b ∈ f.blocks, b.Few
def Module.Few (m : Module) : Prop := m.funcs.length ≤ 20 ∧ ∀ f ∈ m.funcs, f.Few
theorem Qbo {α : Type} {f : α → List UInt8} {c : Nat} : ∀ {l : List α}, (∀ x ∈ l, (f x).length ≤ c) → (l.flatMap f).length ≤ l.length * c
 | [], _ => by simp
 | x :: l, h => by
   have h1 := h x (List.mem_cons_self ..)
   have h2 := Qbo (l := l) fun y hy => h y (List.mem_cons_of_mem _ hy)
   rw [List.flatMap_cons, List.length_append, List.length_cons, Nat.succ_mul]
   omega
theorem Q9q {α : Type} {f : α → List UInt8} {c n : Nat} {l : List α} (h : ∀ x ∈ l, (f x).length ≤ c) (hn : l.length ≤ n) : (l.flatMap f).length ≤ n * c :=
 Nat.le_trans (Qbo h) (Nat.mul_le_mul_right c hn)
mutual
theorem Ty.bts_len : ∀ (t : Ty), t.bts.length ≤ 30 * t.nodes
 | .mk k r l => by
   have h1 := Tys.bts_len l
   have h2 := Q17 k
   have h3 := Q17 r
   have h4 := Q17 l.length
   rw [Ty.bts, Ty.nodes]
   simp only [List.length_append]
   split <;> split <;> simp only [List.length_append, List.length_nil] <;> omega
theorem Tys.bts_len : ∀ (l : List Ty), (Tys.bts l).length ≤ 30 * Tys.nodes l
 | [] => by simp [Tys.bts]
 | x :: l => by
   have h1 := Ty.bts_len x
   have h2 := Tys.bts_len l
   rw [Tys.bts, Tys.nodes, List.length_append]
   omega
end
theorem Tys.nodes_few : ∀ {l : List Ty}, (∀ x ∈ l, x.nodes ≤ 2000) → Tys.nodes l ≤ 2000 * l.length
 | [], _ => by simp [Tys.nodes]
 | x :: l, h => by
   have h1 := h x (List.mem_cons_self ..)
   have h2 := Tys.nodes_few (l := l) fun y hy => h y (List.mem_cons_of_mem _ hy)
   rw [Tys.nodes, List.length_cons]
   omega
theorem Q7Y {l : List Ty} (h : Tys.great l = false) : (tysB l).length ≤ 12000010 := by
 unfold Tys.great at h
 rw [Bool.or_eq_false_iff] at h
 have hl : l.length ≤ 200 := by have := of_decide_eq_false h.1; omega
 have h1 := Tys.bts_len l
 have h2 := Tys.nodes_few (l := l) fun x hx => Ty.nodes_of_great (by have := List.any_eq_false.1 h.2 x hx; simpa using this)
 have h3 := Q17 l.length
 unfold tysB
 rw [List.length_append]
 omega
theorem Q46 {l : List Int} (h : l.length ≤ 300) : (Qak l).length ≤ 3010 := by
 have h1 := Q7G l
 have h2 := Q17 l.length
 unfold Qak
 rw [List.length_append]
 omega
theorem To.bts_few {x : To} (h : x.Few) : x.bts.length ≤ 6030 := by
 have h1 := Q46 h.1
 have h2 := Q46 h.2
 have h3 := Q17 x.block
 unfold To.bts
 simp only [List.length_append]
 omega
theorem Tail.bts_few {x : Tail} (h : x.Few) : x.bts.length ≤ 13000 := by
 have h1 := To.bts_few h.1
 have h2 := To.bts_few h.2.1
 have h3 := Q46 h.2.2
 have h4 := Q17 x.op
 have h5 := Q17 x.a
 unfold Tail.bts
 rw [List.length_append]
 split
 · omega
 · split
   · simp only [List.length_append]; omega
   · split
     · omega
     · simp only [List.length_nil]; omega
theorem Ins.bts_few {x : Ins} (h : x.Few) : x.bts.length ≤ 6110 := by
 have h1 := Q46 h.1
 have h2 := Q46 h.2
 have h3 := Q17 x.op
 have h4 := Q17 x.n
 have ha := Q17 x.a
 have hb := Q17 x.b
 have hc := Q17 x.c
 have hk := Q17 x.k
 have h5 : (regsB (Q2M x.op) 0 [x.a, x.b, x.c, x.k]).length ≤ 40 := by
  simp only [regsB, List.length_append, List.length_nil]
  split <;> split <;> split <;> split <;> (try simp only [List.length_nil]) <;> omega
 unfold Ins.bts
 simp only [List.length_append]
 split <;> split <;> split <;> (try simp only [List.length_nil]) <;> omega
theorem Block.bts_few {b : Block} (h : b.Few) : b.bts.length ≤ 14000000 := by
 have h1 := Q7Y h.1
 have h2 := Q9q (f := Ins.bts) (c := 6110) (fun x hx => Ins.bts_few (h.2.2.1 x hx)) h.2.1
 have h3 := Tail.bts_few h.2.2.2
 have h4 := Q17 b.regs
 have h5 := Q17 b.code.length
 unfold Block.bts
 simp only [List.length_append]
 omega
theorem Fun.bts_few {f : Fun} (h : f.Few) : f.bts.length ≤ 450000000 := by
 have h1 := Q7Y h.1
 have h2 := Q7Y h.2.1
 have h3 := Q9q (f := Block.bts) (c := 14000000) (fun x hx => Block.bts_few (h.2.2.2 x hx)) h.2.2.1
 have h4 := Q17 f.regs
 have h5 := Q17 f.blocks.length
 unfold Fun.bts
 simp only [List.length_append]
 omega
end Go.Lir
namespace Go.Lir
set_option linter.unusedVariables false
abbrev Got (α : Type) := Except Flt (α × List UInt8)
/-! ### What is read was written so -/
end Go.Lir
namespace Go.Lir
section
variable {P : Program} {l : List GO} {Q : QT} {ρ : Env} {w : World}
theorem Qa4 {a b T T' : Nat} {R : Ending → World → Prop} {p o p' o' : Nat} {v v' : Value} (ha : ρ a = .pointer (some ⟨p, o, none⟩)) (hv : Q9E P w ⟨p, o, none⟩ T v) (ha' : ρ b = .pointer (some ⟨p', o', none⟩)) (hv' : Q9E P w ⟨p', o', none⟩ T' v') (h : R (.returned (.tuple #[v, v'])) w) : retQ P [.cell a T, .cell b T'] R .ret ρ w :=
 ⟨_, v, ha, hv, _, v', ha', hv', h⟩
end
end Go.Lir
namespace Go.Lir
def Qe2 (w : World) (b j : Nat) : Value := (w.cell? ⟨b, j, none⟩).getD undef
theorem Q8C {w : World} {c : Cx} {L : List Res} {T b j i : Nat} {cs : List Value} {u : Value} (hS : St c w L) (hi : nth L i = some (blk b T cs)) (hj : cs[j]? = some u) : Qe2 w b j = u := by
 unfold Qe2; rw [(hS.blkAt hi).cell hj]; rfl
def downV : Value → Nat
 | .bool true => 0
 | _ => 1
def msrW (w : World) (p : Nat) : Nat := 2 * (iv (Qe2 w p 8) - iv (Qe2 w p 7)).toNat + downV (Qe2 w p 9)
end Go.Lir
namespace Go.Proofs.YteflkifmgnpbhaaGreat
open Go.Lir
set_option maxHeartbeats 1000000
attribute [local irreducible] LC.wp Q2 QD QF retQ Q1a LO.wp Qf Calls
set_option linter.unusedSimpArgs false
set_option linter.unusedVariables false
variable {cx : Cx} {w : World} {L : List Res} {p N : Nat} {c : MC} {fr : List FrmV} {g : FrmV} {h : HpS} {out inp : List Int} {m : Module}
def msr (c : MC) : Nat := 2 * (c.mo - c.fu).toNat + downV (.bool c.dn)
theorem msr_of (hS : St cx w (blk p 55 c.cells :: L)) : msrW w p = msr c := by
 unfold msrW msr
 rw [Q8C (j := 8) hS (i := 0) rfl rfl, Q8C (j := 7) hS (i := 0) rfl rfl, Q8C (j := 9) hS (i := 0) rfl rfl]
 rfl
/-- A run that has begun: it goes on, or it has ended. -/
def RunL (m : Module) (r : Run) (most k : Nat) (c : MC) (fr : List FrmV) (g : FrmV) (N : Nat) (h : HpS) (inp out : List Int) : Prop :=
 c.dn = false ∧ c.c = 0 ∧ c.e = 0 ∧ c.fu = k ∧ k ≤ most ∧ c.mo = most ∧ N ≤ k ∧ Bnd m k (msOf h g fr inp out k) ∧ r = Run.steps m most (most + 1 - k) (.on (msOf h g fr inp out k))
def RunI (m : Module) (r : Run) (most : Nat) (c : MC) (fr : List FrmV) (g : FrmV) (N : Nat) (h : HpS) (inp out back : List Int) : Prop :=
 (back = [] ∧ ∃ k, RunL m r most k c fr g N h inp out) ∨ (c.dn = true ∧ r.oc = ⟨c.e, back, out, c.fu⟩ ∧ r.flt = (0, 0) ∧ out.length ≤ 2000 ∧ back.length ≤ 100000)
theorem steps_of {m : Module} {most k : Nat} {s : MS} (hk : s.fuel < most) (he : k = s.fuel) : Run.steps m most (most + 1 - k) (.on s) = Run.steps m most (most + 1 - (k + 1)) (.of m s (s.tick.one m)) := by
 rw [show most + 1 - k = (most + 1 - (k + 1)) + 1 by omega, Run.steps]
 rw [show Run.step m most (.on s) = .of m s (s.tick.one m) by unfold Run.step; exact if_neg (by omega)]
theorem Qcs {m : Module} {most k : Nat} {s : MS} (hk : s.fuel = most) (he : k = s.fuel) : Run.steps m most (most + 1 - k) (.on s) = .over s 7 [] := by
 rw [show most + 1 - k = 0 + 1 by omega, Run.steps]
 rw [show Run.step m most (.on s) = .over s 7 [] by unfold Run.step; exact if_pos hk]
 rfl
theorem Q80 {m : Module} {most : Nat} {s : MS} {e : Int} {b : List Int} : ∀ k, Run.steps m most k (.over s e b) = .over s e b
 | 0 => rfl
 | k + 1 => by rw [Run.steps]; exact Q80 k
theorem QaH {m : Module} {most : Nat} {f : Flt} : ∀ k, Run.steps m most k (.stuck f) = .stuck f
 | 0 => rfl
 | k + 1 => by rw [Run.steps]; exact QaH k
theorem RunL.next {r : Run} {most k : Nat} {u : Value} (hI : RunL m r most k c fr g N h inp out) (hM : m.fault.1 = 0) (hi : intR.sl cx c.iv inp) (hs : StepS m p c fr g N h inp out (k + 1) cx (sl 2 1 c.bv [] :: L) u w) :
 (u = fltV (0, 0) ∧ ∃ c' fr' g' N' h' inp' out' back', RunI m r most c' fr' g' N' h' inp' out' back' ∧ c'.fn = c.fn ∧ intR.sl cx c'.iv inp' ∧ msr c' < msr c ∧ St cx w (mS p c' fr' g' N' h' out' (sl 2 1 c'.bv (QK back') :: L))) ∨
 ∃ f, r = .stuck (20, f) ∧ u = fltV (20, f) ∧ St cx w L := by
 obtain ⟨hdn, hc0, he0, hfu, hkm, hmo, hN, hB, hr⟩ := hI
 rcases hs with ⟨h7, rfl, hS⟩ | ⟨hlt, hs⟩
 · refine .inl ⟨rfl, c.over 7, fr, g, N, h, inp, out, [], .inr ⟨rfl, ?_, ?_, hB.out, Nat.zero_le _⟩, rfl, hi, ?_, hS⟩
   · rw [hr, Qcs (m := m) (most := most) (k := k) (s := msOf h g fr inp out k) (by show k = most; omega) rfl]; show Oc.mk 7 [] out k = Oc.mk 7 [] out c.fu; rw [hfu]
   · rw [hr, Qcs (m := m) (most := most) (k := k) (s := msOf h g fr inp out k) (by show k = most; omega) rfl]; rfl
   · unfold msr; rw [hdn]; show 2 * (c.mo - c.fu).toNat + 0 < 2 * (c.mo - c.fu).toNat + 1; omega
 · have hst := hr.trans (steps_of (m := m) (most := most) (k := k) (s := msOf h g fr inp out k) (by show k < most; omega) rfl)
   have hone : (msOf h g fr inp out k).tick.one m = (msOf h g fr inp out (k + 1)).one m := rfl
   rw [hone] at hst
   have hB1 : ((msOf h g fr inp out (k + 1)).one m).All (Bnd m (k + 1)) := Bnd.one (s := msOf h g fr inp out (k + 1)) (k := k) ⟨hB.cur, hB.st, hB.sl, hB.out⟩ hM
   have hms : 2 * (c.mo - (c.fu + 1)).toNat + 1 < 2 * (c.mo - c.fu).toNat + 1 := by omega
   rcases hs with ⟨rfl, hG⟩ | ⟨e, hX, rfl, fr', g', N', hN', hS⟩ | ⟨hX, rfl, hS⟩
   · rcases hG with ⟨lv, iv, ov, fr', g', N', h', inp', out', hX, hi', hN', -, hS⟩ | ⟨ns, bv, fr', g', hX, -, hS⟩
     · rw [hX] at hst hB1
       refine .inl ⟨rfl, c.tick.upd lv iv ov, fr', g', N', h', inp', out', [], .inl ⟨rfl, k + 1, hdn, hc0, he0, ?_, by omega, hmo, by omega, hB1, hst⟩, rfl, hi', ?_, hS⟩
       · show c.fu + 1 = ((k + 1 : Nat) : Int); omega
       · unfold msr; rw [hdn]; exact hms
     · rw [hX] at hst
       rw [show Run.of m (msOf h g fr inp out k) (.done ns) = .over (msOf h g fr inp out k).tick 0 ns from rfl, Q80] at hst
       refine .inl ⟨rfl, ⟨c.hp, c.fn, c.lv, c.iv, c.e, bv, c.ov, c.fu + 1, c.mo, true, c.c, c.a⟩, fr', g', N, h, inp, out, ns, .inr ⟨rfl, ?_, ?_, hB.out, ?_⟩, rfl, hi, ?_, hS.sp⟩
       · rw [hst]; show Oc.mk 0 ns out ((k + 1 : Nat) : Int) = Oc.mk c.e ns out (c.fu + 1); rw [hfu, he0]; rfl
       · rw [hst]; rfl
       · have h8 : ns.length ≤ 8 := by rw [hX] at hB1; exact hB1
         omega
       · unfold msr; rw [hdn]; show 2 * (c.mo - (c.fu + 1)).toNat + 0 < _; omega
   · rw [hX] at hst
     rw [show Run.of m (msOf h g fr inp out k) (.halt e) = .over (msOf h g fr inp out k).tick e [] from rfl, Q80] at hst
     refine .inl ⟨rfl, c.tick.over e, fr', g', N', h, inp, out, [], .inr ⟨rfl, ?_, ?_, hB.out, Nat.zero_le _⟩, rfl, hi, ?_, hS⟩
     · rw [hst]; show Oc.mk e [] out ((k + 1 : Nat) : Int) = Oc.mk e [] out (c.fu + 1); rw [hfu]; rfl
     · rw [hst]; rfl
     · unfold msr; rw [hdn]; show 2 * (c.mo - (c.fu + 1)).toNat + 0 < _; omega
   · rw [hX] at hst
     rw [show Run.of m (msOf h g fr inp out k) .lost = .stuck (20, (msOf h g fr inp out k).place m) from rfl, QaH] at hst
     exact .inr ⟨_, hst, rfl, hS.sp⟩
theorem Qct {r : Run} {most k : Nat} (hI : RunL m r most k c fr g N h inp out) (hM : m.fault.1 = 0) (hmo : most ≤ 20000) (hfn : funcR.sl cx c.fn m.funcs) (hi : intR.sl cx c.iv inp) (hS : St cx w (mS p c fr g N h out (sl 2 1 c.bv [] :: L))) :
 Rets Tryz.prog Q3g [.pointer (some ⟨p, 0, none⟩)] w fun u w' =>
  (u = fltV (0, 0) ∧ ∃ c' fr' g' N' h' inp' out' back', RunI m r most c' fr' g' N' h' inp' out' back' ∧ c'.fn = c.fn ∧ intR.sl cx c'.iv inp' ∧ msr c' < msr c ∧ St cx w' (mS p c' fr' g' N' h' out' (sl 2 1 c'.bv (QK back') :: L))) ∨
  ∃ f, r = .stuck (20, f) ∧ u = fltV (20, f) ∧ St cx w' L := by
 have hI' := hI
 obtain ⟨hdn, hc0, he0, hfu, hkm, hmo2, hN, hB, hr⟩ := hI
 obtain ⟨f, b, hf, hb, h1, h2, h3⟩ := hB.cur
 obtain ⟨q0, q1, q2⟩ := Q1V hM hf hb
 obtain ⟨e1, e2, e3, e4⟩ := Q4v q2
 have hcl := (Q2c q0).2.2.2.2
 have hfl := Q77 hM
 have hbl := (Q1x (Q1K hM hf)).2.2.2.2
 have hgf := (List.getElem?_eq_some_iff.1 hf).1
 have hgb := (List.getElem?_eq_some_iff.1 hb).1
 have hsl := hB.sl
 have hst : (msOf h g fr inp out k).st.length = fr.length := by show (fr.map FrmV.abs).reverse.length = _; simp
 have h1 : g.i ≤ b.code.length := h1
 have h2 : g.vals.length ≤ 8 + 8 * k := h2
 have h3 : g.regs.length ≤ 16 + k := h3
 have hgf : g.f < m.funcs.length := hgf
 have hgb : g.b < f.blocks.length := hgb
 have hto : ∀ {t : To}, Q1v f.blocks.length t true = 0 → ToOK f t := fun ht => ⟨Q4l ht, by have := Qcr ht; omega, by have := Qcr ht; omega⟩
 refine (step_c (m := m) (f := f) (b := b) (inp := inp) (fu := k + 1) hdn hc0 hfn hi hf hb (fun x hx => ⟨Q2S (q1 x hx), insF_k (q1 x hx), by have := Qal (q1 x hx); omega, by have := Qal (q1 x hx); omega⟩) ⟨by have := QdR q2; omega, ⟨e1, e2⟩, fun hq => hto (by rw [decide_eq_true hq] at e3; exact e3), fun hq => hto (by rw [decide_eq_true hq] at e4; exact e4)⟩ (by omega) (by omega) (by omega) (by omega) (by omega) (by omega) ?_ (by omega) hB.out ⟨by omega, by omega⟩ hS).mono fun u w' hs => hI'.next hM hi hs
 intro x hx
 obtain ⟨f9, b9, _, _, _, h9, _⟩ := hB.st x.abs (by show x.abs ∈ (fr.map FrmV.abs).reverse; rw [List.mem_reverse]; exact List.mem_map_of_mem hx)
 have h9 : x.vals.length ≤ 8 + 8 * k := h9
 omega
theorem NewS.bad {fuel pages : Int} {u : Value} (hz : (Q2d m inp fuel pages).1 ≠ 0) (hs : NewS m inp fuel pages cx L u w) : u = .tuple #[.pointer none, fltV (Q2d m inp fuel pages)] ∧ St cx w L := by
 rcases hs with ⟨_, h1, h2⟩ | ⟨h1, _⟩
 · exact ⟨h1, h2⟩
 · rw [h1] at hz; exact absurd rfl hz
theorem NewS.ok {fuel pages : Int} {u : Value} (hz : (Q2d m inp fuel pages).1 = 0) (hs : NewS m inp fuel pages cx L u w) : Q2d m inp fuel pages = (0, 0) ∧ m.fault.1 = 0 ∧ inp.length ≤ 200 ∧ 0 ≤ fuel ∧ fuel ≤ 20000 ∧ 0 ≤ pages ∧ pages ≤ 64 ∧ ∃ c' p hp fn lv iv, u = .tuple #[.pointer (some ⟨p, 0, none⟩), fltV (0, 0)] ∧ cx.Le c' ∧ funcR.sl c' fn m.funcs ∧ intR.sl c' iv inp ∧ St c' w (mS p (newC hp fn lv iv fuel) [] newG 0 ⟨[], pages⟩ [] L) := by
 rcases hs with ⟨h1, _⟩ | h1
 · exact absurd hz h1
 · exact h1
def ocV (o : Oc) (v1 v2 : Value) : Value := .agg ⟨[.int .i64 o.e, v1, v2, .int .i64 o.fuel]⟩
/-- What a run gives back. -/
def RunS (m : Module) (inp : List Int) (fuel pages : Int) (cx : Cx) (L : List Res) (u : Value) (w' : World) : Prop :=
 ((Q2d m inp fuel pages).1 ≠ 0 ∧ u = .tuple #[.agg ⟨[.int .i64 0, .slice none 0 0, .slice none 0 0, .int .i64 0]⟩, fltV (Q2d m inp fuel pages)] ∧ St cx w' L) ∨
 (Q2d m inp fuel pages = (0, 0) ∧ ∃ c' v1 v2, cx.Le c' ∧ u = .tuple #[ocV (Run.all m inp fuel.toNat pages).oc v1 v2, fltV (Run.all m inp fuel.toNat pages).flt] ∧ intR.sl c' v1 (Run.all m inp fuel.toNat pages).oc.back ∧ intR.sl c' v2 (Run.all m inp fuel.toNat pages).oc.out ∧ St c' w' L)
theorem run_bad {cs : List Value} {v : Value} {fuel pages : Int} (hz : (Q2d m inp fuel pages).1 ≠ 0) (hsh : m.Short) (hx : modR.at cx cs m) (hi : intR.sl cx v inp) (hS : St cx w L) :
 Rets Tryz.prog Q47 [.agg ⟨cs⟩, v, .int .i64 fuel, .int .i64 pages] w (RunS m inp fuel pages cx L) := by
 have hx' := hx
 obtain ⟨vf, rfl, hf⟩ := Q1w hx
 unfold RunS
 all_goals refine lgo tyD Tryz.func17 ?_
 all_goals (refine Q0 ?_; refine Q1 ?_; refine zb hS ?_; intro p4 w1 hS; refine Q5 hS ?_; intro p8 w1 hS; refine Q5 hS ?_; intro p9 w1 hS; refine zn ?_; refine Q0 ?_; refine Q1 ?_; refine zv hS ?_; refine zm ?_; refine zm ?_; refine zm ?_; refine zR4 (c := new_c hsh hx' hi hS) (h := ?_); rintro v1 w1 hN; obtain ⟨rfl, hS⟩ := hN.bad hz; unfold fltV; refine zm ?_; refine zxt ?_; refine zxt ?_; refine Q5 hS ?_; intro p11 w1 hS; refine zm ?_; refine zsn hS ?_; intro w1 hS; have hS := hS.ns; refine zn ?_; refine Q0 ?_; refine Q0 ?_; refine Q1 ?_; refine zf0 ?_; refine zl hS ?_)
 all_goals (refine QJ ?_)
 all_goals (refine zn ?_)
 all_goals refine zct ?_
 all_goals (refine Q0 ?_; refine zC [(0, none), (1, none), (2, some (some [1])), (3, some none)] ?_; have hS := hS.drew; refine s_cq ?_; refine zb0 [_, _, _, _] ?_; refine zt ?_; refine s_cq ?_; refine zv hS ?_; refine zt ?_; refine Qj ?_; refine zsn hS ?_; intro w1 hS; have hS := hS.ns; refine zt ?_; refine zy ?_; refine s_cf ?_; refine zsn hS ?_; intro w1 hS; have hS := hS.ns; refine zt ?_; refine zcn ?_; refine zr ?_; refine Qa4 vw (Q6 (n := 4) (by kernel_rfl) (by kernel_rfl) (hS.blkAt fd) (by rfl) (by rfl)) vw (Q6 (n := 2) (by kernel_rfl) (by kernel_rfl) (hS.blkAt fd) (by rfl) (by rfl)) ?_; exact ⟨_, rfl, .inl ⟨hz, rfl, hS.sp⟩⟩)
theorem Q9l {l : List Int} : intR.ls cx (QK l) l :=
 ⟨by unfold QK; simp, fun k x hx => ⟨[.int .i64 x], by unfold QK; rw [List.getElem?_map, hx]; rfl, rfl⟩⟩
theorem RunI.first {fuel pages : Int} {hp fn lv iv : Value} (hM : m.fault.1 = 0) (h0 : 0 ≤ fuel) : RunI m (Run.all m inp fuel.toNat pages) fuel.toNat (newC hp fn lv iv fuel) [] newG 0 ⟨[], pages⟩ inp [] [] :=
 .inl ⟨rfl, 0, rfl, rfl, rfl, rfl, Nat.zero_le _, (Int.toNat_of_nonneg h0).symm, Nat.zero_le _, Bnd.start hM inp pages, rfl⟩
theorem run_ok {cs : List Value} {v : Value} {fuel pages : Int} (hz : (Q2d m inp fuel pages).1 = 0) (hsh : m.Short) (hx : modR.at cx cs m) (hi : intR.sl cx v inp) (hS : St cx w L) :
 Rets Tryz.prog Q47 [.agg ⟨cs⟩, v, .int .i64 fuel, .int .i64 pages] w (RunS m inp fuel pages cx L) := by
 have hx' := hx
 obtain ⟨vf, rfl, hf⟩ := Q1w hx
 unfold RunS
 all_goals refine lgo tyD Tryz.func17 ?_
 all_goals (refine Q0 ?_; refine Q1 ?_; refine zb hS ?_; intro p4 w1 hS; refine Q5 hS ?_; intro p8 w1 hS; refine Q5 hS ?_; intro p9 w1 hS; refine zn ?_; refine Q0 ?_; refine Q1 ?_; refine zv hS ?_; refine zm ?_; refine zm ?_; refine zm ?_; refine zR4 (c := new_c hsh hx' hi hS) (h := ?_); rintro v1 w1 hN; obtain ⟨hs0, hM, hil, hf0, hf1, hp0, hp1, c2, p, hp, fn, lv, iv, rfl, hle2, hfn, hin, hS⟩ := hN.ok hz; unfold fltV; have hI0 := RunI.first (inp := inp) (pages := pages) (hp := hp) (fn := fn) (lv := lv) (iv := iv) hM hf0; refine zm ?_; refine zxt ?_; refine zxt ?_; refine Q5 hS ?_; intro p11 w1 hS; refine zm ?_; refine zsn hS ?_; intro w1 hS; have hS := hS.ns; refine zn ?_; refine Q0 ?_; refine Q0 ?_; refine Q1 ?_; refine zf0 ?_; refine zl hS ?_)
 all_goals (first | (refine QJ ?_) | (refine QN ?_))
 all_goals (refine zn ?_)
 all_goals refine zcf ?_
 all_goals (refine zsk ?_; refine Q0 ?_; refine Q9 ?_)
 refine zo [8, 9, 10] (fun A ρ' w' => ∃ (c : MC) (fr : List FrmV) (g : FrmV) (N : Nat) (h : HpS) (inp1 out back : List Int), Has ρ' A ∧ Has ρ' [] ∧ (RunI m (Run.all m inp fuel.toNat pages) fuel.toNat c fr g N h inp1 out back) ∧ (funcR.sl c2 c.fn m.funcs) ∧ (intR.sl c2 c.iv inp1) ∧ St c2 w' (mS p c fr g N h out (sl 2 1 c.bv (QK back) :: blk p11 29 [.int .i64 0, .int .i64 0] :: blk p9 29 [.int .i64 0, .int .i64 0] :: blk p8 33 [.int .i64 0, .slice none 0 0, .slice none 0 0, .int .i64 0] :: L))) (fun _ w' => msrW w' p) ?_ ?_
 · exact ⟨newC hp fn lv iv fuel, [], newG, 0, ⟨[], pages⟩, inp, [], [], zh, zh, hI0, hfn, hin, by have hS := hS.nil (T := 2) (es := 1); exact hS.sp⟩
 rintro ρ w1 ⟨c, fr, g, N, h, inp1, out, back, hA, hρ, hI, hfn1, hin1, hS⟩; obtain ⟨ρ, rfl⟩ := env2 hA hρ; have hm0 := msr_of hS
 all_goals (refine Q0 ?_; refine Q0 ?_; refine Q1 ?_; refine zm ?_)
 all_goals (refine zR1 (c := done_c hS) (h := ?_); rintro v1 w1 ⟨rfl, hS⟩; cases hdn : c.dn)
 all_goals (refine znt ?_; refine zn ?_)
 all_goals
  first
  | (refine zct ?_
     all_goals (refine zsk ?_; refine Q9 ?_; refine Q0 ?_; refine Q1 ?_; refine zm ?_)
     all_goals (obtain ⟨rfl, k, hL⟩ := hI.resolve_right (fun h9 => absurd h9.1 (by rw [hdn]; decide)); refine zR1 (c := Qct hL hM (by omega) hfn1 hin1 hS) (h := ?_); rintro v1 w1 (⟨rfl, c', fr', g', N', h', inp', out', back', hI, hfn', hin', hlt, hS⟩ | ⟨f9, hr9, rfl, hS⟩))
     all_goals (refine Q5 hS ?_; intro p12 w1 hS; refine zsn hS ?_; intro w1 hS; have hS := hS.ns; refine zn ?_; refine Q0 ?_; refine Q1 ?_; refine zf0 ?_; refine zl hS ?_)
     all_goals (first | (refine QJ ?_) | (refine QN ?_))
     all_goals (refine zn ?_)
     all_goals
      first
      | (refine zct ?_
         all_goals (refine Q0 ?_; refine zC [(0, none), (1, none), (2, some (some [1])), (3, some none)] ?_; have hS := hS.drew; refine s_cq ?_; refine zb0 [_, _, _, _] ?_; refine zt ?_; refine s_cq ?_; refine zv hS ?_; refine zt ?_; refine Qj ?_; refine zsn hS ?_; intro w1 hS; have hS := hS.ns; refine zt ?_; refine zy ?_; refine s_cf ?_; refine zsn hS ?_; intro w1 hS; have hS := hS.ns; refine zt ?_; refine zcn ?_; refine zr ?_; refine Qa4 vw (Q6 (n := 4) (by kernel_rfl) (by kernel_rfl) (hS.blkAt fd) (by rfl) (by rfl)) vw (Q6 (n := 2) (by kernel_rfl) (by kernel_rfl) (hS.blkAt fd) (by rfl) (by rfl)) ?_)
         all_goals (exact ⟨_, rfl, .inr ⟨hs0, c2, .slice none 0 0, .slice none 0 0, hle2, by rw [hr9]; rfl, by rw [hr9]; exact Rep.SR.nil _ _ _, by rw [hr9]; exact Rep.SR.nil _ _ _, hS.sp⟩⟩))
      | (refine zcf ?_
         all_goals refine zsk ?_)
     all_goals (exact ⟨⟨c', fr', g', N', h', inp', out', back', zh, zh, hI, (by rw [hfn']; exact hfn1), hin', hS.sp⟩, (by rw [msr_of (c := c') (L := L) (show St c2 _ (blk p 55 c'.cells :: L) from hS.sp), hm0]; exact hlt)⟩))
  | (refine zcf ?_
     all_goals (refine zex ?_; refine Q0 ?_; refine Q1 ?_; refine zm ?_)
     all_goals (obtain ⟨_, ho, hfz, hol, hbl⟩ := hI.resolve_left (fun h9 => (by obtain ⟨_, k, hL⟩ := h9; exact absurd hL.1 (by rw [hdn]; decide))); obtain ⟨c3, hle3, hS2, hb3⟩ := St.freezeL (r := intR) (l := back) (hS.out (r := sl 2 1 c.bv (QK back)) fd) Q9l rfl (by omega); obtain ⟨c4, hle4, hS3, ho4⟩ := St.freezeL (r := intR) (l := out) (hS2.out (r := sl 2 1 c.ov (QK out)) fd) Q9l rfl (by omega); refine zR1 (c := Qdk (c := c) (by omega) (by omega) (Rep.SR.up hb3 hle4) ho4 (show St c4 _ (blk p 55 c.cells :: _) from (by have hS := hS3; exact hS.sp))) (h := ?_); rintro v1 w1 ⟨c5, u1, u2, hle5, rfl, k1, k2, hS⟩; obtain ⟨a1, n1, rfl⟩ := Rep.SR.shape k1; obtain ⟨a2, n2, rfl⟩ := Rep.SR.shape k2)
     all_goals (refine zb0 [_, _] ?_; refine zsn hS ?_; intro w1 hS; have hS := hS.ns; refine zsn hS ?_; intro w1 hS; have hS := hS.ns; refine zn ?_; refine zr ?_; refine Qa4 vw (Q6 (n := 4) (by kernel_rfl) (by kernel_rfl) (hS.blkAt fd) (by rfl) (by rfl)) vw (Q6 (n := 2) (by kernel_rfl) (by kernel_rfl) (hS.blkAt fd) (by rfl) (by rfl)) ?_)
     all_goals ((first | exact ⟨_, rfl, .inr ⟨hs0, c2, .slice none 0 0, .slice none 0 0, hle2, by rw [hr9]; rfl, by rw [hr9]; exact Rep.SR.nil _ _ _, by rw [hr9]; exact Rep.SR.nil _ _ _, hS.sp⟩⟩ | exact ⟨_, rfl, .inr ⟨hs0, c5, .slice a1 back.length n1, .slice a2 out.length n2, hle2.trans (hle3.trans (hle4.trans hle5)), by rw [ho, hfz]; rfl, by rw [ho]; exact k1, by rw [ho]; exact k2, hS.sp⟩⟩)))
theorem run_c {cs : List Value} {v : Value} {fuel pages : Int} (hsh : m.Short) (hx : modR.at cx cs m) (hi : intR.sl cx v inp) (hS : St cx w L) :
 Rets Tryz.prog Q47 [.agg ⟨cs⟩, v, .int .i64 fuel, .int .i64 pages] w (RunS m inp fuel pages cx L) := by
 by_cases hz : (Q2d m inp fuel pages).1 = 0
 · exact run_ok hz hsh hx hi hS
 · exact run_bad hz hsh hx hi hS
end Go.Proofs.YteflkifmgnpbhaaGreat
namespace Go.Lir
section
variable {P : Program} {l : List GO} {Q : QT} {ρ : Env} {w : World}
/-- A field that holds an integer. -/
def IntF (P : Program) (f : Field) (i : Nat) : Prop := f.name ≠ "_" ∧ (∃ k, P.underlying f.type = some (.int k)) ∧ f.offset = i ∧ Q2X P f.type = true
theorem Q3R (k : Nat) {T : TypeId} {q : IntKind} {a b : Int} {kk : IntKind} {w0 : World} (ht : P.underlying T = some (.int q)) : (Op.equalIn (k + 1) T (.int kk a) (.int kk b)).run P w0 = .ok (a == b) w0 := by
 simp only [Op.equalIn, Sem.run_bind, Qa P T _ w0 ht, Result.andThen_ok]
 simp [Sem.run_pure]
def intFB (P : Program) (f : Field) (i : Nat) : Bool := f.name != "_" && (match P.underlying f.type with | some (.int _) => true | _ => false) && f.offset == i && Q2X P f.type
theorem QdG {f : Field} {i : Nat} (h : intFB P f i = true) : IntF P f i := by
 unfold intFB at h
 simp only [Bool.and_eq_true, bne_iff_ne, ne_eq, beq_iff_eq] at h
 obtain ⟨⟨⟨h1, h2⟩, h3⟩, h4⟩ := h
 refine ⟨h1, ?_, h3, h4⟩
 split at h2
 · rename_i k hk; exact ⟨k, hk⟩
 · cases h2
end
end Go.Lir
namespace Go.Lir
section
variable {P : Program} {l : List GO} {Q : QT} {ρ : Env} {w : World}
theorem run_eq2 (k : Nat) {T : TypeId} {f0 f1 : Field} {a0 a1 b0 b1 : Int} {w0 : World} (ht : P.underlying T = some (.struct #[f0, f1])) (hh : P.stoodInHeld T = false)
 (h0 : IntF P f0 0) (h1 : IntF P f1 1) :
 (Op.equalIn (k + 2) T (.agg ⟨[.int .i64 a0, .int .i64 a1]⟩) (.agg ⟨[.int .i64 b0, .int .i64 b1]⟩)).run P w0 = .ok (a0 == b0 && a1 == b1) w0 := by
 obtain ⟨n0, ⟨q0, u0⟩, o0, s0⟩ := h0
 obtain ⟨n1, ⟨q1, u1⟩, o1, s1⟩ := h1
 have hp : ∀ (T : TypeId) (cs : Array Value) (off : Nat) (v : Value) (w : World), Q2X P T = true → cs[off]? = some v → (part T cs off).run P w = .ok v w := fun T cs off v w h hv => Q87 P T cs off v w h hv
 unfold Op.equalIn
 simp only [Sem.run_bind, Qa P T _ w0 ht, Result.andThen_ok]
 simp [hh, n0, n1, o0, o1, Q3R _ u0, Q3R _ u1, hp _ _ _ _ _ s0, hp _ _ _ _ _ s1]
 by_cases e0 : a0 = b0 <;> by_cases e1 : a1 = b1 <;> simp [e0, e1]
def Int2 (P : Program) (T : TypeId) : Prop := ∃ f0 f1 : Field, P.underlying T = some (.struct #[f0, f1]) ∧ P.stoodInHeld T = false ∧ P.eqGuardType P.depth T = false ∧ IntF P f0 0 ∧ IntF P f1 1
def int2B (P : Program) (T : TypeId) : Bool := match P.underlying T with
 | some (.struct fs) => match fs.toList with
   | [f0, f1] => !P.stoodInHeld T && !P.eqGuardType P.depth T && intFB P f0 0 && intFB P f1 1
   | _ => false
 | _ => false
theorem int2_of {T : TypeId} (h : int2B P T = true) : Int2 P T := by
 unfold int2B at h
 split at h
 · rename_i fs hu
   split at h
   · rename_i f0 f1 hf
     simp only [Bool.and_eq_true, Bool.not_eq_true'] at h
     obtain ⟨⟨⟨h1, h2⟩, h3⟩, h4⟩ := h
     have : fs = #[f0, f1] := by apply Array.ext'; exact hf
     subst this
     exact ⟨f0, f1, hu, h1, h2, QdG h3, QdG h4⟩
   · cases h
 · cases h
theorem pair_dec (a0 a1 b0 b1 : Int) : (a0 == b0 && a1 == b1) = decide ((a0, a1) = (b0, b1)) := by
 rw [Bool.eq_iff_iff]; simp
theorem s_eq2 {d : Nat} {T : TypeId} {x y : Operand} {a b : Int × Int} (hT : Int2 P T) (hx : ρ.ev x = .agg ⟨[.int .i64 a.1, .int .i64 a.2]⟩) (hy : ρ.ev y = .agg ⟨[.int .i64 b.1, .int .i64 b.2]⟩)
 (h : Q2 P l Q (upd ρ d (.bool (decide (a = b)))) w) : Q2 P (⟨none, .bin d .eql T x y⟩ :: l) Q ρ w := by
 obtain ⟨f0, f1, ht, hh, hg, h0, h1⟩ := hT
 exact ⟨.bool (decide (a = b)), fun w0 => by rw [hx, hy]; simp only [Sem.run_bind, run_eqGuard_agg w0 .eql T x y _ _ hg, Result.andThen_ok, run_eql_struct, run_eq2 9998 ht hh h0 h1, pair_dec], h⟩
theorem s_eq2_t {d : Nat} {T : TypeId} {x y : Operand} {a : Int × Int} (hT : Int2 P T) (hx : ρ.ev x = .agg ⟨[.int .i64 a.1, .int .i64 a.2]⟩) (hy : ρ.ev y = .agg ⟨[.int .i64 a.1, .int .i64 a.2]⟩)
 (h : Q2 P l Q (upd ρ d (.bool true)) w) : Q2 P (⟨none, .bin d .eql T x y⟩ :: l) Q ρ w := s_eq2 hT hx hy (by rw [decide_eq_true rfl]; exact h)
/-- A block is from here on only read, as a list of one. -/
theorem St.freeze1 {α : Type} {r : Rep α} {c : Cx} {L : List Res} {T b : Nat} {cs : List Value} {x : α} (h : St c w (blk b T cs :: L)) (hr : r.at c cs x) : ∃ c', c.Le c' ∧ St c' w L ∧ r.sl c' (.slice (some ⟨b, 0, none⟩) 1 1) [x] := by
 have h1 : St c w (sl T r.es (.slice (some ⟨b, 0, none⟩) 1 1) [cs] :: L) := h.slOf (css := [cs]) (by simp) (by intro q hq; simp at hq; subst hq; exact r.len hr) rfl
 exact h1.freezeL (r := r) ((Rep.LR.nil r _ _).push hr) rfl (by simp)
end
end Go.Lir
namespace Go.Proofs.YteflkifmgnpbhaaGreat
open Go.Lir
set_option maxHeartbeats 1000000
attribute [local irreducible] LC.wp Q2 QD QF retQ Q1a LO.wp Qf Calls
set_option linter.unusedSimpArgs false
set_option linter.unusedVariables false
end Go.Proofs.YteflkifmgnpbhaaGreat
namespace Go.Proofs.YteflkifmgnpbhaaGreat
open Go.Lir
set_option maxHeartbeats 1000000
attribute [local irreducible] LC.wp Q2 QD QF retQ Q1a LO.wp Qf Calls
set_option linter.unusedSimpArgs false
set_option linter.unusedVariables false
variable {cx : Cx} {w : World} {L : List Res} {i : Nat}
abbrev Q3q (vc : Value) : List Value := [.int .i64 0, .slice none 0 0, vc, .int .i64 3, .int .i64 0, .int .i64 0, .slice none 0 0, .slice none 0 0, .int .i64 0, .slice none 0 0, .slice none 0 0, .slice none 0 0]
theorem flt_int2 : Int2 Tryz.prog 29 := int2_of (by kernel_rfl)
theorem Qdt (hS : St cx w L) : Rets Tryz.prog Qeg [] w fun u w' => ∃ a b, u = .agg ⟨[.slice (some ⟨a, 0, none⟩) 1 1]⟩ ∧ St cx w' (blk a 95 [.int .i64 0, .slice none 0 0, .slice none 0 0, .slice (some ⟨b, 0, none⟩) 1 1] :: blk b 92 (Q3q (.slice none 0 0)) :: L) := by
 all_goals refine lgo tyD Tryz.func51 ?_
 all_goals (refine Q0 ?_; refine Q1 ?_; refine Q5 hS ?_; intro p0 w1 hS; refine zn ?_; refine Q0 ?_; refine Q1 ?_; refine zb1 [_, _, _, _, _, _, _, _, _] ?_; refine zb1 [_, _, _, _, _, _, _, _, _, _, _, _] ?_; refine Q1J (cs := [_, _, _, _, _, _, _, _, _, _, _, _]) vw (by rfl) ?_; intro q1 w1 hb1 hf1 _ hk1; have hS := hS.laid hb1 hf1 hk1; refine zb1 [_, _, _, _] ?_; refine Q1J (cs := [_, _, _, _]) vw (by rfl) ?_; intro q2 w1 hb1 hf1 _ hk1; have hS := hS.laid hb1 hf1 hk1; refine zb1 [_] ?_; refine zsn hS ?_; intro w1 hS; have hS := hS.ns; refine zn ?_; refine zr ?_; refine Q1d vw (Q6 (n := 1) (by kernel_rfl) (by kernel_rfl) (hS.blkAt fd) (by rfl) (by rfl)) ?_; exact ⟨_, rfl, q2, q1, rfl, hS.sp⟩)
/-- Such a module, from now on only read. -/
theorem least_fz {a b : Nat} {code : List Ins} {vc : Value} (hk : insR.sl cx vc code) (hS : St cx w (blk a 95 [.int .i64 0, .slice none 0 0, .slice none 0 0, .slice (some ⟨b, 0, none⟩) 1 1] :: blk b 92 (Q3q vc) :: L)) :
 ∃ c', cx.Le c' ∧ St c' w L ∧ modR.at c' [.slice (some ⟨a, 0, none⟩) 1 1] ⟨[⟨0, [], [], [⟨0, [], code, ⟨3, 0, ⟨0, [], []⟩, ⟨0, [], []⟩, []⟩⟩]⟩]⟩ := by
 have n1 : ∀ c : Cx, intR.sl c (.slice none 0 0) [] := fun c => Rep.SR.nil _ _ _
 have n2 : ∀ c : Cx, tyR.sl c (.slice none 0 0) [] := fun c => Rep.SR.nil _ _ _
 obtain ⟨c1, hle1, hS, h1⟩ := St.freeze1 (r := blockR) (x := ⟨0, [], code, ⟨3, 0, ⟨0, [], []⟩, ⟨0, [], []⟩, []⟩⟩) hS.mv1 (Q7g (x := ⟨0, [], code, ⟨3, 0, ⟨0, [], []⟩, ⟨0, [], []⟩, []⟩⟩) (n2 _) hk (n1 _) (n1 _) (n1 _) (n1 _) (n1 _))
 obtain ⟨c2, hle2, hS, h2⟩ := St.freeze1 (r := funcR) (x := ⟨0, [], [], [⟨0, [], code, ⟨3, 0, ⟨0, [], []⟩, ⟨0, [], []⟩, []⟩⟩]⟩) hS ⟨_, _, _, rfl, n2 _, n2 _, h1⟩
 exact ⟨c2, hle1.trans hle2, hS, _, rfl, h2⟩
end Go.Proofs.YteflkifmgnpbhaaGreat
namespace Go.Proofs.YteflkifmgnpbhaaGreat
open Go.Lir
set_option maxHeartbeats 1000000
attribute [local irreducible] LC.wp Q2 QD QF retQ Q1a LO.wp Qf Calls
set_option linter.unusedSimpArgs false
set_option linter.unusedVariables false
theorem QbV {x : Module} {cx : Cx} {w : World} {L : List Res} {cs : List Value} (hx : modR.at cx cs x) (hS : St cx w L) : Rets Tryz.prog Q8J [.agg ⟨cs⟩] w fun u w' => ∃ b, u = .bool b ∧ (b = false → x.Few) ∧ St cx w' L := by
 obtain ⟨vf, rfl, hl⟩ := Q1w hx
 obtain ⟨l⟩ := x
 have hl : funcR.sl cx vf l := hl
 have hlen := hl.len
 all_goals refine lgo tyD Tryz.func18 ?_
 all_goals (refine Q0 ?_; refine Q1 ?_; refine zb hS ?_; intro p1 w1 hS; refine zm ?_; refine zn ?_; refine Q0 ?_; refine Q0 ?_; refine Q1 ?_; refine zf0 ?_; refine zl hS ?_; refine zL ?_)
 all_goals (first | (refine QL ?_) | (refine QQ ?_) | (refine Qe rfl rfl (fun hc => ?_) (fun hc => ?_)))
 all_goals (refine zn ?_)
 all_goals
  first
  | (refine zct ?_
     all_goals (refine Q0 ?_; refine Q1 ?_; refine zm ?_; refine zn ?_; refine zr ?_; refine zf ?_)
     all_goals (exact ⟨_, rfl, true, rfl, fun h => Bool.noConfusion h, hS.sp⟩))
  | (refine zcf ?_
     all_goals refine zsk ?_)
 all_goals (refine Q0 ?_; refine Q0 ?_; refine Q1 ?_; refine zm ?_; refine zn ?_; refine Q9 ?_)
 refine zoL hS [1] (fun A LL ρ' w' => ∃ (j : Nat), Has ρ' A ∧ Has ρ' [(3, .int .i64 j)] ∧ (j ≤ l.length) ∧ (l.length ≤ 20) ∧ (∀ f ∈ l.take j, f.Few) ∧ St cx w' (LL)) (fun ρ' _ => (l.length - iv (ρ' 3)).toNat) ?_ ?_
 · exact ⟨0, zh, zh, (by omega), (by omega), by simp, hS.sp⟩
 rintro ρ w1 ⟨j, hA, hρ, hj, hl20, hd, hS⟩; obtain ⟨ρ, rfl⟩ := env2 hA hρ
 all_goals (refine Q0 ?_; refine Q0 ?_; refine Q1 ?_; refine zm ?_; refine zf0 ?_; refine zl hS ?_; refine zL ?_; refine QA rfl rfl ?_; refine zn ?_)
 refine Qq rfl (fun hc => ?_) (fun hc => ?_)
 · skip
   all_goals (refine zsk ?_; refine Q0 ?_; refine Q9 ?_; refine Q0 ?_; refine Q1 ?_; refine zf0 ?_; refine zl hS ?_; refine zm ?_; refine zi ?_; intro b1 o1 cs1 x1 hat1 hx1 he1; obtain ⟨vp1, vr1, vb1, rfl, hp1, hr1, hb1⟩ := QM he1; (first | (refine zv hS ?_) | (refine zvk hS ?_)); refine Q5 hS ?_; intro p4 w1 hS; refine zsn hS ?_; intro w1 hS; have hS := hS.ns; refine zn ?_; refine Q0 ?_; refine Q0 ?_; refine Q1 ?_; refine zf0 ?_; refine zl hS ?_; refine zL ?_)
   all_goals (first | (refine QL ?_) | (refine QQ ?_) | (refine Qe rfl rfl (fun hc => ?_) (fun hc => ?_)))
   all_goals (refine zm ?_; (first | refine zgn ?_ | (refine zgy ?_; refine zf0 ?_)); (first | refine zgn ?_ | (refine zgy ?_; refine zl hS ?_)))
   all_goals ((first | (refine zgn ?_) | (refine zgy ?_; refine zR1 (c := Q8u hp1 hS) (h := ?_); rintro v1 w1 ⟨rfl, hS⟩; cases hg1 : Tys.great x1.params)))
   all_goals ((first | (refine zpt ?_) | (refine zpf ?_)); refine zm ?_; (first | refine zgn ?_ | (refine zgy ?_; refine zf0 ?_)); (first | refine zgn ?_ | (refine zgy ?_; refine zl hS ?_)))
   all_goals ((first | (refine zgn ?_) | (refine zgy ?_; refine zR1 (c := Q8u hr1 hS) (h := ?_); rintro v1 w1 ⟨rfl, hS⟩; cases hg2 : Tys.great x1.results)))
   all_goals ((first | (refine zpt ?_) | (refine zpf ?_)); refine zn ?_)
   all_goals
    first
    | (refine zct ?_
       all_goals (refine Q0 ?_; refine Q1 ?_; refine zm ?_; refine zn ?_; refine zr ?_; refine zf ?_)
       all_goals (exact ⟨_, rfl, true, rfl, fun h => Bool.noConfusion h, hS.sp⟩))
    | (refine zcf ?_
       all_goals refine zsk ?_)
   all_goals (refine Q0 ?_; have hlb := hb1.len; refine Q1 ?_; refine zm ?_; refine zn ?_; refine Q9 ?_)
   refine zoL hS [1, 3, 4] (fun A LL ρ' w' => ∃ (i : Nat), Has ρ' A ∧ Has ρ' [(5, .int .i64 i)] ∧ (i ≤ x1.blocks.length) ∧ (x1.blocks.length ≤ 30) ∧ (Tys.great x1.params = false) ∧ (Tys.great x1.results = false) ∧ (∀ f ∈ x1.blocks.take i, f.Few) ∧ St cx w' (LL)) (fun ρ' _ => (x1.blocks.length - iv (ρ' 5)).toNat) ?_ ?_
   · exact ⟨0, zh, zh, (by omega), (by omega), by assumption, by assumption, by simp, hS.sp⟩
   rintro ρ w1 ⟨i, hA, hρ, hi, hl30, hg1, hg2, hd1, hS⟩; obtain ⟨ρ, rfl⟩ := env2 hA hρ
   all_goals (refine Q0 ?_; refine Q0 ?_; refine Q1 ?_; refine zm ?_; refine zf0 ?_; refine zl hS ?_; refine zL ?_; refine QA rfl rfl ?_; refine zn ?_)
   refine Qq rfl (fun hc => ?_) (fun hc => ?_)
   · skip
     all_goals (refine zsk ?_; refine Q0 ?_; refine Q9 ?_; refine Q0 ?_; refine Q1 ?_; refine zf0 ?_; refine zl hS ?_; refine zm ?_; refine zi ?_; intro b2 o2 cs2 x2 hat2 hx2 he2; obtain ⟨vp2, vc2, ve21, ve22, ve23, ve24, ve25, rfl, hp2, hc2, he21, he22, he23, he24, he25⟩ := Q1N he2; (first | (refine zv hS ?_) | (refine zvk hS ?_)); refine Q5 hS ?_; intro p6 w1 hS; refine zsn hS ?_; intro w1 hS; have hS := hS.ns; refine zn ?_; refine Q0 ?_; refine Q0 ?_; refine Q1 ?_; refine zf0 ?_; refine zl hS ?_; refine zL ?_)
     all_goals (first | (refine QL ?_) | (refine QQ ?_) | (refine Qe rfl rfl (fun hc => ?_) (fun hc => ?_)))
     all_goals (refine zm ?_; (first | refine zgn ?_ | (refine zgy ?_; refine zf0 ?_)); (first | refine zgn ?_ | (refine zgy ?_; refine zl hS ?_)))
     all_goals ((first | (refine zgn ?_) | (refine zgy ?_; refine zR1 (c := Q8u hp2 hS) (h := ?_); rintro v1 w1 ⟨rfl, hS⟩; cases hg3 : Tys.great x2.params)))
     all_goals ((first | (refine zpt ?_) | (refine zpf ?_)); refine zm ?_; (first | refine zgn ?_ | (refine zgy ?_; refine zf0 ?_)); (first | refine zgn ?_ | (refine zgy ?_; (first | refine zf0 ?_ | refine zfd ?_))); (first | refine zgn ?_ | (refine zgy ?_; refine zl hS ?_)); (first | refine zgn ?_ | (refine zgy ?_; refine zL ?_)))
     all_goals (first | refine zgn ?_ | (refine zgy ?_; (first | (refine QL ?_) | (refine QQ ?_) | (refine Qe rfl rfl (fun hc => ?_) (fun hc => ?_)))))
     all_goals ((first | (refine zpt ?_) | (refine zpf ?_)); refine zm ?_; (first | refine zgn ?_ | (refine zgy ?_; refine zf0 ?_)); (first | refine zgn ?_ | (refine zgy ?_; (first | refine zf0 ?_ | refine zfd ?_))); (first | refine zgn ?_ | (refine zgy ?_; (first | refine zf0 ?_ | refine zfd ?_))); (first | refine zgn ?_ | (refine zgy ?_; refine zl hS ?_)); (first | refine zgn ?_ | (refine zgy ?_; refine zL ?_)))
     all_goals (first | refine zgn ?_ | (refine zgy ?_; (first | (refine QL ?_) | (refine QQ ?_) | (refine Qe rfl rfl (fun hc => ?_) (fun hc => ?_)))))
     all_goals ((first | (refine zpt ?_) | (refine zpf ?_)); refine zm ?_; (first | refine zgn ?_ | (refine zgy ?_; refine zf0 ?_)); (first | refine zgn ?_ | (refine zgy ?_; (first | refine zf0 ?_ | refine zfd ?_))); (first | refine zgn ?_ | (refine zgy ?_; (first | refine zf0 ?_ | refine zfd ?_))); (first | refine zgn ?_ | (refine zgy ?_; refine zl hS ?_)); (first | refine zgn ?_ | (refine zgy ?_; refine zL ?_)))
     all_goals (first | refine zgn ?_ | (refine zgy ?_; (first | (refine QL ?_) | (refine QQ ?_) | (refine Qe rfl rfl (fun hc => ?_) (fun hc => ?_)))))
     all_goals ((first | (refine zpt ?_) | (refine zpf ?_)); refine zm ?_; (first | refine zgn ?_ | (refine zgy ?_; refine zf0 ?_)); (first | refine zgn ?_ | (refine zgy ?_; (first | refine zf0 ?_ | refine zfd ?_))); (first | refine zgn ?_ | (refine zgy ?_; (first | refine zf0 ?_ | refine zfd ?_))); (first | refine zgn ?_ | (refine zgy ?_; refine zl hS ?_)); (first | refine zgn ?_ | (refine zgy ?_; refine zL ?_)))
     all_goals (first | refine zgn ?_ | (refine zgy ?_; (first | (refine QL ?_) | (refine QQ ?_) | (refine Qe rfl rfl (fun hc => ?_) (fun hc => ?_)))))
     all_goals ((first | (refine zpt ?_) | (refine zpf ?_)); refine zm ?_; (first | refine zgn ?_ | (refine zgy ?_; refine zf0 ?_)); (first | refine zgn ?_ | (refine zgy ?_; (first | refine zf0 ?_ | refine zfd ?_))); (first | refine zgn ?_ | (refine zgy ?_; (first | refine zf0 ?_ | refine zfd ?_))); (first | refine zgn ?_ | (refine zgy ?_; refine zl hS ?_)); (first | refine zgn ?_ | (refine zgy ?_; refine zL ?_)))
     all_goals (first | refine zgn ?_ | (refine zgy ?_; (first | (refine QL ?_) | (refine QQ ?_) | (refine Qe rfl rfl (fun hc => ?_) (fun hc => ?_)))))
     all_goals ((first | (refine zpt ?_) | (refine zpf ?_)); refine zn ?_)
     all_goals
      first
      | (refine zct ?_
         all_goals (refine Q0 ?_; refine Q1 ?_; refine zm ?_; refine zn ?_; refine zr ?_; refine zf ?_)
         all_goals (exact ⟨_, rfl, true, rfl, fun h => Bool.noConfusion h, hS.sp⟩))
      | (refine zcf ?_
         all_goals refine zsk ?_)
     all_goals (refine Q0 ?_; have hlc := hc2.len; refine Q1 ?_; refine zm ?_; refine zn ?_; refine Q9 ?_)
     refine zoL hS [1, 3, 4, 5, 6] (fun A LL ρ' w' => ∃ (k : Nat), Has ρ' A ∧ Has ρ' [(7, .int .i64 k)] ∧ (k ≤ x2.code.length) ∧ (x2.code.length ≤ 200) ∧ (Tys.great x2.params = false) ∧ (x2.fin.Few) ∧ (∀ f ∈ x2.code.take k, f.Few) ∧ St cx w' (LL)) (fun ρ' _ => (x2.code.length - iv (ρ' 7)).toNat) ?_ ?_
     · exact ⟨0, zh, zh, (by omega), (by omega), by assumption, ⟨⟨by omega, by omega⟩, ⟨by omega, by omega⟩, by omega⟩, by simp, hS.sp⟩
     rintro ρ w1 ⟨k, hA, hρ, hk, hl200, hg3, hfin, hd2, hS⟩; obtain ⟨ρ, rfl⟩ := env2 hA hρ
     all_goals (refine Q0 ?_; refine Q0 ?_; refine Q1 ?_; refine zm ?_; refine zf0 ?_; refine zl hS ?_; refine zL ?_; refine QA rfl rfl ?_; refine zn ?_)
     refine Qq rfl (fun hc => ?_) (fun hc => ?_)
     · skip
       all_goals (refine zsk ?_; refine Q0 ?_; refine Q9 ?_; refine Q0 ?_; refine Q1 ?_; refine zf0 ?_; refine zl hS ?_; refine zm ?_; refine zi ?_; intro b3 o3 cs3 x3 hat3 hx3 he3; obtain ⟨vr3, va3, rfl, hr3, ha3⟩ := Q1G he3; (first | refine zf0 ?_ | refine zfd ?_); (first | (refine zl hS ?_) | (refine zlk hS ?_) | (refine zlj hS ?_)); refine zL ?_)
       all_goals (first | (refine QL ?_) | (refine QQ ?_) | (refine Qe rfl rfl (fun hc => ?_) (fun hc => ?_)))
       all_goals (refine zm ?_; (first | refine zgn ?_ | (refine zgy ?_; refine zf0 ?_)); (first | refine zgn ?_ | (refine zgy ?_; refine zl hS ?_)); (first | refine zgn ?_ | (refine zgy ?_; refine zm ?_)); (first | (refine zgn ?_) | (refine zgy ?_; refine Q3P vw rfl (by assumption) rfl (by omega) ?_; intro b4 o4 cs4 x4 hat4 hx4 he4; rw [hx3] at hx4; obtain rfl : x3 = x4 := Option.some.inj hx4; obtain ⟨vr4, va4, rfl, hr4, ha4⟩ := Q1G he4)); (first | refine zgn ?_ | (refine zgy ?_; (first | refine zf0 ?_ | refine zfd ?_))); (first | refine zgn ?_ | (refine zgy ?_; (first | (refine zl hS ?_) | (refine zlk hS ?_) | (refine zlj hS ?_)))); (first | refine zgn ?_ | (refine zgy ?_; refine zL ?_)))
       all_goals (first | refine zgn ?_ | (refine zgy ?_; (first | (refine QL ?_) | (refine QQ ?_) | (refine Qe rfl rfl (fun hc => ?_) (fun hc => ?_)))))
       all_goals ((first | (refine zpt ?_) | (refine zpf ?_)); refine zn ?_)
       all_goals
        first
        | (refine zct ?_
           all_goals (refine Q0 ?_; refine Q1 ?_; refine zm ?_; refine zn ?_; refine zr ?_; refine zf ?_)
           all_goals (exact ⟨_, rfl, true, rfl, fun h => Bool.noConfusion h, hS.sp⟩))
        | (refine zcf ?_
           all_goals refine zsk ?_)
       all_goals (refine Q1 ?_; refine zm ?_; refine zad ?_; refine zm ?_; refine zn ?_; exact ⟨⟨k + 1, zh, zh, (by omega), (by omega), by assumption, by assumption, Q3F hd2 hx3 ⟨by omega, by omega⟩, hS.sp⟩, Qs (by omega)⟩)
     · skip
       all_goals (refine zex ?_; refine Q1 ?_; refine zm ?_; refine zad ?_; refine zm ?_; refine zn ?_; exact ⟨⟨i + 1, zh, zh, (by omega), (by omega), by assumption, by assumption, Q3F hd1 hx2 ⟨hg3, by omega, Q5z hd2 (by omega), hfin⟩, hS.sp⟩, Qs (by omega)⟩)
   · skip
     all_goals (refine zex ?_; refine Q1 ?_; refine zm ?_; refine zad ?_; refine zm ?_; refine zn ?_; exact ⟨⟨j + 1, zh, zh, (by omega), (by omega), Q3F hd hx1 ⟨hg1, hg2, by omega, Q5z hd1 (by omega)⟩, hS.sp⟩, Qs (by omega)⟩)
 · skip
   all_goals (refine zex ?_; refine Q0 ?_; refine Q1 ?_; refine zm ?_; refine zn ?_; refine zr ?_; refine zf ?_)
   all_goals (first | (exact ⟨_, rfl, true, rfl, fun h => Bool.noConfusion h, hS.sp⟩) | (have h1 : l.length ≤ 20 := (by omega); exact ⟨_, rfl, false, rfl, fun _ => ⟨h1, Q5z (l := l) hd (by omega)⟩, hS.sp⟩))
end Go.Proofs.YteflkifmgnpbhaaGreat
namespace Go.Proofs.YteflkifmgnpbhaaGreat
open Go.Lir
set_option maxHeartbeats 1000000
attribute [local irreducible] LC.wp Q2 QD QF retQ Q1a LO.wp Qf Calls
set_option linter.unusedSimpArgs false
set_option linter.unusedVariables false
variable {cx : Cx} {w : World} {L : List Res} {m : Module} {inp : List Int}
theorem QaQ {l m : List Int} {v v2 : Value} (hl : intR.sl cx v l) (hm : intR.sl cx v2 m) (hS : St cx w L) : Rets Tryz.prog Qaz [v, v2] w fun u w' => u = .bool (decide (l = m)) ∧ St cx w' L := by
 have hlen := hl.len
 all_goals refine lgo tyD Tryz.func78 ?_
 all_goals (refine Q0 ?_; refine Q1 ?_; refine zm ?_; refine zn ?_; refine Q0 ?_; refine Q0 ?_; refine Q1 ?_; refine zm ?_; refine zL ?_; refine zm ?_; refine zL ?_)
 all_goals (first | (refine QJ ?_) | (refine QN ?_) | (refine Ql rfl rfl (fun hc => ?_) (fun hc => ?_)))
 all_goals (refine zn ?_)
 all_goals
  first
  | (refine zct ?_
     all_goals (refine Q0 ?_; refine Q1 ?_; refine zm ?_; refine zn ?_; refine zr ?_; refine zf ?_)
     all_goals (refine ⟨_, rfl, ?_, hS.sp⟩; rw [decide_eq_false]; exact fun e => absurd (congrArg List.length e) (by omega); done))
  | (refine zcf ?_
     all_goals refine zsk ?_)
 all_goals (refine Q0 ?_; refine Q0 ?_; refine Q1 ?_; refine zm ?_; refine zn ?_; refine Q9 ?_)
 refine zoL hS [0, 1] (fun A LL ρ' w' => ∃ (j : Nat), Has ρ' A ∧ Has ρ' [(5, .int .i64 j)] ∧ (j ≤ l.length) ∧ (l.length = m.length) ∧ (l = m ↔ l.drop j = m.drop j) ∧ St cx w' (LL)) (fun ρ' _ => (l.length - iv (ρ' 5)).toNat) ?_ ?_
 · exact ⟨0, zh, zh, (by omega), (by omega), by simp, hS.sp⟩
 rintro ρ w1 ⟨j, hA, hρ, hj, hlm, hd, hS⟩; obtain ⟨ρ, rfl⟩ := env2 hA hρ
 all_goals (refine Q0 ?_; refine Q0 ?_; refine Q1 ?_; refine zm ?_; refine zm ?_; refine zL ?_; refine QA rfl rfl ?_; refine zn ?_)
 refine Qq rfl (fun hc => ?_) (fun hc => ?_)
 · skip
   all_goals (refine zsk ?_; refine Q0 ?_; refine Q9 ?_; refine Q0 ?_; refine zD [(0, none), (1, none), (2, none), (3, none), (4, none), (5, none), (6, none), (7, none), (8, some none)] ?_; have hS := hS.drew; refine zm ?_; refine zm ?_; refine zi ?_; intro b1 o1 cs1 x1 hat1 hx1 he1; obtain rfl := Q11 he1; (first | (refine zl hS ?_) | (refine zlk hS ?_)); refine zm ?_; refine zm ?_; refine zi ?_; intro b2 o2 cs2 x2 hat2 hx2 he2; obtain rfl := Q11 he2; (first | (refine zl hS ?_) | (refine zlk hS ?_)))
   all_goals (first | (refine QJ ?_) | (refine QN ?_) | (refine Ql rfl rfl (fun hc => ?_) (fun hc => ?_)))
   all_goals (refine zn ?_)
   all_goals
    first
    | (refine zct ?_
       all_goals (refine Q0 ?_; refine Q1 ?_; refine zm ?_; refine zn ?_; refine zr ?_; refine zf ?_)
       all_goals (first | (refine ⟨_, rfl, ?_, hS.sp⟩; rw [decide_eq_false]; exact fun e => absurd (congrArg List.length e) (by omega); done) | (refine ⟨_, rfl, ?_, hS.sp⟩; rw [decide_eq_false]; rw [hd, Q3 hx1, Q3 hx2]; simp [*]; done)))
    | (refine zcf ?_
       all_goals refine zsk ?_)
   all_goals (refine Q1 ?_; refine zm ?_; refine zad ?_; refine zm ?_; refine zn ?_; exact ⟨⟨j + 1, zh, zh, (by omega), (by omega), by rw [hd, Q3 hx1, Q3 hx2, show x1 = x2 by omega]; simp, hS.sp⟩, Qs (by omega)⟩)
 · skip
   all_goals (refine zex ?_; refine Q0 ?_; refine Q1 ?_; refine zm ?_; refine zn ?_; refine zr ?_; refine zf ?_; (first | (refine ⟨_, rfl, ?_, hS.sp⟩; rw [decide_eq_false]; exact fun e => absurd (congrArg List.length e) (by omega); done) | (refine ⟨_, rfl, ?_, hS.sp⟩; rw [decide_eq_false]; rw [hd, Q3 hx1, Q3 hx2]; simp [*]; done) | (refine ⟨_, rfl, ?_, hS.sp⟩; rw [decide_eq_true]; rw [hd, List.drop_of_length_le (by omega), List.drop_of_length_le (by omega)]; done)))
theorem QcV {e e2 f f2 : Int} {xs ys xs2 ys2 : List Int} {v1 v2 v3 v4 : Value} (h1 : intR.sl cx v1 xs) (h2 : intR.sl cx v2 ys) (h3 : intR.sl cx v3 xs2) (h4 : intR.sl cx v4 ys2) (hS : St cx w L) :
 Rets Tryz.prog Q8H [.agg ⟨[.int .i64 e, v1, v2, .int .i64 f]⟩, .agg ⟨[.int .i64 e2, v3, v4, .int .i64 f2]⟩] w fun u w' => u = .bool (decide (e = e2 ∧ xs = xs2 ∧ ys = ys2 ∧ f = f2)) ∧ St cx w' L := by
 all_goals refine lgo tyD Tryz.func31 ?_
 all_goals (refine Q0 ?_; refine Q1 ?_; refine zb hS ?_; intro p2 w1 hS; refine zb hS ?_; intro p3 w1 hS; refine zm ?_; refine zn ?_; refine Q0 ?_; refine Q1 ?_; refine zf0 ?_; refine zl hS ?_; refine zf0 ?_; refine zl hS ?_)
 all_goals (first | (refine Qg ?_) | (refine Qm ?_) | (refine Qb rfl rfl (fun hc => ?_) (fun hc => ?_)))
 all_goals (refine zm ?_; (first | refine zgn ?_ | (refine zgy ?_; refine zf0 ?_)); (first | refine zgn ?_ | (refine zgy ?_; refine zl hS ?_)); (first | refine zgn ?_ | (refine zgy ?_; refine zf0 ?_)); (first | refine zgn ?_ | (refine zgy ?_; refine zl hS ?_)))
 all_goals ((first | (refine zgn ?_) | (refine zgy ?_; refine zR2 (c := QaQ h1 h3 hS) (h := ?_); rintro v1 w1 ⟨rfl, hS⟩; (cases hdec : decide (xs = xs2)); have hg := of_decide_eq_false hdec; rotate_left; have hg := of_decide_eq_true hdec; all_goals skip)))
 all_goals ((first | (refine zpt ?_) | (refine zpf ?_)); refine zm ?_; (first | refine zgn ?_ | (refine zgy ?_; refine zf0 ?_)); (first | refine zgn ?_ | (refine zgy ?_; refine zl hS ?_)); (first | refine zgn ?_ | (refine zgy ?_; refine zf0 ?_)); (first | refine zgn ?_ | (refine zgy ?_; refine zl hS ?_)))
 all_goals ((first | (refine zgn ?_) | (refine zgy ?_; refine zR2 (c := QaQ h2 h4 hS) (h := ?_); rintro v1 w1 ⟨rfl, hS⟩; (cases hdec : decide (ys = ys2)); have hg := of_decide_eq_false hdec; rotate_left; have hg := of_decide_eq_true hdec; all_goals skip)))
 all_goals ((first | (refine zpt ?_) | (refine zpf ?_)); refine zm ?_; (first | refine zgn ?_ | (refine zgy ?_; refine zf0 ?_)); (first | refine zgn ?_ | (refine zgy ?_; refine zl hS ?_)); (first | refine zgn ?_ | (refine zgy ?_; refine zf0 ?_)); (first | refine zgn ?_ | (refine zgy ?_; refine zl hS ?_)))
 all_goals (first | refine zgn ?_ | (refine zgy ?_; (first | (refine Qg ?_) | (refine Qm ?_) | (refine Qb rfl rfl (fun hc => ?_) (fun hc => ?_)))))
 all_goals ((first | (refine zpt ?_) | (refine zpf ?_)); refine zm ?_; refine zn ?_; refine zr ?_; refine zf ?_; refine ⟨_, rfl, ?_, hS.sp⟩; (simp [*]); done)
theorem rstart_c {v : Value} {fuel pages : Int} (hi : intR.sl cx v inp) (hS : St cx w L) : Rets Tryz.prog Q9A [v, .int .i64 fuel, .int .i64 pages] w fun u w' => ∃ f : Flt, u = fltV f ∧ (f.1 = 0 → ¬ (200 < inp.length ∨ fuel < 0 ∨ 20000 < fuel ∨ pages < 0 ∨ 64 < pages)) ∧ St cx w' L := by
 have hil := hi.len
 all_goals refine lgo tyD Tryz.func15 ?_
 all_goals (refine Q0 ?_; refine Q1 ?_; refine Q5 hS ?_; intro p6 w1 hS; refine zn ?_; refine Q0 ?_; refine Q0 ?_; refine Q1 ?_; refine zm ?_; refine zL ?_)
 all_goals (first | (refine QL ?_) | (refine QQ ?_) | (refine Qe rfl rfl (fun hc => ?_) (fun hc => ?_)))
 all_goals (refine zm ?_; (first | refine zgn ?_ | (refine zgy ?_; refine zm ?_)))
 all_goals (first | refine zgn ?_ | (refine zgy ?_; (first | (refine Q18 ?_) | (refine Q1c ?_) | (refine Qy rfl rfl (fun hc => ?_) (fun hc => ?_)))))
 all_goals ((first | (refine zpt ?_) | (refine zpf ?_)); refine zm ?_; (first | refine zgn ?_ | (refine zgy ?_; refine zm ?_)))
 all_goals (first | refine zgn ?_ | (refine zgy ?_; (first | (refine QL ?_) | (refine QQ ?_) | (refine Qe rfl rfl (fun hc => ?_) (fun hc => ?_)))))
 all_goals ((first | (refine zpt ?_) | (refine zpf ?_)); refine zm ?_; (first | refine zgn ?_ | (refine zgy ?_; refine zm ?_)))
 all_goals (first | refine zgn ?_ | (refine zgy ?_; (first | (refine Q18 ?_) | (refine Q1c ?_) | (refine Qy rfl rfl (fun hc => ?_) (fun hc => ?_)))))
 all_goals ((first | (refine zpt ?_) | (refine zpf ?_)); refine zm ?_; (first | refine zgn ?_ | (refine zgy ?_; refine zm ?_)))
 all_goals (first | refine zgn ?_ | (refine zgy ?_; (first | (refine QL ?_) | (refine QQ ?_) | (refine Qe rfl rfl (fun hc => ?_) (fun hc => ?_)))))
 all_goals ((first | (refine zpt ?_) | (refine zpf ?_)); refine zn ?_)
 all_goals
  first
  | (refine zct ?_
     all_goals (refine Q0 ?_; refine Q1 ?_; refine zR2 (c := rF_c hS) (h := ?_); rintro v1 w1 ⟨rfl, hS⟩; refine zsn hS ?_; intro w1 hS; have hS := hS.ns; refine zn ?_; refine zr ?_; refine Q1d vw (Q6 (n := 2) (by kernel_rfl) (by kernel_rfl) (hS.blkAt fd) (by rfl) (by rfl)) ?_)
     all_goals ((first | exact ⟨_, rfl, (0, 0), rfl, (fun _ => by omega), hS.sp⟩ | exact ⟨_, rfl, (1, -1), rfl, (fun h => absurd h (by decide)), hS.sp⟩)))
  | (refine zcf ?_
     all_goals refine zsk ?_)
 all_goals (refine Q0 ?_; refine Q1 ?_; refine zb0 [_, _] ?_; refine zsn hS ?_; intro w1 hS; have hS := hS.ns; refine zn ?_; refine zr ?_; refine Q1d vw (Q6 (n := 2) (by kernel_rfl) (by kernel_rfl) (hS.blkAt fd) (by rfl) (by rfl)) ?_)
 all_goals (exact ⟨_, rfl, (0, 0), rfl, (fun _ => by omega), hS.sp⟩)
theorem long_c {fuel : Int} {cs : List Value} (hx : modR.at cx cs m) (hS : St cx w L) : Rets Tryz.prog Law_long [.agg ⟨cs⟩, .int .i64 fuel] w fun u w' => ∃ b, u = .bool b ∧ (b = false → m.Few ∧ fuel ≤ 3000) ∧ St cx w' L := by
 have hx' := hx
 obtain ⟨vf, rfl, hf⟩ := Q1w hx
 all_goals refine lgo tyD Tryz.func14 ?_
 all_goals (refine Q0 ?_; refine Q1 ?_; refine zb hS ?_; intro p2 w1 hS; refine zm ?_; refine zn ?_; refine Q0 ?_; refine Q1 ?_; refine zv hS ?_)
 all_goals (refine zR1 (c := QbV hx' hS) (h := ?_); rintro v1 w1 ⟨b, rfl, hb, hS⟩; cases b)
 all_goals (refine zm ?_; (first | refine zgn ?_ | (refine zgy ?_; refine zm ?_)))
 all_goals (first | refine zgn ?_ | (refine zgy ?_; (first | (refine QL ?_) | (refine QQ ?_) | (refine Qe rfl rfl (fun hc => ?_) (fun hc => ?_)))))
 all_goals ((first | (refine zpt ?_) | (refine zpf ?_)); refine zm ?_; refine zn ?_; refine zr ?_; refine zf ?_)
 all_goals ((first | exact ⟨_, rfl, true, rfl, (fun h => by cases h), hS.sp⟩ | exact ⟨_, rfl, _, rfl, (fun h9 => ⟨hb rfl, by first | omega | (have := of_decide_eq_false h9; omega)⟩), hS.sp⟩))
end Go.Proofs.YteflkifmgnpbhaaGreat
namespace Go.Proofs.YteflkifmgnpbhaaGreat
open Go.Lir
set_option maxHeartbeats 1000000
attribute [local irreducible] LC.wp Q2 QD QF retQ Q1a LO.wp Qf Calls
set_option linter.unusedSimpArgs false
set_option linter.unusedVariables false
variable {cx : Cx} {w : World} {L : List Res} {i : Nat}
def toZ : To := ⟨0, [], []⟩
def fiveM : Module := ⟨[⟨0, [], [.mk 1 0 []], [⟨0, [], [⟨1, 0, 0, 0, 0, 5, [], []⟩], ⟨3, 0, toZ, toZ, [0]⟩⟩]⟩]⟩
def freeM : Module := ⟨[⟨0, [], [], [⟨0, [], [⟨3, 0, 0, 0, 0, 0, [], []⟩, ⟨1, 0, 0, 0, 0, 1, [], []⟩, ⟨4, 0, 0, 0, 0, 0, [], []⟩, ⟨4, 0, 0, 0, 0, 0, [], []⟩], ⟨3, 0, toZ, toZ, []⟩⟩]⟩]⟩
theorem QbZ : Q2d fiveM [] 9 0 = (0, 0) := by decide
theorem QbX : Q2d freeM [] 9 0 = (0, 0) := by decide
theorem five_oc : (Run.all fiveM [] 9 0).oc = ⟨0, [5], [], 2⟩ := by rfl
theorem five_flt : (Run.all fiveM [] 9 0).flt = (0, 0) := by rfl
theorem free_flt : (Run.all freeM [] 9 0).flt = (20, 3) := by rfl
theorem Qc0 : fiveM.Short := by
 refine ⟨by decide, fun f hf => ?_⟩
 simp [fiveM] at hf; subst hf
 refine ⟨⟨by decide, by simp⟩, ⟨by decide, fun t ht => ?_⟩, by decide, fun b hb => ?_⟩
 · simp at ht; subst ht; exact .mk (by decide) (by simp)
 · simp at hb; subst hb
   refine ⟨⟨by decide, by simp⟩, by decide, fun i hi => ?_, ⟨by decide, by decide⟩, ⟨by decide, by decide⟩, by decide⟩
   simp at hi; subst hi; exact ⟨by decide, by decide⟩
theorem QbY : freeM.Short := by
 refine ⟨by decide, fun f hf => ?_⟩
 simp [freeM] at hf; subst hf
 refine ⟨⟨by decide, by simp⟩, ⟨by decide, by simp⟩, by decide, fun b hb => ?_⟩
 simp at hb; subst hb
 refine ⟨⟨by decide, by simp⟩, by decide, fun i hi => ?_, ⟨by decide, by decide⟩, ⟨by decide, by decide⟩, by decide⟩
 simp at hi; rcases hi with rfl | rfl | rfl <;> exact ⟨by decide, by decide⟩
theorem five_c (hS : St cx w L) : Rets Tryz.prog Law_five [] w fun u w' => ∃ c' vf, cx.Le c' ∧ u = .agg ⟨[vf]⟩ ∧ modR.at c' [vf] fiveM ∧ St c' w' L := by
 have n0 : ∀ c : Cx, tyR.sl c (.slice none 0 0) [] := fun c => Rep.SR.nil _ _ _
 have n1 : ∀ c : Cx, intR.sl c (.slice none 0 0) [] := fun c => Rep.SR.nil _ _ _
 all_goals refine lgo tyD Tryz.func50 ?_
 all_goals (refine Q0 ?_; refine Q1 ?_; refine Q5 hS ?_; intro p0 w1 hS; refine zn ?_; refine Q0 ?_; refine Q1 ?_; refine zR0 (c := Qdt hS) (h := ?_); rintro v1 w1 ⟨la, lb, rfl, hS⟩; simp only [Q3q] at hS; refine Q5 hS ?_; intro p1 w1 hS; refine zsn hS ?_; intro w1 hS; have hS := hS.ns; refine zn ?_; refine Q0 ?_; refine Q1 ?_; refine zf0 ?_; refine zl hS ?_; refine zb1 [_, _, _] ?_; refine Q1J (cs := [_, _, _]) vw (by rfl) ?_; intro q1 w1 hb1 hf1 _ hk1; have hS := hS.laid hb1 hf1 hk1; refine Q85 rfl rfl (by decide) (by decide) ?_; refine zf0 ?_; refine zst hS ?_; intro w1 hS; have hS := hS.ns; refine zn ?_; refine Q0 ?_; refine Q1 ?_; refine zf0 ?_; refine zl hS ?_; refine Q85 rfl rfl (by decide) (by decide) ?_; refine zf0 ?_; refine zl hS ?_; refine zb2 [_, _, _, _, _, _, _, _] ?_; refine Q1J (cs := [_, _, _, _, _, _, _, _]) vw (by rfl) ?_; intro q2 w1 hb1 hf1 _ hk1; have hS := hS.laid hb1 hf1 hk1; refine Q85 rfl rfl (by decide) (by decide) ?_; refine zf0 ?_; refine zst hS ?_; intro w1 hS; have hS := hS.ns)
 all_goals (refine zn ?_; refine Q0 ?_; refine Q1 ?_; refine zf0 ?_; refine zl hS ?_; refine Q85 rfl rfl (by decide) (by decide) ?_; refine zf0 ?_; refine zl hS ?_; refine Q1J (cs := [_]) vw (by rfl) ?_; intro q3 w1 hb1 hf1 _ hk1; have hS := hS.laid hb1 hf1 hk1; refine Q85 rfl rfl (by decide) (by decide) ?_; refine zf0 ?_; (first | refine zf0 ?_ | refine zfd ?_); refine zst hS ?_; intro w1 hS; have hS := hS.ns; refine zn ?_; refine Q0 ?_; refine Q1 ?_; refine zv hS ?_; refine zsn hS ?_; intro w1 hS; have hS := hS.ns; refine zn ?_; refine zr ?_; refine Q1d vw (Q6 (n := 1) (by kernel_rfl) (by kernel_rfl) (hS.blkAt fd) (by rfl) (by rfl)) ?_; have hS : St cx _ (blk q1 115 [.int .i64 1, .int .i64 0, .slice none 0 0] :: blk q2 84 [.int .i64 1, .int .i64 0, .int .i64 0, .int .i64 0, .int .i64 0, .int .i64 5, .slice none 0 0, .slice none 0 0] :: blk q3 3 [.int .i64 0] :: blk lb 92 [.int .i64 0, .slice none 0 0, .slice (some ⟨q2, 0, none⟩) 1 1, .int .i64 3, .int .i64 0, .int .i64 0, .slice none 0 0, .slice none 0 0, .int .i64 0, .slice none 0 0, .slice none 0 0, .slice (some ⟨q3, 0, none⟩) 1 1] :: blk la 95 [.int .i64 0, .slice none 0 0, .slice (some ⟨q1, 0, none⟩) 1 1, .slice (some ⟨lb, 0, none⟩) 1 1] :: L) := hS.sp; obtain ⟨c1, hle1, hS, h1⟩ := St.freeze1 (r := tyR) (x := .mk 1 0 []) hS (Q2C (n0 _)); obtain ⟨c2, hle2, hS, h2⟩ := St.freeze1 (r := insR) (x := ⟨1, 0, 0, 0, 0, 5, [], []⟩) hS ⟨_, _, rfl, n1 _, n1 _⟩; obtain ⟨c3, hle3, hS, h3⟩ := St.freeze1 (r := intR) (x := 0) hS rfl; obtain ⟨c4, hle4, hS, h4⟩ := St.freeze1 (r := blockR) (x := ⟨0, [], [⟨1, 0, 0, 0, 0, 5, [], []⟩], ⟨3, 0, toZ, toZ, [0]⟩⟩) hS (Q7g (x := ⟨0, [], [⟨1, 0, 0, 0, 0, 5, [], []⟩], ⟨3, 0, toZ, toZ, [0]⟩⟩) (n0 _) (Rep.SR.up h2 hle3) (n1 _) (n1 _) (n1 _) (n1 _) h3); obtain ⟨c5, hle5, hS, h5⟩ := St.freeze1 (r := funcR) (x := ⟨0, [], [.mk 1 0 []], [⟨0, [], [⟨1, 0, 0, 0, 0, 5, [], []⟩], ⟨3, 0, toZ, toZ, [0]⟩⟩]⟩) hS ⟨_, _, _, rfl, n0 _, Rep.SR.up h1 (hle2.trans (hle3.trans hle4)), h4⟩; exact ⟨_, rfl, c5, _, hle1.trans (hle2.trans (hle3.trans (hle4.trans hle5))), rfl, ⟨_, rfl, h5⟩, hS⟩)
theorem RunS.ok {m : Module} {inp : List Int} {fuel pages : Int} {u : Value} (hz : Q2d m inp fuel pages = (0, 0)) (hs : RunS m inp fuel pages cx L u w) : ∃ c' v1 v2, cx.Le c' ∧ u = .tuple #[ocV (Run.all m inp fuel.toNat pages).oc v1 v2, fltV (Run.all m inp fuel.toNat pages).flt] ∧ intR.sl c' v1 (Run.all m inp fuel.toNat pages).oc.back ∧ intR.sl c' v2 (Run.all m inp fuel.toNat pages).oc.out ∧ St c' w L := by
 rcases hs with ⟨h1, _⟩ | ⟨_, h1⟩
 · rw [hz] at h1; exact absurd rfl h1
 · exact h1
theorem fiver_c {vf : Value} (hx : modR.at cx [vf] fiveM) (hS : St cx w L) : Rets Tryz.prog Q47 [.agg ⟨[vf]⟩, .slice none 0 0, .int .i64 9, .int .i64 0] w fun u w' => ∃ c' u1 u2, cx.Le c' ∧ u = .tuple #[.agg ⟨[.int .i64 0, u1, u2, .int .i64 2]⟩, .agg ⟨[.int .i64 0, .int .i64 0]⟩] ∧ intR.sl c' u1 [5] ∧ intR.sl c' u2 [] ∧ St c' w' L := by
 refine (run_c (m := fiveM) (inp := []) Qc0 hx (Rep.SR.nil _ _ _) hS).mono fun u w' hs => ?_
 obtain ⟨c', v1, v2, h1, h2, h3, h4, h5⟩ := RunS.ok QbZ hs
 rw [show (9 : Int).toNat = 9 from rfl, five_oc] at h2 h3 h4
 rw [five_flt] at h2
 exact ⟨c', v1, v2, h1, h2, h3, h4, h5⟩
theorem freer_c {vf : Value} (hx : modR.at cx [vf] freeM) (hS : St cx w L) : Rets Tryz.prog Q47 [.agg ⟨[vf]⟩, .slice none 0 0, .int .i64 9, .int .i64 0] w fun u w' => ∃ c' a1 x1 y1 a2 x2 y2 e f, cx.Le c' ∧ u = .tuple #[.agg ⟨[.int .i64 e, .slice a1 x1 y1, .slice a2 x2 y2, .int .i64 f]⟩, .agg ⟨[.int .i64 20, .int .i64 3]⟩] ∧ St c' w' L := by
 refine (run_c (m := freeM) (inp := []) QbY hx (Rep.SR.nil _ _ _) hS).mono fun u w' hs => ?_
 obtain ⟨c', v1, v2, h1, h2, h3, h4, h5⟩ := RunS.ok QbX hs
 rw [show (9 : Int).toNat = 9 from rfl, free_flt] at h2
 obtain ⟨a1, y1, rfl⟩ := Rep.SR.shape h3
 obtain ⟨a2, y2, rfl⟩ := Rep.SR.shape h4
 exact ⟨c', _, _, _, _, _, _, _, _, h1, h2, h5⟩
theorem Q9k (hS : St cx w L) : Rets Tryz.prog Q7z [] w fun u w' => u = .bool true ∧ St cx w' L := by
 have n0 : ∀ c : Cx, tyR.sl c (.slice none 0 0) [] := fun c => Rep.SR.nil _ _ _
 have n1 : ∀ c : Cx, intR.sl c (.slice none 0 0) [] := fun c => Rep.SR.nil _ _ _
 all_goals refine lgo tyD Tryz.func13 ?_
 all_goals (refine Q0 ?_; refine Q1 ?_; refine zm ?_; refine zn ?_; refine Q0 ?_; refine Q1 ?_; refine zR0 (c := five_c hS) (h := ?_); rintro v1 w1 ⟨c1, vf, hle1, rfl, hx1, hS⟩; refine zR4 (c := fiver_c hx1 hS) (h := ?_); rintro v1 w1 ⟨c2, u1, u2, hle2, rfl, k1, k2, hS⟩; obtain ⟨a1, m1, rfl⟩ := Rep.SR.shape k1; obtain ⟨a2, m2, rfl⟩ := Rep.SR.shape k2; refine zm ?_; refine zxt ?_; refine zxt ?_; refine Q5 hS ?_; intro p1 w1 hS; refine Q5 hS ?_; intro p2 w1 hS; refine zsn hS ?_; intro w1 hS; have hS := hS.ns; refine zsn hS ?_; intro w1 hS; have hS := hS.ns; refine zn ?_; refine Q0 ?_; refine Q1 ?_; refine zR0 (c := Qdt hS) (h := ?_); rintro v1 w1 ⟨la, lb, rfl, hS⟩; simp only [Q3q] at hS; refine Q5 hS ?_; intro p3 w1 hS; refine zsn hS ?_; intro w1 hS; have hS := hS.ns; refine zn ?_; refine Q0 ?_; refine Q1 ?_; refine zf0 ?_; refine zl hS ?_; refine Q85 rfl rfl (by decide) (by decide) ?_; refine zf0 ?_; refine zl hS ?_; refine zb1 [_, _, _, _, _, _, _, _] ?_; refine zb2 [_, _, _, _, _, _, _, _] ?_; refine zb1 [_, _, _, _, _, _, _, _] ?_)
 all_goals (refine zb1 [_, _, _, _, _, _, _, _] ?_; refine zB4 hS [_, _, _, _, _, _, _, _, _, _, _, _, _, _, _, _, _, _, _, _, _, _, _, _, _, _, _, _, _, _, _, _] ?_; intro cb w1 hS; refine Q85 rfl rfl (by decide) (by decide) ?_; refine zf0 ?_; refine zst hS ?_; intro w1 hS; have hS := hS.ns; refine zn ?_; refine Q0 ?_; refine Q1 ?_; refine zv hS ?_; have hS : St c2 _ (blk cb 84 [.int .i64 3, .int .i64 0, .int .i64 0, .int .i64 0, .int .i64 0, .int .i64 0, .slice none 0 0, .slice none 0 0, .int .i64 1, .int .i64 0, .int .i64 0, .int .i64 0, .int .i64 0, .int .i64 1, .slice none 0 0, .slice none 0 0, .int .i64 4, .int .i64 0, .int .i64 0, .int .i64 0, .int .i64 0, .int .i64 0, .slice none 0 0, .slice none 0 0, .int .i64 4, .int .i64 0, .int .i64 0, .int .i64 0, .int .i64 0, .int .i64 0, .slice none 0 0, .slice none 0 0] :: blk la 95 [.int .i64 0, .slice none 0 0, .slice none 0 0, .slice (some ⟨lb, 0, none⟩) 1 1] :: blk lb 92 (Q3q (.slice (some ⟨cb, 0, none⟩) 4 4)) :: blk p1 33 [.int .i64 0, .slice a1 [5].length m1, .slice a2 ([] : List Int).length m2, .int .i64 2] :: blk p2 29 [.int .i64 0, .int .i64 0] :: blk p3 24 [.slice (some ⟨la, 0, none⟩) 1 1] :: L) := hS.sp; have hS := St.slOf (es := 8) (css := [[.int .i64 3, .int .i64 0, .int .i64 0, .int .i64 0, .int .i64 0, .int .i64 0, .slice none 0 0, .slice none 0 0], [.int .i64 1, .int .i64 0, .int .i64 0, .int .i64 0, .int .i64 0, .int .i64 1, .slice none 0 0, .slice none 0 0], [.int .i64 4, .int .i64 0, .int .i64 0, .int .i64 0, .int .i64 0, .int .i64 0, .slice none 0 0, .slice none 0 0], [.int .i64 4, .int .i64 0, .int .i64 0, .int .i64 0, .int .i64 0, .int .i64 0, .slice none 0 0, .slice none 0 0]]) hS rfl (by simp) rfl; obtain ⟨c3, hle3, hS, hk⟩ := St.freezeL (r := insR) (l := [⟨3, 0, 0, 0, 0, 0, [], []⟩, ⟨1, 0, 0, 0, 0, 1, [], []⟩, ⟨4, 0, 0, 0, 0, 0, [], []⟩, ⟨4, 0, 0, 0, 0, 0, [], []⟩]) hS ((((((Rep.LR.nil insR _ _).push ⟨_, _, rfl, n1 _, n1 _⟩).push ⟨_, _, rfl, n1 _, n1 _⟩).push ⟨_, _, rfl, n1 _, n1 _⟩).push ⟨_, _, rfl, n1 _, n1 _⟩)) rfl (by decide); obtain ⟨c4, hle4, hS, hm2⟩ := least_fz hk hS; refine zR4 (c := freer_c hm2 hS) (h := ?_); rintro v1 w1 ⟨c5, a3, x3, y3, a4, x4, y4, e5, f5, hle5, rfl, hS⟩)
 all_goals (refine zm ?_; refine zxt ?_; refine zxt ?_; refine Q5 hS ?_; intro p4 w1 hS; refine Q5 hS ?_; intro p5 w1 hS; refine zsn hS ?_; intro w1 hS; have hS := hS.ns; refine zsn hS ?_; intro w1 hS; have hS := hS.ns; refine zn ?_; refine Q0 ?_; refine Q1 ?_; refine zf0 ?_; refine zl hS ?_)
 all_goals (refine Qg ?_)
 all_goals (refine zm ?_; (first | refine zgn ?_ | (refine zgy ?_; refine zv hS ?_)); (first | (refine zgn ?_) | (refine zgy ?_; refine Q1J (cs := [_]) vw (by rfl) ?_; intro q3 w1 hb1 hf1 _ hk1; have hS := hS.laid hb1 hf1 hk1)); (first | refine zgn ?_ | (refine zgy ?_; refine zb2 [_, _, _, _] ?_)); (first | (refine zgn ?_) | (refine zgy ?_; obtain ⟨c6, hle6, hS, h6⟩ := St.freeze1 (r := intR) (x := 5) hS rfl; refine zR2 (c := QcV (Rep.SR.up k1 (hle3.trans (hle4.trans (hle5.trans hle6)))) (Rep.SR.up k2 (hle3.trans (hle4.trans (hle5.trans hle6)))) h6 (n1 _) hS) (h := ?_); rintro v1 w1 ⟨rfl, hS⟩; rw [show decide ((0 : Int) = 0 ∧ [(5 : Int)] = [5] ∧ ([] : List Int) = [] ∧ (2 : Int) = 2) = true by decide])); refine zpt ?_; refine zm ?_; (first | refine zgn ?_ | (refine zgy ?_; refine zv hS ?_)); (first | refine zgn ?_ | (refine zgy ?_; refine zb2 [_, _] ?_)); (first | (refine zgn ?_) | (refine zgy ?_; refine s_eq2_t (a := (20, 3)) flt_int2 rfl rfl ?_)); refine zpt ?_; refine zm ?_; refine zn ?_; refine zr ?_; refine zf ?_; exact ⟨_, rfl, rfl, St.weak hS.sp (hle1.trans (hle2.trans (hle3.trans (hle4.trans (hle5.trans hle6)))))⟩)
end Go.Proofs.YteflkifmgnpbhaaGreat
namespace Go.Lir
set_option linter.unusedVariables false
def QI {α : Type} (x : Except Int α) : Int := match x with
 | .error c => c
 | .ok _ => 0
theorem Q6t {α : Type} {x : Except Int α} (hn : NZ x) (h : QI x = 0) : ∃ a, x = .ok a := by
 cases x with
 | error c => exact absurd h (hn c rfl)
 | ok a => exact ⟨a, rfl⟩
section
variable {α : Type} {x : Except Int α} {v : Value}
theorem Q26 {c : Int} {p : α → Prop} (h : x = .error c) : ∀ a, x = .ok a → p a := fun a ha => by rw [h] at ha; cases ha
theorem Q1e {b : α} {p : α → Prop} (h : x = .ok b) (hp : p b) : ∀ a, x = .ok a → p a := fun a ha => by rw [h] at ha; cases ha; exact hp
theorem Q4k {b : α} {p : α → Prop} (h : ∀ a, x = .ok a → a = b) (hp : p b) : ∀ a, x = .ok a → p a := fun a ha => by rw [h a ha]; exact hp
theorem cd_e {c : Int} (h : x = .error c) : (Value.tuple #[v, .int .i64 c]) = .tuple #[v, .int .i64 (QI x)] := by rw [h]; rfl
theorem cd_o {b : α} (h : x = .ok b) : (Value.tuple #[v, .int .i64 0]) = .tuple #[v, .int .i64 (QI x)] := by rw [h]; rfl
theorem cd_w {b : α} {c : Int} (h : x = .ok b) (hc : c = 0) : (Value.tuple #[v, .int .i64 c]) = .tuple #[v, .int .i64 (QI x)] := by rw [h, hc]; rfl
theorem cd_c {c : Int} (h : QI x = c) : (Value.tuple #[v, .int .i64 c]) = .tuple #[v, .int .i64 (QI x)] := by rw [h]
end
def Q14 (s : JS) (k kd : Int) (held : Bool) : Int := QI (if held then jat s k kd else jkind s k kd)
section
variable {s : JS} {k kd : Int} {held : Bool} {t : Ty}
theorem QaG (h : k < 0 ∨ (s.l.length : Int) ≤ k) : Q14 s k kd held = 1 := by
 unfold Q14
 cases held
 · simp only [Bool.false_eq_true, if_false, jkind, Q1n (Q4O h)]; rfl
 · simp only [if_true, jat, jkind, Q1n (Q4O h)]; rfl
theorem Qcj (h0 : 0 ≤ k) (ht : s.l[k.toNat]? = some t) (hk : t.kind ≠ kd) : Q14 s k kd held = 9 := by
 have h1 : jkind s k kd = .error 9 := by unfold jkind; rw [Qo (Q3f h0 ht)]; exact if_pos hk
 unfold Q14
 cases held
 · simp only [Bool.false_eq_true, if_false, h1]; rfl
 · simp only [if_true, jat, Q1n h1]; rfl
theorem Qck (h0 : 0 ≤ k) (ht : s.l[k.toNat]? = some t) (hk : t.kind = kd) (hh : hasB s.h t.r = false) : Q14 s k kd true = 10 := by
 unfold Q14; simp only [if_true, jat_gone h0 ht hk hh]; rfl
theorem Q9c (h0 : 0 ≤ k) (ht : s.l[k.toNat]? = some t) (hk : t.kind = kd) : jkind s k kd = .ok t := by
 unfold jkind; rw [Qo (Q3f h0 ht)]; exact if_neg (fun h => h hk)
theorem jat_yes (h0 : 0 ≤ k) (ht : s.l[k.toNat]? = some t) (hk : t.kind = kd) (hh : hasB s.h t.r = true) : jat s k kd = .ok t := by
 unfold jat; rw [Qo (Q9c h0 ht hk)]; exact if_neg (by rw [hh]; decide)
theorem want_0 (h0 : 0 ≤ k) (ht : s.l[k.toNat]? = some t) (hk : t.kind = kd) (hh : held = true → hasB s.h t.r = true) : Q14 s k kd held = 0 := by
 unfold Q14
 cases held
 · simp only [Bool.false_eq_true, if_false, Q9c h0 ht hk]; rfl
 · simp only [if_true, jat_yes h0 ht hk (hh rfl)]; rfl
theorem want_at (h : Q14 s k kd true = 0) : ∃ t, jat s k kd = .ok t := Q6t (Q6S s k kd) (by unfold Q14 at h; simpa using h)
theorem Qci (h : Q14 s k kd false = 0) : ∃ t, jkind s k kd = .ok t := Q6t (Q2q s k kd) (by unfold Q14 at h; simpa using h)
theorem Q6x (h : Q14 s k kd true ≠ 0) : jat s k kd = .error (Q14 s k kd true) := by
 unfold Q14 at h ⊢
 simp only [if_true] at h ⊢
 cases hj : jat s k kd with
 | error c => rfl
 | ok a => rw [hj] at h; exact absurd rfl h
theorem Q9G (h : Q14 s k kd false ≠ 0) : jkind s k kd = .error (Q14 s k kd false) := by
 unfold Q14 at h ⊢
 simp only [Bool.false_eq_true, if_false] at h ⊢
 cases hj : jkind s k kd with
 | error c => rfl
 | ok a => rw [hj] at h; exact absurd rfl h
end
def Q1E : List Int → Int
 | [] => 0
 | x :: l => if x ≠ 0 then x else Q1E l
/-- What a call makes. -/
def Qd9 (m : Module) (s : JS) (x : Ins) : Except Int (List Ty) := match m.funcs[x.k.toNat]? with
 | none => .error 1
 | some g => if (x.regs.length : Int) ≠ g.regs then .error 2 else ebind (Q2p s.h [] x.regs) fun _ => ebind (Q45 s x.args g.params x.regs) fun _ => .ok (g.results.map (renT x.regs))
/-- What an instruction makes. -/
def rmk (m : Module) (f : Fun) (s : JS) (x : Ins) : Except Int (List Ty) :=
 if x.op = 1 ∨ x.op = 12 then (.ok [number])
 else if x.op = 2 then (ebind (jkind s x.a 1) fun _ => ebind (jkind s x.b 1) fun _ => .ok [number])
 else if x.op = 3 then (if s.h.length = 16 then .error 2 else .ok [.mk 2 s.h.length []])
 else if x.op = 4 then (ebind (jat s x.a 2) fun t => if t.r < f.regs then .error 11 else .ok [])
 else if x.op = 5 then (ebind (jat s x.a 2) fun t => ebind (jfields s x.args) fun ts => if 4 < (Ty.mk 3 t.r ts).depth 4 then .error 19 else .ok [.mk 3 t.r ts])
 else if x.op = 6 then (ebind (jat s x.a 3) fun t => ebind (Q2O t x.k) fun u => .ok [u])
 else if x.op = 7 then (ebind (jat s x.a 3) fun t => ebind (Q2O t x.k) fun u => ebind (jval s x.b) fun v => if u ≠ v then .error 9 else .ok [])
 else if x.op = 8 then (ebind (jat s x.a 2) fun t => ebind (jkind s x.b 1) fun _ => .ok [.mk 4 t.r []])
 else if x.op = 9 then (ebind (jat s x.a 4) fun _ => ebind (jkind s x.b 1) fun _ => .ok [number])
 else if x.op = 10 then (ebind (jat s x.a 4) fun _ => ebind (jkind s x.b 1) fun _ => ebind (jkind s x.c 1) fun _ => .ok [])
 else if x.op = 11 then (ebind (jat s x.a 4) fun _ => .ok [number])
 else if x.op = 13 then (ebind (jkind s x.a 1) fun _ => .ok [])
 else Qd9 m s x
section
variable {m : Module} {f : Fun} {s : JS} {x : Ins}
theorem rmk_1 (h : x.op = 1 ∨ x.op = 12) : rmk m f s x = (.ok [number]) := by
 unfold rmk; rw [if_pos (by omega)]
theorem rmk_2 (h : x.op = 2) : rmk m f s x = (ebind (jkind s x.a 1) fun _ => ebind (jkind s x.b 1) fun _ => .ok [number]) := by
 unfold rmk; rw [if_neg (by omega), if_pos (by omega)]
theorem rmk_3 (h : x.op = 3) : rmk m f s x = (if s.h.length = 16 then .error 2 else .ok [.mk 2 s.h.length []]) := by
 unfold rmk; rw [if_neg (by omega), if_neg (by omega), if_pos (by omega)]
theorem Q9X (h : x.op = 4) : rmk m f s x = (ebind (jat s x.a 2) fun t => if t.r < f.regs then .error 11 else .ok []) := by
 unfold rmk; rw [if_neg (by omega), if_neg (by omega), if_neg (by omega), if_pos (by omega)]
theorem Qd0 (h : x.op = 5) : rmk m f s x = (ebind (jat s x.a 2) fun t => ebind (jfields s x.args) fun ts => if 4 < (Ty.mk 3 t.r ts).depth 4 then .error 19 else .ok [.mk 3 t.r ts]) := by
 unfold rmk; rw [if_neg (by omega), if_neg (by omega), if_neg (by omega), if_neg (by omega), if_pos (by omega)]
theorem rmk_6 (h : x.op = 6) : rmk m f s x = (ebind (jat s x.a 3) fun t => ebind (Q2O t x.k) fun u => .ok [u]) := by
 unfold rmk; rw [if_neg (by omega), if_neg (by omega), if_neg (by omega), if_neg (by omega), if_neg (by omega), if_pos (by omega)]
theorem QbH (h : x.op = 7) : rmk m f s x = (ebind (jat s x.a 3) fun t => ebind (Q2O t x.k) fun u => ebind (jval s x.b) fun v => if u ≠ v then .error 9 else .ok []) := by
 unfold rmk; rw [if_neg (by omega), if_neg (by omega), if_neg (by omega), if_neg (by omega), if_neg (by omega), if_neg (by omega), if_pos (by omega)]
theorem rmk_8 (h : x.op = 8) : rmk m f s x = (ebind (jat s x.a 2) fun t => ebind (jkind s x.b 1) fun _ => .ok [.mk 4 t.r []]) := by
 unfold rmk; rw [if_neg (by omega), if_neg (by omega), if_neg (by omega), if_neg (by omega), if_neg (by omega), if_neg (by omega), if_neg (by omega), if_pos (by omega)]
theorem rmk_9 (h : x.op = 9) : rmk m f s x = (ebind (jat s x.a 4) fun _ => ebind (jkind s x.b 1) fun _ => .ok [number]) := by
 unfold rmk; rw [if_neg (by omega), if_neg (by omega), if_neg (by omega), if_neg (by omega), if_neg (by omega), if_neg (by omega), if_neg (by omega), if_neg (by omega), if_pos (by omega)]
theorem Qd3 (h : x.op = 10) : rmk m f s x = (ebind (jat s x.a 4) fun _ => ebind (jkind s x.b 1) fun _ => ebind (jkind s x.c 1) fun _ => .ok []) := by
 unfold rmk; rw [if_neg (by omega), if_neg (by omega), if_neg (by omega), if_neg (by omega), if_neg (by omega), if_neg (by omega), if_neg (by omega), if_neg (by omega), if_neg (by omega), if_pos (by omega)]
theorem Qd2 (h : x.op = 11) : rmk m f s x = (ebind (jat s x.a 4) fun _ => .ok [number]) := by
 unfold rmk; rw [if_neg (by omega), if_neg (by omega), if_neg (by omega), if_neg (by omega), if_neg (by omega), if_neg (by omega), if_neg (by omega), if_neg (by omega), if_neg (by omega), if_neg (by omega), if_pos (by omega)]
theorem Qd1 (h : x.op = 13) : rmk m f s x = (ebind (jkind s x.a 1) fun _ => .ok []) := by
 unfold rmk; rw [if_neg (by omega), if_neg (by omega), if_neg (by omega), if_neg (by omega), if_neg (by omega), if_neg (by omega), if_neg (by omega), if_neg (by omega), if_neg (by omega), if_neg (by omega), if_neg (by omega), if_pos (by omega)]
theorem rmk_14 (h : x.op = 14) : rmk m f s x = (Qd9 m s x) := by
 unfold rmk; rw [if_neg (by omega), if_neg (by omega), if_neg (by omega), if_neg (by omega), if_neg (by omega), if_neg (by omega), if_neg (by omega), if_neg (by omega), if_neg (by omega), if_neg (by omega), if_neg (by omega), if_neg (by omega)]
end
section
variable {α β γ δ : Type} {x : Except Int α} {y : Except Int β} {z : Except Int γ}
theorem Q5p {c : Int} {l : List Int} (h : c ≠ 0) : Q1E (c :: l) = c := if_pos h
theorem Qbp (l : List Int) : Q1E (0 :: l) = Q1E l := if_neg (fun h => h rfl)
theorem Qbr (hx : NZ x) (h : Q1E [QI x, QI y] ≠ 0) (g : α → β → Except Int δ) : ebind x (fun a => ebind y (g a)) = .error (Q1E [QI x, QI y]) := by
 cases x with
 | error c => rw [show QI (.error c : Except Int α) = c from rfl, Q5p (hx c rfl)]; rfl
 | ok a =>
   rw [show QI (.ok a : Except Int α) = 0 from rfl, Qbp] at h ⊢
   cases y with
   | error c =>
     rw [show QI (.error c : Except Int β) = c from rfl] at h ⊢
     by_cases hc : c = 0
     · subst hc; exact absurd rfl h
     · rw [Q5p hc]; rfl
   | ok b => exact absurd rfl h
theorem Qbq (hx : NZ x) (hy : NZ y) (h : Q1E [QI x, QI y] = 0) : ∃ a b, x = .ok a ∧ y = .ok b := by
 cases x with
 | error c => rw [show QI (.error c : Except Int α) = c from rfl, Q5p (hx c rfl)] at h; exact absurd h (hx c rfl)
 | ok a =>
   rw [show QI (.ok a : Except Int α) = 0 from rfl, Qbp] at h
   cases y with
   | error c => rw [show QI (.error c : Except Int β) = c from rfl, Q5p (hy c rfl)] at h; exact absurd h (hy c rfl)
   | ok b => exact ⟨a, b, rfl, rfl⟩
theorem Q8w (hx : NZ x) (hy : NZ y) (d : δ) : QI (ebind x fun _ => ebind y fun _ => (.ok d : Except Int δ)) = Q1E [QI x, QI y] := by
 by_cases h : Q1E [QI x, QI y] = 0
 · obtain ⟨a, b, h1, h2⟩ := Qbq hx hy h
   rw [h, Qo h1, Qo h2]; rfl
 · rw [Qbr hx h]; rfl
theorem first3_c (hx : NZ x) (hy : NZ y) (hz : NZ z) (d : δ) : QI (ebind x fun _ => ebind y fun _ => ebind z fun _ => (.ok d : Except Int δ)) = Q1E [QI x, QI y, QI z] := by
 cases x with
 | error c => rw [show QI (.error c : Except Int α) = c from rfl, Q5p (hx c rfl)]; rfl
 | ok a =>
   have : Q1E [QI (.ok a : Except Int α), QI y, QI z] = Q1E [QI y, QI z] := rfl
   rw [this, ← Q8w hy hz d]; rfl
theorem ok1 {x : Except Int α} {f : α → Except Int β} {b : β} (h : ebind x f = .ok b) {p : Prop} (hp : ∀ a, f a = .ok b → p) : p := by
 obtain ⟨a, _, h2⟩ := Q7 h; exact hp a h2
end
section
variable {s : JS} {k kd : Int}
theorem Q5B : Q14 s k kd true = QI (jat s k kd) := rfl
theorem Q3u : Q14 s k kd false = QI (jkind s k kd) := rfl
end
section
variable {s : JS} {k kd : Int} {m : Module} {f : Fun} {x : Ins}
theorem Q7U (h : Q14 s k kd true = 0) : ∃ t, 0 ≤ k ∧ k < s.l.length ∧ s.l[k.toNat]? = some t ∧ t.kind = kd ∧ hasB s.h t.r = true ∧ jat s k kd = .ok t := by
 obtain ⟨t, ht⟩ := want_at h
 obtain ⟨h1, h2, h3, h4⟩ := Q5c ht
 have := (List.getElem?_eq_some_iff.1 h2).1
 exact ⟨t, h1, by omega, h2, h3, h4, ht⟩
theorem Q6u {α : Type} {y : Except Int α} (h : QI y ≠ 0) : y = .error (QI y) := by
 cases y with
 | error c => rfl
 | ok a => exact absurd rfl h
theorem Q8B {y : Except Int Unit} (hn : NZ y) (h : QI y = 0) : y = .ok () := by
 obtain ⟨_, h⟩ := Q6t hn h; exact h
theorem rmk_67e {c : Int} (h : x.op = 6 ∨ x.op = 7) (hj : jat s x.a 3 = .error c) : rmk m f s x = .error c := by
 rcases h with h | h
 · rw [rmk_6 h, Q1n hj]
 · rw [QbH h, Q1n hj]
theorem rmk_67f {t : Ty} (h : x.op = 6 ∨ x.op = 7) (hj : jat s x.a 3 = .ok t) (hf : t.l[x.k.toNat]? = none) : rmk m f s x = .error 9 := by
 have h1 : Q2O t x.k = .error 9 := by unfold Q2O; rw [hf]
 rcases h with h | h
 · rw [rmk_6 h, Qo hj, Q1n h1]
 · rw [QbH h, Qo hj, Q1n h1]
theorem QbR {t u : Ty} {k : Int} (h : t.l[k.toNat]? = some u) : Q2O t k = .ok u := by unfold Q2O; rw [h]
theorem rcall_k {g : Fun} (h : x.op = 14) (hg : m.funcs[x.k.toNat]? = some g) : rmk m f s x = (if (x.regs.length : Int) ≠ g.regs then .error 2 else ebind (Q2p s.h [] x.regs) fun _ => ebind (Q45 s x.args g.params x.regs) fun _ => .ok (g.results.map (renT x.regs))) := by
 rw [rmk_14 h]; unfold Qd9; rw [hg]
end
theorem Q6a {n : Nat} {x : Ins} (hF : Qw n x = 0) (e : x.op = 5) : x.args.length ≤ 8 := by
 unfold Qw Q1b at hF
 simp [e] at hF; omega
end Go.Lir
namespace Go.Lir
set_option linter.unusedVariables false
theorem Tys.wrong_all {n : Int} {fields : Nat} : ∀ {l : List Ty}, Tys.wrong fields l n = 0 ↔ ∀ t ∈ l, t.wrong fields n = 0
 | [] => by simp [Tys.wrong]
 | x :: l => by
   rw [Tys.wrong]
   constructor
   · intro h
     split at h
     · rename_i h1; exact absurd h h1
     · rename_i h1
       intro t ht
       rcases List.mem_cons.1 ht with rfl | ht
       · exact Classical.not_not.1 h1
       · exact Tys.wrong_all.1 h t ht
   · intro h
     rw [if_neg (fun hn => hn (h x (List.mem_cons_self ..)))]
     exact Tys.wrong_all.2 fun t ht => h t (List.mem_cons_of_mem _ ht)
theorem Ty.wrong_iff {k r n : Int} {l : List Ty} {fields : Nat} : (Ty.mk k r l).wrong fields n = 0 ↔ (1 ≤ k ∧ k ≤ 4) ∧ (k = 1 → r = 0) ∧ (k ≠ 3 → l.length = 0) ∧ l.length ≤ fields ∧ (k ≠ 1 → 0 ≤ r ∧ r < n) ∧ ∀ t ∈ l, t.wrong fields n = 0 := by
 rw [Ty.wrong]
 constructor
 · intro h
   split at h
   · cases h
   · rename_i h1
     split at h
     · cases h
     · rename_i h2
       split at h
       · cases h
       · rename_i h3
         split at h
         · cases h
         · exact ⟨by omega, by omega, by omega, by omega, by omega, Tys.wrong_all.1 h⟩
 · rintro ⟨h1, h2, h3, h4, h5, h6⟩
   rw [if_neg (by omega), if_neg (by omega), if_neg (by omega), if_neg (by omega)]
   exact Tys.wrong_all.2 h6
theorem Ty.wrong_up {fields : Nat} {n n' : Int} (hn : n ≤ n') : ∀ t : Ty, t.wrong fields n = 0 → t.wrong fields n' = 0 := by
 intro t
 induction t using Ty.ind with
 | h k r l ih =>
   intro h
   obtain ⟨h1, h2, h3, h4, h5, h6⟩ := Ty.wrong_iff.1 h
   exact Ty.wrong_iff.2 ⟨h1, h2, h3, h4, fun hk => by have := h5 hk; omega, fun t ht => ih t ht (h6 t ht)⟩
mutual
/-- What is renamed to numbers below n is right below n. -/
theorem Ty.ren_right {fields : Nat} {f : List Int} {n : Int} (hf : ∀ i : Nat, i < f.length → 0 ≤ f.getD i 0 ∧ f.getD i 0 < n) : ∀ (t : Ty), t.wrong fields f.length = 0 → ∃ u, t.ren f = some u ∧ u.wrong fields n = 0
 | .mk k r l, ht => by
   obtain ⟨h1, h2, h3, h4, h5, h6⟩ := Ty.wrong_iff.1 ht
   obtain ⟨m, hm, hml, hmw⟩ := Tys.ren_right hf l h6
   have hr : k ≠ 1 → 0 ≤ f.getD r.toNat 0 ∧ f.getD r.toNat 0 < n := fun hk => hf r.toNat (by have := h5 hk; omega)
   refine ⟨.mk k (if k ≠ 1 then f.getD r.toNat 0 else r) m, ?_, ?_⟩
   · rw [Ty.ren, if_neg (by rintro ⟨hk, hb⟩; have := h5 hk; have := hr hk; omega), hm]
   · refine Ty.wrong_iff.2 ⟨h1, fun hk => by rw [if_neg (by omega)]; exact h2 hk, fun hk => by rw [hml]; exact h3 hk, by omega, fun hk => by rw [if_pos hk]; exact hr hk, hmw⟩
theorem Tys.ren_right {fields : Nat} {f : List Int} {n : Int} (hf : ∀ i : Nat, i < f.length → 0 ≤ f.getD i 0 ∧ f.getD i 0 < n) : ∀ (l : List Ty), (∀ t ∈ l, t.wrong fields f.length = 0) → ∃ m, Tys.ren l f = some m ∧ m.length = l.length ∧ ∀ u ∈ m, u.wrong fields n = 0
 | [], _ => ⟨[], by rw [Tys.ren], rfl, by simp⟩
 | x :: l, h => by
   obtain ⟨y, h1, h2⟩ := Ty.ren_right hf x (h x (List.mem_cons_self ..))
   obtain ⟨m, h3, h4, h5⟩ := Tys.ren_right hf l (fun t ht => h t (List.mem_cons_of_mem _ ht))
   refine ⟨y :: m, by rw [Tys.ren, h1, h3], by simp [h4], fun u hu => ?_⟩
   rcases List.mem_cons.1 hu with rfl | hu
   · exact h2
   · exact h5 u hu
end
/-- What stays true of what is known. -/
structure JInv (m : Module) (f : Fun) (z : JS) : Prop extends JGood z where
 wf : ∀ t ∈ z.l, t.wrong 8 z.h.length = 0
 keep : ∀ r : Int, 0 ≤ r → r < f.regs → hasB z.h r = true
theorem Q1Z {h : List Bool} {r : Int} (hr : hasB h r = true) : 0 ≤ r ∧ r < h.length := by have := Q5j hr; omega
theorem Ty.fault_wrong {t : Ty} {n : Int} (h : t.fault n = 0) : t.wrong 8 n = 0 := by
 unfold Ty.fault at h
 split at h
 · cases h
 · exact h
theorem Q7H {s : JS} {n : Int} (hw : ∀ t ∈ s.l, t.wrong 8 n = 0) : ∀ {l : List Int} {ts : List Ty}, jfields s l = .ok ts → ∀ t ∈ ts, t.wrong 8 n = 0
 | [], ts, h => by rw [jfields] at h; cases h; simp
 | k :: l, ts, h => by
   rw [jfields] at h
   obtain ⟨t, h1, h⟩ := Q7 h
   obtain ⟨us, h2, h⟩ := Q7 h
   cases h
   intro u hu
   rcases List.mem_cons.1 hu with rfl | hu
   · exact hw _ (List.mem_of_getElem? (Q8g h1).2)
   · exact Q7H hw h2 u hu
theorem JInv.at {m : Module} {f : Fun} {s : JS} (hg : JInv m f s) {k kd : Int} {t : Ty} (h : jat s k kd = .ok t) : t.wrong 8 s.h.length = 0 ∧ 0 ≤ t.r ∧ t.r < s.h.length ∧ t ∈ s.l := by
 have h1 := Q5c h
 have h2 := Q1Z h1.2.2.2
 exact ⟨hg.wf _ (List.mem_of_getElem? h1.2.1), h2.1, h2.2, List.mem_of_getElem? h1.2.1⟩
theorem Q6A {m : Module} {f : Fun} {s : JS} {x : Ins} {t : Ty} {ts : List Ty} (hF : Qw m.funcs.length x = 0) (e : x.op = 5) (hg : JInv m f s) (h1 : jat s x.a 2 = .ok t) (h2 : jfields s x.args = .ok ts) :
 (Ty.mk 3 t.r ts).wrong 8 s.h.length = 0 ∧ ((Ty.mk 3 t.r ts).fault s.h.length ≠ 0 ↔ 4 < (Ty.mk 3 t.r ts).depth 4) := by
 have h3 := hg.at h1
 have h4 := (Q44 hg.toJGood h2).1
 have h5 := Q6a hF e
 have hw : (Ty.mk 3 t.r ts).wrong 8 s.h.length = 0 := Ty.wrong_iff.2 ⟨by omega, by omega, by omega, by omega, fun _ => by omega, Q7H hg.wf h2⟩
 refine ⟨hw, ?_⟩
 have hd := Ty.depth_iff (Ty.mk 3 t.r ts) (most := 4) (by omega)
 unfold Ty.fault
 rw [hw]
 constructor
 · intro h
   split at h
   · rename_i hb
     exact Classical.byContradiction fun hn => by rw [hd.1 (by omega)] at hb; cases hb
   · exact absurd rfl h
 · intro h
   rw [if_pos]
   · decide
   · cases hb : (Ty.mk 3 t.r ts).deepB 4 with
     | false => rfl
     | true => have := hd.2 hb; omega
/-- What comes behind what an instruction makes. -/
def vAdd (s : JS) (x : Ins) (ts : List Ty) : Except Int JS := if 80 < s.l.length + ts.length then .error 2 else
 .ok ⟨if x.op = 3 then s.h ++ [true] else if x.op = 4 then (match s.l[x.a.toNat]? with | some t => s.h.set t.r.toNat false | none => s.h) else s.h, s.l ++ ts⟩
theorem Q3a {s : JS} {x : Ins} {t : Ty} (hn : s.l.length ≤ 80) (h3 : x.op ≠ 3) (h4 : x.op ≠ 4) : vAdd s x [t] = jput s t := by
 unfold vAdd jput
 rw [if_neg h3, if_neg h4]
 by_cases h : s.l.length = 80
 · rw [if_pos h, if_pos (by simp; omega)]
 · rw [if_neg h, if_neg (by simp; omega)]
theorem Q9H {s : JS} {x : Ins} (hn : s.l.length ≤ 80) (h3 : x.op ≠ 3) (h4 : x.op ≠ 4) : vAdd s x [] = .ok s := by
 unfold vAdd
 rw [if_neg h3, if_neg h4, if_neg (by simp; omega), List.append_nil]
theorem QH {α β γ : Type} (x : Except Int α) (f : α → Except Int β) (g : β → Except Int γ) : ebind (ebind x f) g = ebind x fun a => ebind (f a) g := by cases x <;> rfl
theorem QG {α β : Type} {x : Except Int α} {f g : α → Except Int β} (h : ∀ a, x = .ok a → f a = g a) : ebind x f = ebind x g := by
 cases x with
 | error e => rfl
 | ok a => exact h a rfl
theorem jins_rmk {m : Module} {f : Fun} {s : JS} {x : Ins} (hF : Qw m.funcs.length x = 0) (hg : JInv m f s) : jins m f s x = ebind (rmk m f s x) (vAdd s x) := by
 have hop := Q2S hF
 have hn := hg.n
 rcases op_cases (op := x.op) (by omega) (by omega) with e | e | e | e | e | e | e | e | e | e | e | e | e | e
 · rw [Q68 (by omega), rmk_1 (by omega), Qo rfl, Q3a hn (by omega) (by omega)]
 · rw [Qbe e, rmk_2 e, QH]; refine QG fun _ _ => ?_; rw [QH]; refine QG fun _ _ => ?_; rw [Qo rfl, Q3a hn (by omega) (by omega)]
 · rw [Qbd e, rmk_3 e]
   by_cases h : s.h.length = 16
   · rw [if_pos (.inl h), if_pos h, Q1n rfl]
   · rw [if_neg h, Qo rfl]
     unfold vAdd
     rw [if_pos e]
     by_cases h8 : s.l.length = 80
     · rw [if_pos (.inr h8), if_pos (by simp; omega)]
     · rw [if_neg (by omega), if_neg (by simp; omega)]
 · rw [Qbc e, Q9X e, QH]
   refine QG fun t ht => ?_
   by_cases h : t.r < f.regs
   · rw [if_pos h, if_pos h, Q1n rfl]
   · rw [if_neg h, if_neg h, Qo rfl]
     unfold vAdd
     rw [if_neg (show ¬ x.op = 3 by omega), if_pos e, if_neg (by simp; omega), (Q5c ht).2.1, List.append_nil]
 · rw [Qbb e, Qd0 e, QH]; unfold Q67
   refine QG fun t ht => ?_
   rw [QH]
   refine QG fun ts hts => ?_
   have := (Q6A hF e hg ht hts).2
   by_cases h : 4 < (Ty.mk 3 t.r ts).depth 4
   · rw [if_pos (this.2 h), if_pos h, Q1n rfl]
   · rw [if_neg (fun hh => h (this.1 hh)), if_neg h, Qo rfl, Q3a hn (by omega) (by omega)]
 · rw [Qba e, rmk_6 e, QH]; refine QG fun _ _ => ?_; rw [QH]; refine QG fun _ _ => ?_; rw [Qo rfl, Q3a hn (by omega) (by omega)]
 · rw [Qb9 e, QbH e, QH]; refine QG fun _ _ => ?_; rw [QH]; refine QG fun u _ => ?_; rw [QH]; refine QG fun v _ => ?_
   by_cases h : u ≠ v
   · rw [if_pos h, if_pos h, Q1n rfl]
   · rw [if_neg h, if_neg h, Qo rfl, Q9H hn (by omega) (by omega)]
 · rw [Qb8 e, rmk_8 e, QH]; refine QG fun _ _ => ?_; rw [QH]; refine QG fun _ _ => ?_; rw [Qo rfl, Q3a hn (by omega) (by omega)]
 · rw [Qb7 e, rmk_9 e, QH]; refine QG fun _ _ => ?_; rw [QH]; refine QG fun _ _ => ?_; rw [Qo rfl, Q3a hn (by omega) (by omega)]
 · rw [Q8m e, Qd3 e, QH]; refine QG fun _ _ => ?_; rw [QH]; refine QG fun _ _ => ?_; rw [QH]; refine QG fun _ _ => ?_; rw [Qo rfl, Q9H hn (by omega) (by omega)]
 · rw [Q8l e, Qd2 e, QH]; refine QG fun _ _ => ?_; rw [Qo rfl, Q3a hn (by omega) (by omega)]
 · rw [Q68 (by omega), rmk_1 (by omega), Qo rfl, Q3a hn (by omega) (by omega)]
 · rw [Q8k e, Qd1 e, QH]; refine QG fun _ _ => ?_; rw [Qo rfl, Q9H hn (by omega) (by omega)]
 · rw [Q6R e, rmk_14 e]; unfold Q6k Qd9
   cases hgf : m.funcs[x.k.toNat]? with
   | none => rfl
   | some g =>
     dsimp only
     by_cases hr : (x.regs.length : Int) ≠ g.regs
     · rw [if_pos hr, if_pos hr]; rfl
     · rw [if_neg hr, if_neg hr, QH]; refine QG fun _ _ => ?_; rw [QH]; refine QG fun _ _ => ?_; rw [Qo rfl]
       unfold vAdd
       rw [if_neg (show ¬ x.op = 3 by omega), if_neg (show ¬ x.op = 4 by omega), List.length_map]
theorem Q42 {s s' : JS} {t : Ty} {f : Fun} (hw : ∀ t ∈ s.l, t.wrong 8 s.h.length = 0) (hk : ∀ r : Int, 0 ≤ r → r < f.regs → hasB s.h r = true) (ht : t.wrong 8 s.h.length = 0) (h : jput s t = .ok s') :
 (∀ t ∈ s'.l, t.wrong 8 s'.h.length = 0) ∧ (∀ r : Int, 0 ≤ r → r < f.regs → hasB s'.h r = true) := by
 obtain ⟨h1, h2, h3⟩ := Q8i h
 refine ⟨fun u hu => ?_, fun r => by rw [h2]; exact hk r⟩
 rw [h3] at hu
 rw [h2]
 rcases List.mem_append.1 hu with hu | hu
 · exact hw u hu
 · simp at hu; subst hu; exact ht
theorem Q93 (n : Int) : number.wrong 8 n = 0 := by unfold number; exact Ty.wrong_iff.2 ⟨by omega, by omega, by simp, by simp, by omega, by simp⟩
theorem Qbk {h : List Bool} {r : Int} (hr : hasB h r = true) : hasB (h ++ [true]) r = true := by
 obtain ⟨h1, h2, h3⟩ := Q5j hr
 unfold hasB
 rw [List.getD_eq_getElem?_getD] at h3 ⊢
 rw [List.getElem?_append_left (by omega), h3, List.length_append]
 simp; omega
theorem Qar {h : List Bool} {r k : Int} (hr : hasB h r = true) (hk : 0 ≤ k) (hne : k ≠ r) : hasB (h.set k.toNat false) r = true := by
 obtain ⟨h1, h2, h3⟩ := Q5j hr
 unfold hasB
 rw [List.getD_eq_getElem?_getD] at h3 ⊢
 rw [List.getElem?_set_ne (by omega), h3, List.length_set]
 simp; omega
theorem Q5a {m : Module} {f : Fun} {s s' : JS} {x : Ins} (hM : m.fault.1 = 0) (hm : m.Short) (hg : JInv m f s) (hF : Qw m.funcs.length x = 0) (h : jins m f s x = .ok s') : JInv m f s' := by
 have hG := Qdx hm hg.toJGood hF h
 suffices hh : (∀ t ∈ s'.l, t.wrong 8 s'.h.length = 0) ∧ (∀ r : Int, 0 ≤ r → r < f.regs → hasB s'.h r = true) from ⟨hG, hh.1, hh.2⟩
 have hop := Q2S hF
 have hw := hg.wf
 have hk := hg.keep
 rcases op_cases (op := x.op) (by omega) (by omega) with e | e | e | e | e | e | e | e | e | e | e | e | e | e
 · rw [Q68 (by omega)] at h; exact Q42 hw hk (Q93 _) h
 · rw [Qbe e] at h; obtain ⟨_, _, h⟩ := Q7 h; obtain ⟨_, _, h⟩ := Q7 h; exact Q42 hw hk (Q93 _) h
 · rw [Qbd e] at h
   split at h
   · cases h
   · cases h
     refine ⟨fun u hu => ?_, fun r h0 h1 => Qbk (hk r h0 h1)⟩
     rw [List.length_append]
     rcases List.mem_append.1 hu with hu | hu
     · exact Ty.wrong_up (by simp; omega) u (hw u hu)
     · simp at hu; subst hu
       exact Ty.wrong_iff.2 ⟨by omega, by omega, by simp, by simp, fun _ => by simp; omega, by simp⟩
 · rw [Qbc e] at h
   obtain ⟨t, h1, h⟩ := Q7 h
   split at h
   · cases h
   · rename_i hlt
     cases h
     have := hg.at h1
     refine ⟨fun u hu => by rw [List.length_set]; exact hw u hu, fun r h0 h1 => Qar (hk r h0 h1) (by omega) (by omega)⟩
 · rw [Qbb e] at h; unfold Q67 at h
   obtain ⟨t, h1, h⟩ := Q7 h; obtain ⟨ts, h2, h⟩ := Q7 h
   split at h
   · cases h
   · exact Q42 hw hk (Q6A hF e hg h1 h2).1 h
 · rw [Qba e] at h; obtain ⟨t, h1, h9⟩ := Q7 h; obtain ⟨u, h2, h8⟩ := Q7 h9
   have h3 := (hg.at h1).1
   clear h h9
   obtain ⟨k, r, l⟩ := t
   exact Q42 hw hk ((Ty.wrong_iff.1 h3).2.2.2.2.2 u (List.mem_of_getElem? (Q5b h2))) h8
 · rw [Qb9 e] at h; obtain ⟨_, _, h⟩ := Q7 h; obtain ⟨_, _, h⟩ := Q7 h; obtain ⟨_, _, h⟩ := Q7 h
   split at h
   · cases h
   · cases h; exact ⟨hw, hk⟩
 · rw [Qb8 e] at h; obtain ⟨t, h1, h⟩ := Q7 h; obtain ⟨_, _, h⟩ := Q7 h
   have := hg.at h1
   exact Q42 hw hk (Ty.wrong_iff.2 ⟨by omega, by omega, by simp, by simp, fun _ => by omega, by simp⟩) h
 · rw [Qb7 e] at h; obtain ⟨_, _, h⟩ := Q7 h; obtain ⟨_, _, h⟩ := Q7 h; exact Q42 hw hk (Q93 _) h
 · rw [Q8m e] at h; obtain ⟨_, _, h⟩ := Q7 h; obtain ⟨_, _, h⟩ := Q7 h; obtain ⟨_, _, h⟩ := Q7 h; cases h; exact ⟨hw, hk⟩
 · rw [Q8l e] at h; obtain ⟨_, _, h⟩ := Q7 h; exact Q42 hw hk (Q93 _) h
 · rw [Q68 (by omega)] at h; exact Q42 hw hk (Q93 _) h
 · rw [Q8k e] at h; obtain ⟨_, _, h⟩ := Q7 h; cases h; exact ⟨hw, hk⟩
 · rw [Q6R e] at h
   unfold Q6k at h
   split at h
   · cases h
   · rename_i g hgf
     split at h
     · cases h
     · rename_i hrl
       obtain ⟨_, h1, h⟩ := Q7 h; obtain ⟨_, _, h⟩ := Q7 h
       split at h
       · cases h
       · cases h
         refine ⟨fun u hu => ?_, hk⟩
         rcases List.mem_append.1 hu with hu | hu
         · exact hw u hu
         · obtain ⟨t, ht, rfl⟩ := List.mem_map.1 hu
           have h2 := Ty.fault_wrong (Q2I (Q1x (Q1K hM hgf)).2.2.2.1 t ht)
           have hall := Q41 h1
           rw [show g.regs = (x.regs.length : Int) by omega] at h2
           obtain ⟨v, h3, h4⟩ := Ty.ren_right (n := s.h.length) (f := x.regs) (fun i hi => by
            rw [List.getD_eq_getElem?_getD, List.getElem?_eq_getElem hi]
            exact Q1Z (hall _ (List.getElem_mem hi))) t h2
           unfold renT
           rw [h3]
           exact h4
theorem jIns_inv {m : Module} {f : Fun} {s : JS} {x : Ins} (hM : m.fault.1 = 0) (hm : m.Short) (hg : JInv m f s) : JInv m f (jIns m f s x).2 := by
 by_cases h : (jIns m f s x).1 = 0
 · obtain ⟨h1, h2⟩ := QdE h; exact Q5a hM hm hg h1 h2
 · rw [jIns_no h]; exact hg
theorem Q4r {m : Module} (hm : m.Short) (hF : m.fault.1 = 0) {f b : Nat} {x : Fun} {y : Block} (hx : m.funcs[f]? = some x) (hy : x.blocks[b]? = some y) : JInv m x (Q1s y) := by
 have h1 := Q2c (Q1V hF hx hy).1
 have h2 := Q1x (Q1K hF hx)
 have hl : (Q1s y).h.length = y.regs.toNat := by unfold Q1s; simp only [List.length_replicate]; omega
 refine ⟨Qaj hm hF hx hy, fun t ht => ?_, fun r h0 hr => ?_⟩
 · rw [hl, Int.toNat_of_nonneg (by omega)]
   exact Ty.fault_wrong (Q2I h1.2.2.1 t ht)
 · unfold hasB
   rw [hl]
   unfold Q1s
   simp only
   rw [List.getD_eq_getElem?_getD, List.getElem?_replicate, if_pos (by omega)]
   simp; omega
/-! ### What is left held -/
theorem Q7L {h : List Bool} : ∀ {n : Nat}, (∀ i : Nat, i < n → h.getD i false = true) → Q1y h n = upTo n
 | 0, _ => by unfold Q1y upTo; rfl
 | n + 1, hk => by
   rw [Q4T, if_pos (hk n (by omega)), Q7L (fun i hi => hk i (by omega))]
   unfold upTo
   rw [List.range_succ, List.map_append]; rfl
theorem Q6X {h : List Bool} {n : Nat} : ∀ k : Nat, ∃ mo, Q1y h (n + k) = Q1y h n ++ mo ∧ ∀ r ∈ mo, (n : Int) ≤ r
 | 0 => ⟨[], by simp, by simp⟩
 | k + 1 => by
   obtain ⟨mo, h1, h2⟩ := Q6X (h := h) (n := n) k
   refine ⟨mo ++ (if h.getD (n + k) false = true then [((n + k : Nat) : Int)] else []), ?_, fun r hr => ?_⟩
   · rw [show n + (k + 1) = n + k + 1 by omega, Q4T, h1, List.append_assoc]
   · rcases List.mem_append.1 hr with hr | hr
     · exact h2 r hr
     · split at hr
       · simp at hr; omega
       · cases hr
theorem Q8e {m : Module} {f : Fun} {s : JS} (hg : JInv m f s) (hf : 0 ≤ f.regs) : (f.regs < (Q1B s.h).length ↔ ∃ r ∈ Q1B s.h, f.regs ≤ r) := by
 have hle : f.regs ≤ s.h.length := by
  by_cases h : f.regs = 0
  · omega
  · have := Q1Z (hg.keep (f.regs - 1) (by omega) (by omega)); omega
 have h1 : Q1y s.h f.regs.toNat = upTo f.regs.toNat := Q7L fun i hi => (Q5j (hg.keep i (by omega) (by omega))).2.2
 obtain ⟨mo, h2, h3⟩ := Q6X (h := s.h) (n := f.regs.toNat) (s.h.length - f.regs.toNat)
 rw [show f.regs.toNat + (s.h.length - f.regs.toNat) = s.h.length by omega, h1] at h2
 have hul : (upTo f.regs.toNat).length = f.regs.toNat := by unfold upTo; simp
 unfold Q1B
 rw [h2, List.length_append, hul]
 constructor
 · intro h
   cases mo with
   | nil => simp at h; omega
   | cons r mo => exact ⟨r, by simp, by have := h3 r (by simp); omega⟩
 · rintro ⟨r, hr, h⟩
   rcases List.mem_append.1 hr with hr | hr
   · unfold upTo at hr
     obtain ⟨i, hi, rfl⟩ := List.mem_map.1 hr
     have := List.mem_range.1 hi
     simp only [Int.ofNat_eq_natCast] at h
     omega
   · have : 0 < mo.length := List.length_pos_of_mem hr
     omega
/-! ### By what it makes -/
theorem rmk_nz (m : Module) (f : Fun) (s : JS) (x : Ins) : NZ (rmk m f s x) := by
 unfold rmk Qd9
 repeat' (first | exact .o _ | exact .e (by decide) | refine .bind (Q2q _ _ _) fun _ _ => ?_ | refine .bind (Q6S _ _ _) fun _ _ => ?_ | refine .bind (Q9d _ _) fun _ _ => ?_ | refine .bind (Q6Q _ _) fun _ _ => ?_ | refine .bind (Q5R _ _) fun _ _ => ?_ | refine .bind (Q8h _ _ _) fun _ _ => ?_ | refine .bind (Q3C _ _ _ _) fun _ _ => ?_ | refine .ite ?_ ?_ | split)
section
variable {m : Module} {f : Fun} {s : JS} {x : Ins} {ts : List Ty}
theorem jIns_f (h : Qw m.funcs.length x ≠ 0) : jIns m f s x = (Qw m.funcs.length x, s) := by unfold jIns; rw [if_pos h]
theorem Q9f (hF : Qw m.funcs.length x = 0) (hg : JInv m f s) : jIns m f s x = match ebind (rmk m f s x) (vAdd s x) with
 | .error c => (c, s)
 | .ok s' => (0, s') := by
 unfold jIns
 rw [if_neg (fun h => h hF), jins_rmk hF hg]
 all_goals (cases ebind (rmk m f s x) (vAdd s x) <;> rfl)
theorem jIns_e (hF : Qw m.funcs.length x = 0) (hg : JInv m f s) (h : QI (rmk m f s x) ≠ 0) : jIns m f s x = (QI (rmk m f s x), s) := by
 rw [Q9f hF hg, Q1n (Q6u h)]
theorem jIns_m (hF : Qw m.funcs.length x = 0) (hg : JInv m f s) (h : rmk m f s x = .ok ts) (hl : 80 < s.l.length + ts.length) : jIns m f s x = (2, s) := by
 rw [Q9f hF hg, Qo h]; unfold vAdd; rw [if_pos hl]
theorem jIns_o3 (hF : Qw m.funcs.length x = 0) (hg : JInv m f s) (h : rmk m f s x = .ok ts) (hl : ¬ 80 < s.l.length + ts.length) (h3 : x.op = 3) : jIns m f s x = (0, ⟨s.h ++ [true], s.l ++ ts⟩) := by
 rw [Q9f hF hg, Qo h]; unfold vAdd; rw [if_neg hl, if_pos h3]
theorem jIns_o4 (hF : Qw m.funcs.length x = 0) (hg : JInv m f s) (h : rmk m f s x = .ok ts) (hl : ¬ 80 < s.l.length + ts.length) (h4 : x.op = 4) {t : Ty} (ht : s.l[x.a.toNat]? = some t) : jIns m f s x = (0, ⟨s.h.set t.r.toNat false, s.l ++ ts⟩) := by
 rw [Q9f hF hg, Qo h]; unfold vAdd; rw [if_neg hl, if_neg (show ¬ x.op = 3 by omega), if_pos h4, ht]
theorem jIns_o (hF : Qw m.funcs.length x = 0) (hg : JInv m f s) (h : rmk m f s x = .ok ts) (hl : ¬ 80 < s.l.length + ts.length) (h3 : x.op ≠ 3) (h4 : x.op ≠ 4) : jIns m f s x = (0, ⟨s.h, s.l ++ ts⟩) := by
 rw [Q9f hF hg, Qo h]; unfold vAdd; rw [if_neg hl, if_neg h3, if_neg h4]
theorem rmk_3ok (h : rmk m f s x = .ok ts) (h3 : x.op = 3) : s.h.length ≠ 16 := by
 rw [rmk_3 h3] at h
 split at h
 · cases h
 · assumption
theorem rmk_4ok (h : rmk m f s x = .ok ts) (h4 : x.op = 4) : ∃ t, 0 ≤ x.a ∧ x.a < s.l.length ∧ s.l[x.a.toNat]? = some t ∧ 0 ≤ t.r ∧ t.r < s.h.length := by
 rw [Q9X h4] at h
 obtain ⟨t, h1, _⟩ := Q7 h
 obtain ⟨h2, h3, h5, h6⟩ := Q5c h1
 have := (List.getElem?_eq_some_iff.1 h3).1
 have := Q1Z h6
 exact ⟨t, h2, by omega, h3, this.1, this.2⟩
end
theorem jEnd_f {f : Fun} {s : JS} {e : Tail} (h : Q1l f.blocks.length e ≠ 0) : jEnd f s e = Q1l f.blocks.length e := by unfold jEnd; rw [if_pos h]
theorem jEnd_g {f : Fun} {s : JS} {e : Tail} (h : Q1l f.blocks.length e = 0) : jEnd f s e = QI (jend f s e) := by
 unfold jEnd QI; rw [if_neg (fun hn => hn h)]; cases jend f s e <;> rfl
/-! ### A whole module -/
theorem mod_fb {m : Module} {f : Nat} {x : Fun} (hF : m.fault.1 = 0) (hx : m.funcs[f]? = some x) : ∀ b ∈ x.blocks, x.regs ≤ b.regs := by
 intro b hb
 obtain ⟨k, hk⟩ := List.mem_iff_getElem?.1 hb
 exact (Q2c (Q1V hF hx hk).1).1
def QX (m : Module) (f : Fun) (fi bi : Nat) (e : Tail) : Nat → JS → List Ins → Flt
 | _, s, [] => mkF (jEnd f s e) (Q4B fi bi)
 | i, s, x :: l => if (jIns m f s x).1 ≠ 0 then ((jIns m f s x).1, Q4j fi bi i) else QX m f fi bi e (i + 1) (jIns m f s x).2 l
def QE (m : Module) (f : Fun) (fi : Nat) : Nat → List Block → Flt
 | _, [] => (0, 0)
 | b, y :: l => orF (QX m f fi b y.fin 0 (Q1s y) y.code) (QE m f fi (b + 1) l)
def Q1C (m : Module) : Nat → List Fun → Flt
 | _, [] => (0, 0)
 | f, x :: l => orF (QE m x f 0 x.blocks) (Q1C m (f + 1) l)
/-- verify.Check -/
def Module.runs (m : Module) : Flt := orF m.fault (Q1C m 0 m.funcs)
theorem Q62 {m : Module} {f : Fun} {fi bi : Nat} {e : Tail} : ∀ {l : List Ins} {i : Nat} {s : JS}, (QX m f fi bi e i s l).1 = 0 → QX m f fi bi e i s l = (0, 0)
 | [], _, _, h => by rw [QX] at h ⊢; exact Q7o _ _ h
 | x :: l, i, s, h => by
   rw [QX] at h ⊢
   split at h
   · rename_i hn; exact absurd h hn
   · rename_i hn; rw [if_neg hn]; exact Q62 h
theorem Q3E {m : Module} {f : Fun} {fi : Nat} : ∀ {l : List Block} {b : Nat}, (QE m f fi b l).1 = 0 → QE m f fi b l = (0, 0)
 | [], _, _ => by rw [QE]
 | x :: l, b, h => by rw [QE] at h ⊢; exact Q7n Q62 Q3E h
theorem Q73 {m : Module} : ∀ {l : List Fun} {f : Nat}, (Q1C m f l).1 = 0 → Q1C m f l = (0, 0)
 | [], _, _ => by rw [Q1C]
 | x :: l, b, h => by rw [Q1C] at h ⊢; exact Q7n Q3E Q73 h
section
variable {m : Module} {f : Fun} {fi bi i b : Nat} {e : Tail} {s : JS} {x : Ins} {l : List Ins} {y : Block} {k : List Block}
theorem Q5w (h : (jIns m f s x).1 = 0) : QX m f fi bi e i s (x :: l) = QX m f fi bi e (i + 1) (jIns m f s x).2 l := by rw [QX, if_neg (fun hn => hn h)]
theorem Q5v (h : (jIns m f s x).1 ≠ 0) : QX m f fi bi e i s (x :: l) = ((jIns m f s x).1, Q4j fi bi i) := by rw [QX, if_pos h]
theorem Q7y (h : (QX m f fi b y.fin 0 (Q1s y) y.code).1 = 0) : QE m f fi b (y :: k) = QE m f fi (b + 1) k := by
 rw [QE, Q62 h]; exact Q1F Q3E
theorem Q7x (h : (QX m f fi b y.fin 0 (Q1s y) y.code).1 ≠ 0) : QE m f fi b (y :: k) = QX m f fi b y.fin 0 (Q1s y) y.code := by
 rw [QE, Q3l h]
theorem Q9p {k : List Fun} (h : (QE m f fi 0 f.blocks).1 = 0) : Q1C m fi (f :: k) = Q1C m (fi + 1) k := by
 rw [Q1C, Q3E h]; exact Q1F Q73
theorem Q9o {k : List Fun} (h : (QE m f fi 0 f.blocks).1 ≠ 0) : Q1C m fi (f :: k) = QE m f fi 0 f.blocks := by
 rw [Q1C, Q3l h]
theorem Q6d (h : l.length ≤ i) : QX m f fi bi e i s (l.drop i) = mkF (jEnd f s e) (Q4B fi bi) := by rw [List.drop_of_length_le h, QX]
theorem QcS {E : Flt} {q : Nat} (hd : m.runs = Q1C m q (m.funcs.drop q)) (hf : m.funcs[q]? = some f) (hdb : QE m f q 0 f.blocks = QE m f q b (f.blocks.drop b)) (hy : f.blocks[b]? = some y) (h0 : QX m f q b y.fin 0 (Q1s y) y.code = E) (hE : E.1 ≠ 0) : m.runs = E := by
 have h1 : QE m f q 0 f.blocks = E := by rw [hdb, Q3 hy, Q7x (by rw [h0]; exact hE), h0]
 rw [hd, Q3 hf, Q9o (by rw [h1]; exact hE), h1]
theorem runs_b {q : Nat} (hdb : QE m f q 0 f.blocks = QE m f q b (f.blocks.drop b)) (hy : f.blocks[b]? = some y) (h0 : (QX m f q b y.fin 0 (Q1s y) y.code).1 = 0) : QE m f q 0 f.blocks = QE m f q (b + 1) (f.blocks.drop (b + 1)) := by
 rw [hdb, Q3 hy, Q7y h0]
theorem runs_f {q : Nat} (hd : m.runs = Q1C m q (m.funcs.drop q)) (hf : m.funcs[q]? = some f) (hdb : QE m f q 0 f.blocks = QE m f q b (f.blocks.drop b)) (hb : f.blocks.length ≤ b) : m.runs = Q1C m (q + 1) (m.funcs.drop (q + 1)) := by
 rw [hd, Q3 hf, Q9p (by rw [hdb, List.drop_of_length_le hb, QE])]
theorem runs_z {q : Nat} (hd : m.runs = Q1C m q (m.funcs.drop q)) (hq : m.funcs.length ≤ q) : m.runs = (0, 0) := by
 rw [hd, List.drop_of_length_le hq, Q1C]
theorem runs_no (h : m.fault.1 ≠ 0) : m.runs = m.fault := by unfold Module.runs; exact Q3l h
theorem runs_go (h : m.fault.1 = 0) : m.runs = Q1C m 0 m.funcs := by unfold Module.runs; rw [Module.fault_z h]; exact Q1F Q73
end
end Go.Lir
namespace Go.Lir
set_option linter.unusedVariables false
mutual
/-- A type of which the regions are those of a list. -/
def Ty.rn : Ty → List Int → Ty
 | .mk k r l, f => .mk k (if k ≠ 1 then f.getD r.toNat 0 else r) (Tys.rn l f)
def Tys.rn : List Ty → List Int → List Ty
 | [], _ => []
 | x :: l, f => x.rn f :: Tys.rn l f
end
theorem Tys.rn_map (f : List Int) : ∀ l : List Ty, Tys.rn l f = l.map fun t => t.rn f
 | [] => by rw [Tys.rn]; rfl
 | x :: l => by rw [Tys.rn, Tys.rn_map f l]; rfl
theorem Ty.rn_mk (k r : Int) (l : List Ty) (f : List Int) : (Ty.mk k r l).rn f = .mk k (if k ≠ 1 then f.getD r.toNat 0 else r) (l.map fun t => t.rn f) := by rw [Ty.rn, Tys.rn_map]
theorem Ty.rn_kind (t : Ty) (f : List Int) : (t.rn f).kind = t.kind := by obtain ⟨k, r, l⟩ := t; rw [Ty.rn]; rfl
theorem Ty.rn_r {t : Ty} (f : List Int) (h : t.kind ≠ 1) : (t.rn f).r = f.getD t.r.toNat 0 := by obtain ⟨k, r, l⟩ := t; rw [Ty.rn]; exact if_pos h
theorem Ty.rn_mr {k r : Int} {l : List Ty} (f : List Int) (h : k ≠ 1) : ((Ty.mk k r l).rn f).r = f.getD r.toNat 0 := by rw [Ty.rn]; exact if_pos h
theorem Ty.rn_l (t : Ty) (f : List Int) : (t.rn f).l = t.l.map fun t => t.rn f := by obtain ⟨k, r, l⟩ := t; rw [Ty.rn_mk]; rfl
theorem Tys.ren_map {f : List Int} : ∀ {l m : List Ty}, (∀ x ∈ l, ∀ u, x.ren f = some u → u = x.rn f) → Tys.ren l f = some m → m = l.map fun t => t.rn f
 | [], m, _, h => by rw [Tys.ren] at h; cases h; rfl
 | x :: l, m, hx, h => by
   rw [Tys.ren] at h
   cases h1 : x.ren f with
   | none => rw [h1] at h; cases h
   | some y =>
     rw [h1] at h
     cases h2 : Tys.ren l f with
     | none => rw [h2] at h; cases h
     | some m2 =>
       rw [h2] at h
       cases h
       rw [List.map_cons, hx x (List.mem_cons_self ..) y h1, Tys.ren_map (fun z hz => hx z (List.mem_cons_of_mem _ hz)) h2]
theorem Ty.rn_of {f : List Int} : ∀ (t u : Ty), t.ren f = some u → u = t.rn f := by
 intro t
 induction t using Ty.ind with
 | h k r l ih =>
   intro u h
   rw [Ty.ren] at h
   split at h
   · cases h
   · split at h
     · cases h
     · rename_i m hm
       cases h
       rw [Ty.rn_mk, Tys.ren_map ih hm]
theorem Ty.rn_congr {f g : List Int} {n : Int} (h : ∀ i : Nat, (i : Int) < n → f.getD i 0 = g.getD i 0) : ∀ t : Ty, t.wrong 8 n = 0 → t.rn f = t.rn g := by
 intro t
 induction t using Ty.ind with
 | h k r l ih =>
   intro hw
   obtain ⟨h1, h2, h3, h4, h5, h6⟩ := Ty.wrong_iff.1 hw
   rw [Ty.rn_mk, Ty.rn_mk, List.map_congr_left fun x hx => ih x hx (h6 x hx)]
   by_cases hk : k ≠ 1
   · rw [if_pos hk, if_pos hk, h r.toNat (by have := h5 hk; omega)]
   · rw [if_neg hk, if_neg hk]
theorem Ty.rn_rn {f g e : List Int} {n : Int} (h : ∀ i : Nat, (i : Int) < n → e.getD i 0 = g.getD (f.getD i 0).toNat 0) : ∀ t : Ty, t.wrong 8 n = 0 → (t.rn f).rn g = t.rn e := by
 intro t
 induction t using Ty.ind with
 | h k r l ih =>
   intro hw
   obtain ⟨h1, h2, h3, h4, h5, h6⟩ := Ty.wrong_iff.1 hw
   rw [Ty.rn_mk, Ty.rn_mk, Ty.rn_mk, List.map_map]
   have hl : (l.map ((fun t : Ty => t.rn g) ∘ fun t => t.rn f)) = l.map fun t => t.rn e := List.map_congr_left fun x hx => ih x hx (h6 x hx)
   rw [hl]
   by_cases hk : k ≠ 1
   · rw [if_pos hk, if_pos hk, if_pos hk, h r.toNat (by have := h5 hk; omega)]
   · rw [if_neg hk, if_neg hk, if_neg hk]
/-! ### values, things, the heap -/
abbrev HMap := Int → Int → Option Ty
structure VT (Ψ : HMap) (v : Val) (t : Ty) : Prop where
 kind : v.kind = t.kind
 reg : t.kind ≠ 1 → v.region = t.r
 thing : t.kind = 3 ∨ t.kind = 4 → Ψ v.region v.thing = some t
def Ext (Ψ Ψ' : HMap) : Prop := ∀ k j t, Ψ k j = some t → Ψ' k j = some t
theorem VT.ext {Ψ Ψ' : HMap} {v : Val} {t : Ty} (h : VT Ψ v t) (he : Ext Ψ Ψ') : VT Ψ' v t := ⟨h.kind, h.reg, fun hk => he _ _ _ (h.thing hk)⟩
theorem Ext.refl (Ψ : HMap) : Ext Ψ Ψ := fun _ _ _ h => h
/-- Values, one by one of their types. -/
def VTs (Ψ : HMap) (l : List Val) (ts : List Ty) : Prop := l.length = ts.length ∧ ∀ (i : Nat) (v : Val) (t : Ty), l[i]? = some v → ts[i]? = some t → VT Ψ v t
theorem VTs.ext {Ψ Ψ' : HMap} {l : List Val} {ts : List Ty} (h : VTs Ψ l ts) (he : Ext Ψ Ψ') : VTs Ψ' l ts := ⟨h.1, fun i v t h1 h2 => (h.2 i v t h1 h2).ext he⟩
theorem VTs.nil (Ψ : HMap) : VTs Ψ [] [] := ⟨rfl, fun i v t h => by simp at h⟩
theorem VTs.get {Ψ : HMap} {l : List Val} {ts : List Ty} (h : VTs Ψ l ts) {i : Nat} {t : Ty} (ht : ts[i]? = some t) : ∃ v, l[i]? = some v ∧ VT Ψ v t := by
 have h1 := (List.getElem?_eq_some_iff.1 ht).1
 have h0 : i < l.length := by rw [h.1]; exact h1
 have h2 : l[i]? = some l[i] := List.getElem?_eq_getElem h0
 exact ⟨_, h2, h.2 i _ t h2 ht⟩
theorem VTs.app {Ψ : HMap} {l l2 : List Val} {ts ts2 : List Ty} (h : VTs Ψ l ts) (h2 : VTs Ψ l2 ts2) : VTs Ψ (l ++ l2) (ts ++ ts2) := by
 refine ⟨by rw [List.length_append, List.length_append, h.1, h2.1], fun i v t hv ht => ?_⟩
 by_cases hi : i < l.length
 · rw [List.getElem?_append_left hi] at hv
   rw [List.getElem?_append_left (by rw [← h.1]; exact hi)] at ht
   exact h.2 i v t hv ht
 · rw [List.getElem?_append_right (by omega)] at hv
   rw [List.getElem?_append_right (by rw [← h.1]; omega), ← h.1] at ht
   exact h2.2 _ v t hv ht
theorem VTs.one {Ψ : HMap} {v : Val} {t : Ty} (h : VT Ψ v t) : VTs Ψ [v] [t] := by
 refine ⟨rfl, fun i v' t' hv ht => ?_⟩
 cases i with
 | zero => simp at hv ht; subst hv ht; exact h
 | succ i => simp at hv
theorem VTs.cons {Ψ : HMap} {v : Val} {t : Ty} {l : List Val} {ts : List Ty} (h : VT Ψ v t) (h2 : VTs Ψ l ts) : VTs Ψ (v :: l) (t :: ts) := VTs.app (VTs.one h) h2
theorem VTs.set {Ψ : HMap} {l : List Val} {ts : List Ty} (h : VTs Ψ l ts) {k : Nat} {v : Val} {t : Ty} (ht : ts[k]? = some t) (hv : VT Ψ v t) : VTs Ψ (l.set k v) ts := by
 refine ⟨by rw [List.length_set]; exact h.1, fun i u w hu hw => ?_⟩
 rw [List.getElem?_set] at hu
 split at hu
 · rename_i hk
   subst hk
   split at hu
   · cases hu; rw [ht] at hw; cases hw; exact hv
   · cases hu
 · exact h.2 i u w hu hw
/-- A thing of a type. -/
def ThOK (Ψ : HMap) (x : Thg) (t : Ty) : Prop := x.array = decide (t.kind = 4) ∧ (t.kind = 3 → VTs Ψ x.l t.l) ∧ (t.kind = 4 → x.l.length ≤ 15 ∧ ∀ v ∈ x.l, v.kind = 1)
theorem ThOK.ext {Ψ Ψ' : HMap} {x : Thg} {t : Ty} (h : ThOK Ψ x t) (he : Ext Ψ Ψ') : ThOK Ψ' x t := ⟨h.1, fun hk => (h.2.1 hk).ext he, h.2.2⟩
theorem ThOK.tup {Ψ : HMap} {l : List Val} {t : Ty} (hk : t.kind = 3) (h : VTs Ψ l t.l) : ThOK Ψ ⟨false, l⟩ t := by
 refine ⟨?_, fun _ => h, fun h4 => ?_⟩
 · rw [hk]; rfl
 · rw [hk] at h4; cases h4
theorem ThOK.arr {Ψ : HMap} {l : List Val} {t : Ty} (hk : t.kind = 4) (hl : l.length ≤ 15) (h : ∀ v ∈ l, v.kind = 1) : ThOK Ψ ⟨true, l⟩ t := by
 refine ⟨?_, fun h3 => ?_, fun _ => ⟨hl, h⟩⟩
 · rw [hk]; rfl
 · rw [hk] at h3; cases h3
structure HTy (Ψ : HMap) (h : HpS) : Prop where
 dom : ∀ k j t, Ψ k j = some t → 0 ≤ k ∧ k < h.l.length ∧ t.r = k ∧ (t.kind = 3 ∨ t.kind = 4)
 here : ∀ k j t, Ψ k j = some t → h.has k = true → 0 ≤ j ∧ j < (h.reg k).l.length ∧ ThOK Ψ (h.thg k.toNat j.toNat) t
section
variable {Ψ Ψ' : HMap} {h : HpS} {v x : Val} {t u : Ty} {k j : Int}
theorem QaU {l : List Rgn} {left : Int} (k : Int) : (⟨l, left⟩ : HpS).reg k = if 0 ≤ k then l.getD k.toNat Rgn.none else Rgn.none := rfl
theorem Q5K (hh : h.has k = true) : 0 ≤ k ∧ k < h.l.length ∧ h.l[k.toNat]? = some (h.reg k) ∧ (h.reg k).there = true := by
 have hh' := hh
 unfold HpS.has HpS.reg at hh
 split at hh
 · rename_i h0
   rw [List.getD_eq_getElem?_getD] at hh
   cases hk : h.l[k.toNat]? with
   | none => rw [hk] at hh; cases hh
   | some r =>
     have hlt := (List.getElem?_eq_some_iff.1 hk).1
     refine ⟨h0, by omega, ?_, hh'⟩
     unfold HpS.reg; rw [if_pos h0, List.getD_eq_getElem?_getD, hk]; rfl
 · cases hh
theorem Q6K {l : List Rgn} {left left' : Int} {m : Nat} {r : Rgn} (hm : m < l.length) (k : Int) : (⟨l.set m r, left⟩ : HpS).reg k = if k = m then r else (⟨l, left'⟩ : HpS).reg k := by
 rw [QaU, QaU]
 by_cases h0 : 0 ≤ k
 · rw [if_pos h0, if_pos h0, List.getD_eq_getElem?_getD, List.getElem?_set]
   by_cases hk : k = m
   · rw [if_pos hk, if_pos (by omega), if_pos hm]; rfl
   · rw [if_neg hk, if_neg (by omega), List.getD_eq_getElem?_getD]
 · rw [if_neg h0, if_neg h0, if_neg (by omega)]
theorem Qa1 {l : List Rgn} {a : Int} {r : Rgn} (k : Int) : (⟨l ++ [r], a⟩ : HpS).reg k = if k = l.length then r else (⟨l, a⟩ : HpS).reg k := by
 rw [QaU, QaU]
 by_cases h0 : 0 ≤ k
 · rw [if_pos h0, if_pos h0, List.getD_eq_getElem?_getD, List.getD_eq_getElem?_getD]
   by_cases hk : k = l.length
   · rw [if_pos hk, List.getElem?_append_right (by omega), show k.toNat - l.length = 0 by omega]; rfl
   · rw [if_neg hk]
     by_cases hl : k < l.length
     · rw [List.getElem?_append_left (by omega)]
     · rw [List.getElem?_eq_none (by rw [List.length_append]; simp only [List.length_cons, List.length_nil]; omega), List.getElem?_eq_none (by omega)]
 · rw [if_neg h0, if_neg h0, if_neg (by omega)]
theorem can_of (hv : VT Ψ v t) (hk : t.kind = 2) (hh : h.has t.r = true) : h.can v = true := by
 unfold HpS.can
 rw [hv.kind, hk, hv.reg (by omega), hh]; rfl
/-- Where a thing of a type lies, if its region is there. -/
theorem Qca (hH : HTy Ψ h) (hv : VT Ψ v t) (hk : t.kind = 3 ∨ t.kind = 4) (hh : h.has t.r = true) : h.at_ v = some (v.region.toNat, v.thing.toNat) ∧ v.region = t.r ∧ 0 ≤ v.thing ∧ v.thing < (h.reg t.r).l.length ∧ ThOK Ψ (h.thg v.region.toNat v.thing.toNat) t := by
 have hr := hv.reg (by omega)
 have hp := hv.thing hk
 obtain ⟨h1, h2, h3⟩ := hH.here _ _ _ hp (by rw [hr]; exact hh)
 refine ⟨?_, hr, h1, by rw [← hr]; exact h2, h3⟩
 unfold HpS.at_
 rw [if_pos]
 exact ⟨by rw [hv.kind]; exact hk, by rw [hr]; exact hh, h1, h2, by rw [h3.1, hv.kind]⟩
theorem get_of (hH : HTy Ψ h) (hv : VT Ψ v t) (hk : t.kind = 3) (hh : h.has t.r = true) {i : Int} (h0 : 0 ≤ i) (hu : t.l[i.toNat]? = some u) : (h.get v i).2 = 0 ∧ VT Ψ (h.get v i).1 u := by
 obtain ⟨h1, h2, h3, h4, h5⟩ := Qca hH hv (.inl hk) hh
 obtain ⟨y, h6, h7⟩ := (h5.2.1 hk).get hu
 have h8 := (List.getElem?_eq_some_iff.1 h6).1
 unfold HpS.get
 rw [h1]
 dsimp only
 rw [if_pos ⟨h0, by omega⟩]
 refine ⟨rfl, ?_⟩
 dsimp only
 rw [List.getD_eq_getElem?_getD, h6]
 exact h7
theorem geta_of (hH : HTy Ψ h) (hv : VT Ψ v t) (hk : t.kind = 4) (hh : h.has t.r = true) (i : Int) : (h.get v i).2 = 1 ∨ ((h.get v i).2 = 0 ∧ (h.get v i).1.kind = 1) := by
 obtain ⟨h1, h2, h3, h4, h5⟩ := Qca hH hv (.inr hk) hh
 unfold HpS.get
 rw [h1]
 dsimp only
 by_cases hi : 0 ≤ i ∧ i < (h.thg v.region.toNat v.thing.toNat).l.length
 · rw [if_pos hi]
   refine .inr ⟨rfl, ?_⟩
   have h6 : (h.thg v.region.toNat v.thing.toNat).l[i.toNat]? = some (h.thg v.region.toNat v.thing.toNat).l[i.toNat] := List.getElem?_eq_getElem (by omega)
   dsimp only
   rw [List.getD_eq_getElem?_getD, h6]
   exact (h5.2.2 hk).2 _ (List.mem_of_getElem? h6)
 · rw [if_neg hi]; exact .inl rfl
theorem len_of (hH : HTy Ψ h) (hv : VT Ψ v t) (hk : t.kind = 4) (hh : h.has t.r = true) : (h.len v).2 = 0 := by
 obtain ⟨h1, _⟩ := Qca hH hv (.inr hk) hh
 unfold HpS.len; rw [h1]
/-! ### what changes the heap -/
theorem hty_open (hH : HTy Ψ h) : HTy Ψ h.open := by
 by_cases hf : h.full = true
 · have e : h.open = h := by unfold HpS.open; rw [if_pos hf]
   rw [e]; exact hH
 · have e : h.open = ⟨h.l ++ [⟨true, [], 0, 0⟩], h.left⟩ := by unfold HpS.open; rw [if_neg hf]
   rw [e]
   refine ⟨fun k j t hp => ?_, fun k j t hp hh => ?_⟩
   · obtain ⟨h1, h2, h3⟩ := hH.dom k j t hp
     exact ⟨h1, by rw [List.length_append]; simp only [List.length_cons, List.length_nil]; omega, h3⟩
   · obtain ⟨h1, h2, h3⟩ := hH.dom k j t hp
     have hr : (⟨h.l ++ [⟨true, [], 0, 0⟩], h.left⟩ : HpS).reg k = h.reg k := by rw [Qa1, if_neg (by omega)]
     have hr2 : (⟨h.l ++ [⟨true, [], 0, 0⟩], h.left⟩ : HpS).reg (k.toNat : Int) = h.reg (k.toNat : Int) := by rw [Qa1, if_neg (by omega)]
     have hh2 : h.has k = true := by unfold HpS.has at hh ⊢; rw [hr] at hh; exact hh
     obtain ⟨h4, h5, h6⟩ := hH.here k j t hp hh2
     refine ⟨h4, by rw [hr]; exact h5, ?_⟩
     unfold HpS.thg at h6 ⊢
     rw [hr2]; exact h6
theorem hty_shut (hH : HTy Ψ h) : HTy Ψ (h.shut v) := by
 cases hc : h.can v with
 | false => have e : h.shut v = h := by unfold HpS.shut; rw [hc]; rfl
            rw [e]; exact hH
 | true =>
   have e : h.shut v = ⟨h.l.set v.region.toNat Rgn.none, h.left + (h.reg v.region).pages⟩ := by unfold HpS.shut; rw [hc]; rfl
   unfold HpS.can at hc
   rw [Bool.and_eq_true] at hc
   obtain ⟨g0, g1, g2, g3⟩ := Q5K hc.2
   rw [e]
   refine ⟨fun k j t hp => ?_, fun k j t hp hh => ?_⟩
   · obtain ⟨h1, h2, h3⟩ := hH.dom k j t hp
     exact ⟨h1, by rw [List.length_set]; exact h2, h3⟩
   · obtain ⟨h1, h2, h3⟩ := hH.dom k j t hp
     have hr : ∀ q : Int, q ≠ v.region → (⟨h.l.set v.region.toNat Rgn.none, h.left + (h.reg v.region).pages⟩ : HpS).reg q = h.reg q := fun q hq => by
      rw [Q6K (left' := h.left) (by omega), if_neg (by omega)]
     have hne : k ≠ v.region := fun hk => by
      unfold HpS.has at hh
      rw [Q6K (left' := h.left) (by omega), if_pos (by omega)] at hh; cases hh
     have hh2 : h.has k = true := by unfold HpS.has at hh ⊢; rw [hr k hne] at hh; exact hh
     obtain ⟨h4, h5, h6⟩ := hH.here k j t hp hh2
     refine ⟨h4, by rw [hr k hne]; exact h5, ?_⟩
     unfold HpS.thg at h6 ⊢
     rw [hr _ (by omega)]; exact h6
/-- One more thing. -/
def addΨ (Ψ : HMap) (a b : Int) (t : Ty) : HMap := fun k j => if k = a ∧ j = b then some t else Ψ k j
theorem Qde (hH : HTy Ψ h) (hh : h.has k = true) : Ext Ψ (addΨ Ψ k (h.reg k).l.length t) := by
 intro a b u hp
 unfold addΨ
 by_cases hab : a = k ∧ b = (h.reg k).l.length
 · obtain ⟨rfl, rfl⟩ := hab
   have := (hH.here _ _ _ hp hh).2.1
   omega
 · rw [if_neg hab]; exact hp
theorem QdZ {n : Int} (hc : h.code v n = 0) : h.can v = true ∧ h.has v.region = true := by
 unfold HpS.code at hc
 cases hx : h.can v with
 | false => rw [hx] at hc; cases hc
 | true =>
   refine ⟨rfl, ?_⟩
   unfold HpS.can at hx
   rw [Bool.and_eq_true] at hx
   exact hx.2
theorem code_of (hv : VT Ψ v t) (hk : t.kind = 2) (hh : h.has t.r = true) (n : Int) : h.code v n = 0 ∨ h.code v n = 14 := by
 unfold HpS.code
 rw [can_of hv hk hh]
 rw [if_neg (by decide)]
 split
 · exact .inr rfl
 · exact .inl rfl
theorem QdN {n : Int} {x : Thg} (hH : HTy Ψ h) (hc : h.code v n = 0) (hr : t.r = v.region) (hk : t.kind = 3 ∨ t.kind = 4) (hx : ThOK Ψ x t) :
 HTy (addΨ Ψ v.region (h.reg v.region).l.length t) (h.put v n x) ∧ Ext Ψ (addΨ Ψ v.region (h.reg v.region).l.length t) ∧ (∀ q, (h.put v n x).has q = h.has q) ∧ VT (addΨ Ψ v.region (h.reg v.region).l.length t) (h.putV v t.kind n) t := by
 obtain ⟨_, hh⟩ := QdZ hc
 obtain ⟨g0, g1, g2, g3⟩ := Q5K hh
 have hE := Qde (t := t) hH hh
 have e : h.put v n x = ⟨h.l.set v.region.toNat (((h.reg v.region).room n).push x), if (h.reg v.region).more n then h.left - 1 else h.left⟩ := by unfold HpS.put; rw [if_pos hc]
 have hrl : (((h.reg v.region).room n).push x).l = (h.reg v.region).l ++ [x] ∧ (((h.reg v.region).room n).push x).there = true := by
  unfold Rgn.room Rgn.push; split <;> exact ⟨rfl, g3⟩
 have hreg : ∀ q : Int, (h.put v n x).reg q = if q = v.region then ((h.reg v.region).room n).push x else h.reg q := fun q => by
  rw [e, Q6K (left' := h.left) (by omega), show ((v.region.toNat : Nat) : Int) = v.region by omega]
 have hhas : ∀ q, (h.put v n x).has q = h.has q := fun q => by
  unfold HpS.has
  rw [hreg]
  by_cases hq : q = v.region
  · rw [if_pos hq, hq, hrl.2, g3]
  · rw [if_neg hq]
 refine ⟨⟨fun k j u hp => ?_, fun k j u hp hk2 => ?_⟩, hE, hhas, ?_⟩
 · unfold addΨ at hp
   rw [show (h.put v n x).l.length = h.l.length by rw [e, List.length_set]]
   by_cases hab : k = v.region ∧ j = (h.reg v.region).l.length
   · rw [if_pos hab] at hp; cases hp
     exact ⟨by omega, by omega, by omega, hk⟩
   · rw [if_neg hab] at hp; exact hH.dom k j u hp
 · rw [hhas] at hk2
   unfold addΨ at hp
   by_cases hab : k = v.region ∧ j = (h.reg v.region).l.length
   · rw [if_pos hab] at hp; cases hp
     obtain ⟨rfl, rfl⟩ := hab
     refine ⟨by omega, by rw [hreg, if_pos rfl, hrl.1, List.length_append]; simp only [List.length_cons, List.length_nil]; omega, ?_⟩
     unfold HpS.thg
     rw [hreg, if_pos (by omega), hrl.1, Int.toNat_natCast, List.getD_eq_getElem?_getD, List.getElem?_append_right (Nat.le_refl _), Nat.sub_self]
     exact hx.ext hE
   · rw [if_neg hab] at hp
     obtain ⟨h1, h2, h3⟩ := hH.here k j u hp hk2
     obtain ⟨d1, d2, d3⟩ := hH.dom k j u hp
     by_cases hq : k = v.region
     · subst hq
       refine ⟨h1, by rw [hreg, if_pos rfl, hrl.1, List.length_append]; omega, ?_⟩
       unfold HpS.thg at h3 ⊢
       rw [hreg, if_pos (by omega), hrl.1, List.getD_eq_getElem?_getD, List.getElem?_append_left (by omega), ← List.getD_eq_getElem?_getD]
       rw [show ((v.region.toNat : Nat) : Int) = v.region by omega] at h3
       exact h3.ext hE
     · refine ⟨h1, by rw [hreg, if_neg hq]; exact h2, ?_⟩
       unfold HpS.thg at h3 ⊢
       rw [hreg, if_neg (by omega)]
       exact h3.ext hE
 · have ep : h.putV v t.kind n = ⟨t.kind, v.region, (h.reg v.region).l.length, 0⟩ := by unfold HpS.putV; rw [if_pos hc]
   rw [ep]
   exact ⟨rfl, fun _ => hr.symm, fun _ => if_pos ⟨rfl, rfl⟩⟩
theorem QdM {i : Int} {y : Val} (hH : HTy Ψ h) (hv : VT Ψ v t) (hk : t.kind = 3 ∨ t.kind = 4) (hh : h.has t.r = true) (hy3 : t.kind = 3 → ∀ u, t.l[i.toNat]? = some u → VT Ψ y u) (hy4 : t.kind = 4 → y.kind = 1) :
 HTy Ψ (h.set v i y) ∧ (∀ q, (h.set v i y).has q = h.has q) := by
 obtain ⟨h1, h2, h3, h4, h5⟩ := Qca hH hv hk hh
 unfold HpS.set
 rw [h1]
 dsimp only
 split
 · rename_i hc
   obtain ⟨g0, g1, g2, g3⟩ := Q5K hh
   rw [← h2] at g0 g1 g2 g3 hh h4
   have hin : 0 ≤ i ∧ i < (h.thg v.region.toNat v.thing.toNat).l.length := by
    unfold HpS.setC at hc
    rw [h1] at hc
    dsimp only at hc
    split at hc
    · cases hc
    · split at hc
      · assumption
      · cases hc
   have hrr : h.reg ((v.region.toNat : Nat) : Int) = h.reg v.region := by rw [show ((v.region.toNat : Nat) : Int) = v.region by omega]
   have hreg : ∀ q : Int, (⟨h.l.set v.region.toNat ((h.reg v.region.toNat).upd v.thing.toNat ((h.thg v.region.toNat v.thing.toNat).upd i.toNat y)), h.left⟩ : HpS).reg q = if q = v.region then (h.reg v.region).upd v.thing.toNat ((h.thg v.region.toNat v.thing.toNat).upd i.toNat y) else h.reg q := fun q => by
    rw [Q6K (left' := h.left) (by omega), hrr, show ((v.region.toNat : Nat) : Int) = v.region by omega]
   have hhas : ∀ q, (⟨h.l.set v.region.toNat ((h.reg v.region.toNat).upd v.thing.toNat ((h.thg v.region.toNat v.thing.toNat).upd i.toNat y)), h.left⟩ : HpS).has q = h.has q := fun q => by
    unfold HpS.has
    rw [hreg]
    by_cases hq : q = v.region
    · rw [if_pos hq, hq]; rfl
    · rw [if_neg hq]
   have hlen : (⟨h.l.set v.region.toNat ((h.reg v.region.toNat).upd v.thing.toNat ((h.thg v.region.toNat v.thing.toNat).upd i.toNat y)), h.left⟩ : HpS).l.length = h.l.length := List.length_set
   generalize (⟨h.l.set v.region.toNat ((h.reg v.region.toNat).upd v.thing.toNat ((h.thg v.region.toNat v.thing.toNat).upd i.toNat y)), h.left⟩ : HpS) = H at hreg hhas hlen ⊢
   refine ⟨⟨fun k j u hp => ?_, fun k j u hp hk2 => ?_⟩, hhas⟩
   · obtain ⟨d1, d2, d3⟩ := hH.dom k j u hp
     exact ⟨d1, by rw [hlen]; exact d2, d3⟩
   · rw [hhas] at hk2
     obtain ⟨e1, e2, e3⟩ := hH.here k j u hp hk2
     obtain ⟨d1, d2, d3⟩ := hH.dom k j u hp
     by_cases hq : k = v.region
     · subst hq
       refine ⟨e1, by rw [hreg, if_pos rfl]; show j < ((h.reg v.region).l.set _ _).length; rw [List.length_set]; exact e2, ?_⟩
       unfold HpS.thg
       rw [hreg, if_pos (by omega)]
       show ThOK Ψ (((h.reg v.region).l.set v.thing.toNat _).getD j.toNat _) u
       rw [List.getD_eq_getElem?_getD, List.getElem?_set]
       by_cases hj : v.thing.toNat = j.toNat
       · rw [if_pos hj, if_pos (by omega)]
         have hjv : j = v.thing := by omega
         subst hjv
         have hu : u = t := by have := hv.thing hk; rw [hp] at this; cases this; rfl
         subst hu
         refine ⟨h5.1, fun h3' => ?_, fun h4' => ?_⟩
         · show VTs Ψ ((h.thg v.region.toNat v.thing.toNat).l.set i.toNat y) u.l
           have h6 := h5.2.1 h3'
           have h0' : i.toNat < u.l.length := by rw [← h6.1]; omega
           have h7 : u.l[i.toNat]? = some u.l[i.toNat] := List.getElem?_eq_getElem h0'
           exact h6.set h7 (hy3 h3' _ h7)
         · refine ⟨by show ((h.thg v.region.toNat v.thing.toNat).l.set i.toNat y).length ≤ 15; rw [List.length_set]; exact (h5.2.2 h4').1, fun z hz => ?_⟩
           rcases mem_set_or hz with rfl | hz
           · exact hy4 h4'
           · exact (h5.2.2 h4').2 z hz
       · rw [if_neg hj]
         unfold HpS.thg at e3
         rw [hrr, List.getD_eq_getElem?_getD] at e3
         exact e3
     · refine ⟨e1, by rw [hreg, if_neg hq]; exact e2, ?_⟩
       unfold HpS.thg at e3 ⊢
       rw [hreg, if_neg (by omega)]
       exact e3
 · exact ⟨hH, fun _ => rfl⟩
theorem setC_of (hH : HTy Ψ h) (hv : VT Ψ v t) (hk : t.kind = 3) (hh : h.has t.r = true) {i : Int} (h0 : 0 ≤ i) (hu : t.l[i.toNat]? = some u) (y : Val) : h.setC v i y = 0 := by
 obtain ⟨h1, h2, h3, h4, h5⟩ := Qca hH hv (.inl hk) hh
 obtain ⟨z, h6, h7⟩ := (h5.2.1 hk).get hu
 have h8 := (List.getElem?_eq_some_iff.1 h6).1
 unfold HpS.setC
 rw [h1]
 dsimp only
 rw [if_neg (by rw [h5.1, hk]; simp), if_pos ⟨h0, by omega⟩]
theorem setCa_of (hH : HTy Ψ h) (hv : VT Ψ v t) (hk : t.kind = 4) (hh : h.has t.r = true) (i : Int) {y : Val} (hy : y.kind = 1) : h.setC v i y = 0 ∨ h.setC v i y = 1 := by
 obtain ⟨h1, h2, h3, h4, h5⟩ := Qca hH hv (.inr hk) hh
 unfold HpS.setC
 rw [h1]
 dsimp only
 rw [if_neg (by rw [hy]; simp)]
 split
 · exact .inl rfl
 · exact .inr rfl
end
end Go.Lir
namespace Go.Lir
set_option linter.unusedVariables false
/-- The region that a number of a block stands for. -/
def Frm.ρ (g : Frm) (r : Int) : Int := g.regs.getD r.toNat 0
/-- What a frame owns: regions that are held and not its caller's. -/
def Own (f : Fun) (z : JS) (g : Frm) (k : Int) : Prop := ∃ r, hasB z.h r = true ∧ f.regs ≤ r ∧ g.ρ r = k
def Inj (f : Fun) (z : JS) (g : Frm) : Prop := ∀ r q, hasB z.h r = true → hasB z.h q = true → f.regs ≤ r → f.regs ≤ q → g.ρ r = g.ρ q → r = q
def Q3B (f : Fun) (g : Frm) : List Int := g.regs.take f.regs.toNat
structure FT (Ψ : HMap) (z : JS) (g : Frm) : Prop where
 n : g.regs.length = z.h.length
 v : VTs Ψ g.vals (z.l.map fun t => t.rn g.regs)
theorem FT.ext {Ψ Ψ' : HMap} {z : JS} {g : Frm} (h : FT Ψ z g) (he : Ext Ψ Ψ') : FT Ψ' z g := ⟨h.n, h.v.ext he⟩
/-- Calls that wait: for a function, which keeps these; what they own. -/
inductive Wt (m : Module) (Ψ : HMap) : List Frm → Fun → List Int → (Int → Prop) → Prop where
 | nil {f : Fun} (hf : m.funcs[0]? = some f) : Wt m Ψ [] f [] (fun _ => False)
 | cons {c : Frm} {st : List Frm} {fc gf : Fun} {bc : Block} {z z' : JS} {x : Ins} {O : Int → Prop} (hf : m.funcs[c.f]? = some fc) (hb : fc.blocks[c.b]? = some bc) (hi : JInv m fc z) (ht : FT Ψ z c) (hx : x.op = 14)
    (hF : Qw m.funcs.length x = 0) (hc : Q6k m z x = .ok z') (hg : m.funcs[x.k.toNat]? = some gf) (hr : (QX m fc c.f c.b bc.fin c.i z' (bc.code.drop c.i)).1 = 0)
    (hw : Wt m Ψ st fc (Q3B fc c) O) (hj : Inj fc z c) (hd : ∀ k, Own fc z c k → ¬ O k) : Wt m Ψ (c :: st) gf (x.regs.map c.ρ) (fun k => Own fc z c k ∨ O k)
structure Safe (m : Module) (Ψ : HMap) (s : MS) (f : Fun) (b : Block) (z : JS) (O : Int → Prop) : Prop where
 ty : HTy Ψ s.h
 hf : m.funcs[s.g.f]? = some f
 hb : f.blocks[s.g.b]? = some b
 run : (QX m f s.g.f s.g.b b.fin s.g.i z (b.code.drop s.g.i)).1 = 0
 inv : JInv m f z
 ft : FT Ψ z s.g
 wt : Wt m Ψ s.st f (Q3B f s.g) O
 inj : Inj f z s.g
 dis : ∀ k, Own f z s.g k → ¬ O k
 has : ∀ k, s.h.has k = true ↔ (Own f z s.g k ∨ O k)
def Q9x (m : Module) (s : MS) : Prop := ∃ Ψ f b z O, Safe m Ψ s f b z O
section
variable {m : Module} {Ψ Ψ' : HMap} {s : MS} {f : Fun} {b : Block} {z z' : JS} {O : Int → Prop} {g : Frm} {k : Int} {t u : Ty} {v : Val}
theorem Wt.ext {st : List Frm} {kp : List Int} (h : Wt m Ψ st f kp O) (he : Ext Ψ Ψ') : Wt m Ψ' st f kp O := by
 induction h with
 | nil hf => exact .nil hf
 | cons hf hb hi ht hx hF hc hg hr hw hj hd ih => exact .cons hf hb hi (ht.ext he) hx hF hc hg hr ih hj hd
theorem QaR (h0 : 0 ≤ k) (hk : k < f.regs) (hl : f.regs ≤ g.regs.length) : g.ρ k ∈ Q3B f g := by
 unfold Frm.ρ Q3B
 have h1 : k.toNat < g.regs.length := by omega
 rw [List.getD_eq_getElem?_getD, List.getElem?_eq_getElem h1]
 refine List.mem_of_getElem? (i := k.toNat) ?_
 rw [List.getElem?_take_of_lt (by omega), List.getElem?_eq_getElem h1]; rfl
theorem Q4P {x : Ins} {gf : Fun} (hc : Q6k m z x = .ok z') (hg : m.funcs[x.k.toNat]? = some gf) : (x.regs.length : Int) = gf.regs ∧ Q2p z.h [] x.regs = .ok () ∧ Q45 z x.args gf.params x.regs = .ok () ∧ z' = ⟨z.h, z.l ++ gf.results.map (renT x.regs)⟩ := by
 unfold Q6k at hc
 rw [hg] at hc
 dsimp only at hc
 split at hc
 · cases hc
 · rename_i hl
   obtain ⟨_, h1, hc⟩ := Q7 hc
   obtain ⟨_, h2, hc⟩ := Q7 hc
   split at hc
   · cases hc
   · cases hc
     exact ⟨by omega, h1, h2, rfl⟩
theorem Q6J (hi : JInv m f z) : f.regs ≤ z.h.length := by
 by_cases h : f.regs ≤ 0
 · omega
 · have := Q1Z (hi.keep (f.regs - 1) (by omega) (by omega)); omega
/-- What is kept is owned by those who wait. -/
theorem Wt.kept {st : List Frm} {kp : List Int} (h : Wt m Ψ st f kp O) : ∀ k ∈ kp, O k := by
 induction h with
 | nil hf => intro k hk; cases hk
 | @cons c st fc gf bc z z' x O hf hb hi ht hx hF hc hg hr hw hj hd ih =>
   intro k hk
   obtain ⟨r, hrx, rfl⟩ := List.mem_map.1 hk
   obtain ⟨_, h1, _⟩ := Q4P hc hg
   have hh := Q41 h1 r hrx
   have hrg := Q1Z hh
   by_cases hlt : r < fc.regs
   · exact .inr (ih _ (QaR hrg.1 hlt (by rw [ht.n]; exact Q6J hi)))
   · exact .inl ⟨r, hh, by omega, rfl⟩
theorem Safe.held (h : Safe m Ψ s f b z O) {r : Int} (hr : hasB z.h r = true) : s.h.has (s.g.ρ r) = true := by
 have hrg := Q1Z hr
 rw [h.has]
 by_cases hlt : r < f.regs
 · exact .inr (h.wt.kept _ (QaR hrg.1 hlt (by rw [h.ft.n]; exact Q6J h.inv)))
 · exact .inl ⟨r, hr, by omega, rfl⟩
theorem Q8L (ht : FT Ψ z g) (h : jval z k = .ok t) : ∃ v, g.val k = some v ∧ VT Ψ v (t.rn g.regs) := by
 obtain ⟨h0, h1⟩ := Q8g h
 obtain ⟨v, h2, h3⟩ := ht.v.get (i := k.toNat) (t := t.rn g.regs) (by rw [List.getElem?_map, h1]; rfl)
 exact ⟨v, by unfold Frm.val; rw [if_neg (by omega)]; exact h2, h3⟩
theorem kind_of {kd : Int} (ht : FT Ψ z g) (h : jkind z k kd = .ok t) : ∃ v, g.val k = some v ∧ VT Ψ v (t.rn g.regs) ∧ t.kind = kd := by
 obtain ⟨v, h1, h2⟩ := Q8L ht (Qdv h)
 exact ⟨v, h1, h2, (Q8j h).2.2⟩
theorem Q66 (ht : FT Ψ z g) (h : jkind z k 1 = .ok t) : ∃ n, g.num k = some n := by
 obtain ⟨v, h1, h2, h3⟩ := kind_of ht h
 have h4 := h2.kind
 rw [Ty.rn_kind, h3] at h4
 exact ⟨v.n, by unfold Frm.num; rw [h1]; exact if_pos h4⟩
/-- A value in a region that is held. -/
theorem Safe.at_ (h : Safe m Ψ s f b z O) {kd : Int} (hj : jat z k kd = .ok t) (hk : kd ≠ 1) : ∃ v, s.g.val k = some v ∧ VT Ψ v (t.rn s.g.regs) ∧ (t.rn s.g.regs).kind = kd ∧ v.kind = kd ∧ s.h.has (t.rn s.g.regs).r = true ∧ (t.rn s.g.regs).r = s.g.ρ t.r := by
 obtain ⟨v, h1, h2⟩ := Q8L h.ft (QdB hj)
 obtain ⟨_, _, h3, h4⟩ := Q5c hj
 have h5 : (t.rn s.g.regs).kind = kd := by rw [Ty.rn_kind, h3]
 have h6 : (t.rn s.g.regs).r = s.g.ρ t.r := Ty.rn_r _ (by omega)
 exact ⟨v, h1, h2, h5, by rw [h2.kind, h5], by rw [h6]; exact h.held h4, h6⟩
theorem Qe9 (ht : FT Ψ z g) : ∀ {l : List Int} {ts : List Ty}, jfields z l = .ok ts → ∃ vs, g.args l = some vs ∧ VTs Ψ vs (ts.map fun t => t.rn g.regs)
 | [], ts, h => by rw [jfields] at h; cases h; exact ⟨[], rfl, VTs.nil Ψ⟩
 | k :: l, ts, h => by
   rw [jfields] at h
   obtain ⟨t, h1, h⟩ := Q7 h
   obtain ⟨us, h2, h⟩ := Q7 h
   cases h
   obtain ⟨v, h3, h4⟩ := Q8L ht h1
   obtain ⟨vs, h5, h6⟩ := Qe9 ht h2
   exact ⟨v :: vs, by rw [Frm.args, h3, h5], VTs.cons h4 h6⟩
theorem Qbh (ht : FT Ψ z g) {regs : List Int} : ∀ {l : List Int} {want : List Ty}, l.length = want.length → Q21 z regs l want = .ok () → ∃ vs, g.args l = some vs ∧ VTs Ψ vs (want.map fun t => (t.rn regs).rn g.regs)
 | [], [], _, _ => ⟨[], rfl, VTs.nil Ψ⟩
 | [], _ :: _, hl, _ => by simp at hl
 | _ :: _, [], hl, _ => by simp at hl
 | k :: l, u :: want, hl, h => by
   rw [Q21] at h
   obtain ⟨t, h1, h⟩ := Q7 h
   cases hu : u.ren regs with
   | none => rw [hu] at h; cases h
   | some u' =>
     rw [hu] at h
     dsimp only at h
     split at h
     · cases h
     · rename_i he
       have he : t = u' := Classical.not_not.1 he
       obtain ⟨v, h3, h4⟩ := Q8L ht h1
       obtain ⟨vs, h5, h6⟩ := Qbh ht (by simpa using hl) h
       rw [he, Ty.rn_of u u' hu] at h4
       exact ⟨v :: vs, by rw [Frm.args, h3, h5], VTs.cons h4 h6⟩
theorem Q6T (ht : FT Ψ z g) {regs l : List Int} {want : List Ty} (h : Q45 z l want regs = .ok ()) : ∃ vs, g.args l = some vs ∧ VTs Ψ vs (want.map fun t => (t.rn regs).rn g.regs) := by
 unfold Q45 at h
 split at h
 · cases h
 · rename_i hl
   exact Qbh ht (by omega) h
theorem rgs_of {l : List Int} (hn : g.regs.length = z.h.length) (h : ∀ r ∈ l, hasB z.h r = true) : g.rgs l = some (l.map g.ρ) := by
 induction l with
 | nil => rfl
 | cons r l ih =>
   have h1 := Q1Z (h r (List.mem_cons_self ..))
   have h2 : g.reg r = some (g.ρ r) := by
    unfold Frm.reg Frm.ρ
    rw [if_neg (by omega), List.getD_eq_getElem?_getD, List.getElem?_eq_getElem (by omega)]; rfl
   rw [Frm.rgs, h2, ih fun q hq => h q (List.mem_cons_of_mem _ hq)]; rfl
theorem Q9w {g g' : Frm} (h : g.vals = g'.vals) : ∀ l : List Int, g.args l = g'.args l
 | [] => rfl
 | k :: l => by
   have h1 : g.val k = g'.val k := by unfold Frm.val; rw [h]
   rw [Frm.args, Frm.args, h1, Q9w h l]
theorem QaS {g g' : Frm} (h : g.regs = g'.regs) : ∀ l : List Int, g.rgs l = g'.rgs l
 | [] => rfl
 | k :: l => by
   have h1 : g.reg k = g'.reg k := by unfold Frm.reg; rw [h]
   rw [Frm.rgs, Frm.rgs, h1, QaS h l]
theorem Q96 (s : MS) (l : List Int) : s.next.g.args l = s.g.args l := Q9w (g := s.next.g) (g' := s.g) rfl l
theorem next_rgs (s : MS) (l : List Int) : s.next.g.rgs l = s.g.rgs l := QaS (g := s.next.g) (g' := s.g) rfl l
/-! ### one instruction -/
/-- What an instruction that is let by leaves. -/
theorem Safe.ins (h : Safe m Ψ s f b z O) {x : Ins} (hx : b.code[s.g.i]? = some x) : Qw m.funcs.length x = 0 ∧ jins m f z x = .ok (jIns m f z x).2 ∧ (QX m f s.g.f s.g.b b.fin (s.g.i + 1) (jIns m f z x).2 (b.code.drop (s.g.i + 1))).1 = 0 := by
 have h1 := h.run
 rw [Q3 hx] at h1
 by_cases hc : (jIns m f z x).1 = 0
 · rw [Q5w hc] at h1
   obtain ⟨h2, h3⟩ := QdE hc
   exact ⟨h2, h3, h1⟩
 · rw [Q5v hc] at h1
   exact absurd h1 hc
/-- Regions stay as they are; values come. -/
theorem Safe.more (h : Safe m Ψ s f b z O) {h' : HpS} {ts : List Ty} {vs : List Val} {inp out : List Int} {fuel : Nat} (hH : HTy Ψ' h') (hE : Ext Ψ Ψ') (hhas : ∀ q, h'.has q = s.h.has q) (hz : z' = ⟨z.h, z.l ++ ts⟩)
 (hv : VTs Ψ' vs (ts.map fun t => t.rn s.g.regs)) (hr : (QX m f s.g.f s.g.b b.fin (s.g.i + 1) z' (b.code.drop (s.g.i + 1))).1 = 0) (hi : JInv m f z') :
 Safe m Ψ' ⟨h', ⟨s.g.f, s.g.b, s.g.i + 1, s.g.vals ++ vs, s.g.regs⟩, s.st, inp, out, fuel⟩ f b z' O := by
 subst hz
 refine ⟨hH, h.hf, h.hb, hr, hi, ⟨h.ft.n, ?_⟩, h.wt.ext hE, h.inj, h.dis, fun k => ?_⟩
 · show VTs Ψ' (s.g.vals ++ vs) ((z.l ++ ts).map fun t => t.rn s.g.regs)
   rw [List.map_append]
   exact (h.ft.v.ext hE).app hv
 · show h'.has k = true ↔ _
   rw [hhas]; exact h.has k
/-- What came of a step of a machine that is safe. -/
def StS (m : Module) : Stp → Prop
 | .go s => Q9x m s
 | .halt _ => True
 | .done _ => True
 | .lost => False
theorem Q43 (h : jput z t = .ok z') : z' = ⟨z.h, z.l ++ [t]⟩ := by
 obtain ⟨_, h1, h2⟩ := Q8i h
 obtain ⟨a, l⟩ := z'
 dsimp only at h1 h2
 rw [h1, h2]
theorem Qbi (Ψ : HMap) (n : Int) (f : List Int) : VT Ψ (intV n) (number.rn f) := by
 unfold number
 rw [Ty.rn_mk]
 exact ⟨rfl, fun h => absurd rfl h, fun h => by cases h <;> rename_i h <;> cases h⟩
theorem get_int {h : HpS} {y : Val} (hk : y.kind = 1) (f : List Int) : VT Ψ y (number.rn f) := by
 unfold number
 rw [Ty.rn_mk]
 exact ⟨hk, fun h => absurd rfl h, fun h => by cases h <;> rename_i h <;> cases h⟩
theorem ext_len (hM : m.fault.1 = 0) (hm : m.Short) (h : Safe m Ψ s f b z O) {x : Ins} (hx : b.code[s.g.i]? = some x) (hop : x.op ≠ 3) (hop4 : x.op ≠ 4) (hop14 : x.op ≠ 14) : StS m ((s.next).ins m x) := by
 obtain ⟨hF, hj, hrun⟩ := h.ins hx
 have hinv := Q5a hM hm h.inv hF hj
 have hopr := Q2S hF
 have hft := h.ft
 have e0 : s.next.g.num = s.g.num := rfl
 have same : ∀ (q : Int), s.h.has q = s.h.has q := fun _ => rfl
 generalize (jIns m f z x).2 = z' at hj hrun hinv
 unfold MS.ins
 rcases op_cases (op := x.op) (by omega) (by omega) with e | e | e | e | e | e | e | e | e | e | e | e | e | e
 · rw [if_pos e]
   rw [Q68 (.inl e)] at hj
   exact ⟨_, _, _, _, _, h.more h.ty (Ext.refl _) same (Q43 hj) (VTs.one (Qbi Ψ _ _)) hrun hinv⟩
 · rw [if_neg (by omega), if_pos e]
   rw [Qbe e] at hj
   obtain ⟨t1, h1, hj⟩ := Q7 hj; obtain ⟨t2, h2, hj⟩ := Q7 hj
   obtain ⟨a, ha⟩ := Q66 hft h1
   obtain ⟨c, hc⟩ := Q66 hft h2
   rw [Q4 (show s.next.g.num x.a = some a from ha), Q4 (show s.next.g.num x.b = some c from hc)]
   split
   · exact trivial
   · exact ⟨_, _, _, _, _, h.more h.ty (Ext.refl _) same (Q43 hj) (VTs.one (Qbi Ψ _ _)) hrun hinv⟩
 · exact absurd e hop
 · exact absurd e hop4
 · rw [if_neg (by omega), if_neg (by omega), if_neg (by omega), if_neg (by omega), if_pos e]
   rw [Qbb e] at hj
   unfold Q67 at hj
   obtain ⟨t, h1, hj⟩ := Q7 hj; obtain ⟨ts, h2, hj⟩ := Q7 hj
   split at hj
   · cases hj
   · obtain ⟨v, g1, g2, g3, g4, g5, g6⟩ := h.at_ h1 (by decide)
     obtain ⟨vs, k1, k2⟩ := Qe9 hft h2
     rw [Q4 (show s.next.g.val x.a = some v from g1), Q4 ((Q96 s x.args).trans k1)]
     unfold MS.made
     rcases code_of g2 g3 g5 (Q2U vs) with hc | hc
     · rw [show s.next.h.code v (Q2U vs) = 0 from hc, if_neg (by decide), if_neg (by decide)]
       have hreg := g2.reg (by omega)
       have hT : ((Ty.mk 3 t.r ts).rn s.g.regs).r = v.region := by rw [Ty.rn_mr _ (by decide), hreg, g6]; rfl
       have hK : ((Ty.mk 3 t.r ts).rn s.g.regs).kind = 3 := Ty.rn_kind _ _
       have hL : ((Ty.mk 3 t.r ts).rn s.g.regs).l = ts.map fun t => t.rn s.g.regs := Ty.rn_l _ _
       obtain ⟨p1, p2, p3, p4⟩ := QdN (t := (Ty.mk 3 t.r ts).rn s.g.regs) (n := Q2U vs) (x := ⟨false, vs⟩) h.ty hc hT (.inl hK) (ThOK.tup hK (by rw [hL]; exact k2))
       rw [hK] at p4
       exact ⟨_, _, _, _, _, h.more p1 p2 p3 (Q43 hj) (VTs.one p4) hrun hinv⟩
     · rw [show s.next.h.code v (Q2U vs) = 14 from hc, if_pos rfl]; exact trivial
 · rw [if_neg (by omega), if_neg (by omega), if_neg (by omega), if_neg (by omega), if_neg (by omega), if_pos e]
   rw [Qba e] at hj
   obtain ⟨t, h1, hj⟩ := Q7 hj; obtain ⟨u, h2, hj⟩ := Q7 hj
   obtain ⟨v, g1, g2, g3, g4, g5, g6⟩ := h.at_ h1 (by decide)
   have hk0 : 0 ≤ x.k := by unfold Qw Q1b at hF; simp [e] at hF; omega
   have hu : (t.rn s.g.regs).l[x.k.toNat]? = some (u.rn s.g.regs) := by rw [Ty.rn_l, List.getElem?_map, Q5b h2]; rfl
   obtain ⟨q1, q2⟩ := get_of h.ty g2 g3 g5 hk0 hu
   rw [Q4 (show s.next.g.val x.a = some v from g1), if_neg (by omega), if_neg (by rw [show s.next.h.get v x.k = s.h.get v x.k from rfl, q1]; decide)]
   exact ⟨_, _, _, _, _, h.more h.ty (Ext.refl _) same (Q43 hj) (VTs.one q2) hrun hinv⟩
 · rw [if_neg (by omega), if_neg (by omega), if_neg (by omega), if_neg (by omega), if_neg (by omega), if_neg (by omega), if_pos e]
   rw [Qb9 e] at hj
   obtain ⟨t, h1, hj⟩ := Q7 hj; obtain ⟨u, h2, hj⟩ := Q7 hj; obtain ⟨w, h3, hj⟩ := Q7 hj
   split at hj
   · cases hj
   · rename_i huw
     have huw : u = w := Classical.not_not.1 huw
     subst huw
     obtain ⟨v, g1, g2, g3, g4, g5, g6⟩ := h.at_ h1 (by decide)
     obtain ⟨y, y1, y2⟩ := Q8L hft h3
     have hk0 : 0 ≤ x.k := by unfold Qw Q1b at hF; simp [e] at hF; omega
     have hu : (t.rn s.g.regs).l[x.k.toNat]? = some (u.rn s.g.regs) := by rw [Ty.rn_l, List.getElem?_map, Q5b h2]; rfl
     have q1 := setC_of h.ty g2 g3 g5 hk0 hu y
     rw [Q4 (show s.next.g.val x.a = some v from g1), if_neg (by omega), Q4 (show s.next.g.val x.b = some y from y1), if_neg (by rw [show s.next.h.setC v x.k y = s.h.setC v x.k y from rfl, q1]; decide)]
     obtain ⟨p1, p2⟩ := QdM (i := x.k) (y := y) h.ty g2 (.inl g3) g5 (fun _ u' hu' => by rw [hu] at hu'; cases hu'; exact y2) (fun h4 => by omega)
     have hz : z' = ⟨z.h, z.l ++ []⟩ := by cases hj; rw [List.append_nil]
     have hmore := h.more (inp := s.inp) (out := s.out) (fuel := s.fuel) p1 (Ext.refl _) p2 hz (VTs.nil Ψ) hrun hinv
     rw [List.append_nil] at hmore
     exact ⟨_, _, _, _, _, hmore⟩
 · rw [if_neg (by omega), if_neg (by omega), if_neg (by omega), if_neg (by omega), if_neg (by omega), if_neg (by omega), if_neg (by omega), if_pos e]
   rw [Qb8 e] at hj
   obtain ⟨t, h1, hj⟩ := Q7 hj; obtain ⟨t2, h2, hj⟩ := Q7 hj
   obtain ⟨v, g1, g2, g3, g4, g5, g6⟩ := h.at_ h1 (by decide)
   obtain ⟨n, hn⟩ := Q66 hft h2
   rw [Q4 (show s.next.g.val x.a = some v from g1), Q4 (show s.next.g.num x.b = some n from hn)]
   by_cases hr : n < 0 ∨ 15 < n
   · rw [if_pos hr]; exact trivial
   · rw [if_neg hr]
     unfold HpS.arrC HpS.arr HpS.arrV
     rw [if_neg hr, if_neg hr, if_neg hr]
     unfold MS.made
     rcases code_of g2 g3 g5 (n + 1) with hc | hc
     · rw [show s.next.h.code v (n + 1) = 0 from hc, if_neg (by decide), if_neg (by decide)]
       have hreg := g2.reg (by omega)
       have hT : ((Ty.mk 4 t.r []).rn s.g.regs).r = v.region := by rw [Ty.rn_mr _ (by decide), hreg, g6]; rfl
       have hK : ((Ty.mk 4 t.r []).rn s.g.regs).kind = 4 := Ty.rn_kind _ _
       have hth : ThOK Ψ ⟨true, Q2w n⟩ ((Ty.mk 4 t.r []).rn s.g.regs) := ThOK.arr hK (by unfold Q2w; rw [List.length_replicate]; omega) (fun y hy => by unfold Q2w at hy; rw [List.eq_of_mem_replicate hy])
       obtain ⟨p1, p2, p3, p4⟩ := QdN (t := (Ty.mk 4 t.r []).rn s.g.regs) (n := n + 1) (x := ⟨true, Q2w n⟩) h.ty hc hT (.inr hK) hth
       rw [hK] at p4
       exact ⟨_, _, _, _, _, h.more p1 p2 p3 (Q43 hj) (VTs.one p4) hrun hinv⟩
     · rw [show s.next.h.code v (n + 1) = 14 from hc, if_pos rfl]; exact trivial
 · rw [if_neg (by omega), if_neg (by omega), if_neg (by omega), if_neg (by omega), if_neg (by omega), if_neg (by omega), if_neg (by omega), if_neg (by omega), if_pos e]
   rw [Qb7 e] at hj
   obtain ⟨t, h1, hj⟩ := Q7 hj; obtain ⟨t2, h2, hj⟩ := Q7 hj
   obtain ⟨v, g1, g2, g3, g4, g5, g6⟩ := h.at_ h1 (by decide)
   obtain ⟨n, hn⟩ := Q66 hft h2
   rw [Q4 (show s.next.g.val x.a = some v from g1), Q4 (show s.next.g.num x.b = some n from hn)]
   unfold Q3y
   rw [if_neg (by omega)]
   rcases geta_of h.ty g2 g3 g5 n with hc | ⟨hc, hk⟩
   · rw [if_pos (show (s.next.h.get v n).2 = 1 from hc)]; exact trivial
   · rw [if_neg (by rw [show s.next.h.get v n = s.h.get v n from rfl, hc]; decide), if_neg (by rw [show s.next.h.get v n = s.h.get v n from rfl, hc]; decide)]
     exact ⟨_, _, _, _, _, h.more h.ty (Ext.refl _) same (Q43 hj) (VTs.one (get_int (h := s.h) hk _)) hrun hinv⟩
 · rw [if_neg (by omega), if_neg (by omega), if_neg (by omega), if_neg (by omega), if_neg (by omega), if_neg (by omega), if_neg (by omega), if_neg (by omega), if_neg (by omega), if_pos e]
   rw [Q8m e] at hj
   obtain ⟨t, h1, hj⟩ := Q7 hj; obtain ⟨t2, h2, hj⟩ := Q7 hj; obtain ⟨t3, h3, hj⟩ := Q7 hj
   obtain ⟨v, g1, g2, g3, g4, g5, g6⟩ := h.at_ h1 (by decide)
   obtain ⟨n, hn⟩ := Q66 hft h2
   obtain ⟨c, hc⟩ := Q66 hft h3
   rw [Q4 (show s.next.g.val x.a = some v from g1), Q4 (show s.next.g.num x.b = some n from hn), Q4 (show s.next.g.num x.c = some c from hc)]
   unfold Q3y
   rw [if_neg (by omega)]
   rcases setCa_of h.ty g2 g3 g5 n (y := intV c) rfl with hq | hq
   · rw [if_neg (by rw [show s.next.h.setC v n (intV c) = s.h.setC v n (intV c) from rfl, hq]; decide), if_neg (by rw [show s.next.h.setC v n (intV c) = s.h.setC v n (intV c) from rfl, hq]; decide)]
     obtain ⟨p1, p2⟩ := QdM (i := n) (y := intV c) h.ty g2 (.inr g3) g5 (fun h3 => by omega) (fun _ => rfl)
     have hz : z' = ⟨z.h, z.l ++ []⟩ := by cases hj; rw [List.append_nil]
     have hmore := h.more (inp := s.inp) (out := s.out) (fuel := s.fuel) p1 (Ext.refl _) p2 hz (VTs.nil Ψ) hrun hinv
     rw [List.append_nil] at hmore
     exact ⟨_, _, _, _, _, hmore⟩
   · rw [if_pos (show s.next.h.setC v n (intV c) = 1 from hq)]; exact trivial
 · rw [if_neg (by omega), if_neg (by omega), if_neg (by omega), if_neg (by omega), if_neg (by omega), if_neg (by omega), if_neg (by omega), if_neg (by omega), if_neg (by omega), if_neg (by omega), if_pos e]
   rw [Q8l e] at hj
   obtain ⟨t, h1, hj⟩ := Q7 hj
   obtain ⟨v, g1, g2, g3, g4, g5, g6⟩ := h.at_ h1 (by decide)
   have hq := len_of h.ty g2 g3 g5
   rw [Q4 (show s.next.g.val x.a = some v from g1)]
   unfold Q3y
   rw [if_neg (by omega), if_neg (by rw [show s.next.h.len v = s.h.len v from rfl, hq]; decide), if_neg (by rw [show s.next.h.len v = s.h.len v from rfl, hq]; decide)]
   exact ⟨_, _, _, _, _, h.more h.ty (Ext.refl _) same (Q43 hj) (VTs.one (Qbi Ψ _ _)) hrun hinv⟩
 · rw [if_neg (by omega), if_neg (by omega), if_neg (by omega), if_neg (by omega), if_neg (by omega), if_neg (by omega), if_neg (by omega), if_neg (by omega), if_neg (by omega), if_neg (by omega), if_neg (by omega), if_pos e]
   rw [Q68 (.inr e)] at hj
   unfold MS.inS
   split
   · exact trivial
   · exact ⟨_, _, _, _, _, h.more h.ty (Ext.refl _) same (Q43 hj) (VTs.one (Qbi Ψ _ _)) hrun hinv⟩
 · rw [if_neg (by omega), if_neg (by omega), if_neg (by omega), if_neg (by omega), if_neg (by omega), if_neg (by omega), if_neg (by omega), if_neg (by omega), if_neg (by omega), if_neg (by omega), if_neg (by omega), if_neg (by omega), if_pos e]
   rw [Q8k e] at hj
   obtain ⟨t, h1, hj⟩ := Q7 hj
   obtain ⟨n, hn⟩ := Q66 hft h1
   rw [Q4 (show s.next.g.num x.a = some n from hn)]
   unfold MS.outS
   split
   · exact trivial
   · have hz : z' = ⟨z.h, z.l ++ []⟩ := by cases hj; rw [List.append_nil]
     have hmore := h.more (inp := s.inp) (out := s.out ++ [n]) (fuel := s.fuel) h.ty (Ext.refl _) same hz (VTs.nil Ψ) hrun hinv
     rw [List.append_nil] at hmore
     exact ⟨_, _, _, _, _, hmore⟩
 · exact absurd e hop14
end
end Go.Lir
