/- Lemmas of the proof, part 5: what the functions of the program do (contracts), and what follows. -/
import Derived.Test.YteflkifmgnpbhaaGreatZ2
import Derived.Test.YteflkifmgnpbhaaGreatZ3
import Derived.Test.YteflkifmgnpbhaaGreatZ4
import Derived.Test.YteflkifmgnpbhaaGreatZ1
namespace Go.Proofs.YteflkifmgnpbhaaGreat
open Go.Lir
set_option maxHeartbeats 1000000
attribute [local irreducible] LC.wp Q0 QF QE retQ Q16 LO.wp Qf Calls
set_option linter.unusedSimpArgs false
set_option linter.unusedVariables false
theorem QbM {x : Module} (hsm : x.Short) {cx : Cx} {w : World} {L : List Res} {cs : List Value} (hx : modR.at cx cs x) (hS : St cx w L) : Rets Tryz.prog Q9o [.agg ⟨cs⟩] w fun u w' => ∃ c' ds, u = .agg ⟨ds⟩ ∧ cx.Le c' ∧ modR.at c' ds x ∧ St c' w' L := by
 obtain ⟨vf, rfl, hf⟩ := Q1k hx
 obtain ⟨l⟩ := x
 have hf : funcR.sl cx vf l := hf
 have hsl : l.length ≤ 100000 := hsm.1
 have hsm : ∀ f ∈ l, f.Short := hsm.2
 have hle := St.refl hS
 all_goals refine lgo tyD Tryz.func19 ?_
 all_goals (refine Zaz ?_; intro p1 w1 hS; refine Qg hS ?_; intro p2 w1 hS; refine ZaS ?_; refine Qg hS ?_; intro p3 w1 hS; refine zn ?_; refine Zbr ?_)
 refine zo [1, 2, 3] (fun A ρ' w' => ∃ (k0 : Cx) (j : Nat) (u : Value) (css : List (List Value)), Has ρ' A ∧ Has ρ' [(4, .int .i64 j)] ∧ (cx.Le k0) ∧ (j ≤ l.length) ∧ (funcR.ls k0 css (l.take j)) ∧ (oneC u = true) ∧ St k0 w' (sl 95 4 u css :: blk p3 24 [u] :: blk p2 24 [.slice none 0 0] :: blk p1 24 [vf] :: L)) (fun ρ' _ => (l.length - iv (ρ' 4)).toNat) ?_ ?_
 · exact ⟨cx, 0, .slice none 0 0, [], zh, zh, St.refl hS, (by omega), Rep.LR.nil _ _ _, rfl, by have hS := hS.nil (T := 95) (es := 4); exact hS⟩
 rintro ρ w1 ⟨k0, j, u, css, hA, hρ, hle2, hj, hls, hu, hS⟩; obtain ⟨ρ, rfl⟩ := env2 hA hρ; have hL0 := hle2; (try have hle := hle.trans hle2); (try have hf := hf.up hle2)
 all_goals (refine ZaA ?_; refine zf0 ?_; refine zl hS ?_; refine zL ?_; refine Zau ?_)
 refine Qt rfl (fun hc => ?_) (fun hc => ?_)
 · skip
   all_goals (refine Zbn ?_; refine zf0 ?_; refine zl hS ?_; refine zm ?_; refine zi ?_; intro b1 o1 cs1 x1 hat1 hx1 he1; obtain ⟨vp1, vr1, vb1, rfl, hp1, hr1, hb1⟩ := Qv he1; refine Zas ?_; intro p5 w1 hS; refine zsn hS ?_; intro w1 hS; have hS := hS.ns; refine zn ?_; have hsh := hsm x1 (List.mem_of_getElem? hx1); have hlb := hsh.2.2.1)
   have hJ6 := St.refl hS
   refine zML hS [1, 2, 3, 4, 5] (fun A LL ρ' w' => ∃ (k6 : Cx) (a1 a2 : Option Addr) (n1 n2 p6 : Nat), Has ρ' A ∧ Has ρ' [(6, .pointer (some ⟨p6, 0, none⟩))] ∧ (k0.Le k6) ∧ (tyR.sl k6 (.slice a1 x1.params.length n1) x1.params) ∧ (tyR.sl k6 (.slice a2 x1.results.length n2) x1.results) ∧ St k6 w' (blk p6 95 [.int .i64 x1.regs, .slice a1 x1.params.length n1, .slice a2 x1.results.length n2, .slice none 0 0] :: LL)) ?_ ?_
   · skip
     refine Q1p 4 9 (by kernel_rfl) ?_ ?_
     · skip
       refine Q1p 7 9 (by kernel_rfl) ?_ ?_
       · skip
         all_goals (refine zC [(0, none), (1, none), (2, none), (3, none), (5, none), (6, none), (4, some (some [1, 6])), (7, some (some [1])), (8, none), (9, some (some [1])), (10, some none)] ?_; have hS := hS.drew; refine s_cq ?_; refine zf0 ?_; refine Zab ?_; refine zl hS ?_; refine Zab ?_; refine zf0 ?_; refine Zab ?_; refine zl hS ?_; refine Zab ?_; refine zf0 ?_; refine Zab ?_; refine zl hS ?_; refine Zar ?_)
         all_goals (refine zR1 (c := Q3A hsh.1.1 hsh.1.2 hp1 hS) (h := ?_); rintro v1 w1 ⟨c1, hle2, hk1, hS⟩; obtain ⟨a1, n1, rfl⟩ := Rep.SR.shape hk1; (try have hle := hle.trans hle2); (try have hL0 := hL0.trans hle2); (try have hJ6 := hJ6.trans hle2); (try have hf := hf.up hle2); (try have hp1 := hp1.up hle2); (try have hr1 := hr1.up hle2); (try have hb1 := hb1.up hle2); (try have he1 := he1.up hle2); (try have hls := hls.up hle2))
         all_goals (refine ZaD ?_)
         all_goals (refine zR1 (c := Q3A hsh.2.1.1 hsh.2.1.2 hr1 hS) (h := ?_); rintro v1 w1 ⟨c2, hle2, hk2, hS⟩; obtain ⟨a2, n2, rfl⟩ := Rep.SR.shape hk2; (try have hle := hle.trans hle2); (try have hL0 := hL0.trans hle2); (try have hJ6 := hJ6.trans hle2); (try have hf := hf.up hle2); (try have hk1 := hk1.up hle2); (try have hp1 := hp1.up hle2); (try have hr1 := hr1.up hle2); (try have hb1 := hb1.up hle2); (try have he1 := he1.up hle2); (try have hls := hls.up hle2))
         all_goals (refine ZaI ?_; refine zb3 [_, _, _, _] ?_; refine ZaR ?_; intro p6 w1 hS; refine ZaK ?_; refine zsn hS ?_; intro w1 hS; have hS := hS.ns; refine Zaw ?_; exact ⟨_, a1, a2, n1, n2, p6, zh, zh, hJ6, by assumption, by assumption, hS.sp⟩)
       · skip
         all_goals (refine zC [(0, none), (1, none), (2, none), (3, none), (5, none), (6, none), (4, some (some [1, 6])), (9, some (some [1, 6])), (7, some (some [1])), (8, none), (10, some none)] ?_; have hS := hS.drew; refine s_cq ?_; refine zf0 ?_; refine Zab ?_; refine zl hS ?_; refine Zab ?_; refine zf0 ?_; refine Zab ?_; refine zl hS ?_; refine Zab ?_; refine zf0 ?_; refine Zab ?_; refine zl hS ?_; refine Zar ?_)
         all_goals (refine zR1 (c := Q3A hsh.1.1 hsh.1.2 hp1 hS) (h := ?_); rintro v1 w1 ⟨c1, hle2, hk1, hS⟩; obtain ⟨a1, n1, rfl⟩ := Rep.SR.shape hk1; (try have hle := hle.trans hle2); (try have hL0 := hL0.trans hle2); (try have hJ6 := hJ6.trans hle2); (try have hf := hf.up hle2); (try have hp1 := hp1.up hle2); (try have hr1 := hr1.up hle2); (try have hb1 := hb1.up hle2); (try have he1 := he1.up hle2); (try have hls := hls.up hle2))
         all_goals (refine ZbJ ?_; intro p6 w1 hS; refine ZaD ?_)
         all_goals (refine zR1 (c := Q3A hsh.2.1.1 hsh.2.1.2 hr1 hS) (h := ?_); rintro v1 w1 ⟨c2, hle2, hk2, hS⟩; obtain ⟨a2, n2, rfl⟩ := Rep.SR.shape hk2; (try have hle := hle.trans hle2); (try have hL0 := hL0.trans hle2); (try have hJ6 := hJ6.trans hle2); (try have hf := hf.up hle2); (try have hk1 := hk1.up hle2); (try have hp1 := hp1.up hle2); (try have hr1 := hr1.up hle2); (try have hb1 := hb1.up hle2); (try have he1 := he1.up hle2); (try have hls := hls.up hle2))
         all_goals (refine ZaI ?_; refine zb3 [_, _, _, _] ?_; refine Zax ?_; refine zsn hS ?_; intro w1 hS; have hS := hS.ns; refine Zaw ?_; exact ⟨_, a1, a2, n1, n2, p6, zh, zh, hJ6, by assumption, by assumption, hS.sp⟩)
     · skip
       all_goals (refine zC [(0, none), (1, none), (2, none), (3, none), (5, none), (6, none), (9, some (some [1, 3, 6])), (4, some (some [1, 6])), (7, some (some [1])), (8, none), (10, some none)] ?_; have hS := hS.drew; refine s_cq ?_; refine zf0 ?_; refine Zab ?_; refine zl hS ?_; refine Zab ?_; refine zf0 ?_; refine Zab ?_; refine zl hS ?_; refine Zab ?_; refine zf0 ?_; refine Zab ?_; refine zl hS ?_; refine ZaR ?_; intro p6 w1 hS; refine ZaD ?_)
       all_goals (refine zR1 (c := Q3A hsh.1.1 hsh.1.2 hp1 hS) (h := ?_); rintro v1 w1 ⟨c1, hle2, hk1, hS⟩; obtain ⟨a1, n1, rfl⟩ := Rep.SR.shape hk1; (try have hle := hle.trans hle2); (try have hL0 := hL0.trans hle2); (try have hJ6 := hJ6.trans hle2); (try have hf := hf.up hle2); (try have hp1 := hp1.up hle2); (try have hr1 := hr1.up hle2); (try have hb1 := hb1.up hle2); (try have he1 := he1.up hle2); (try have hls := hls.up hle2))
       all_goals (refine ZaD ?_)
       all_goals (refine zR1 (c := Q3A hsh.2.1.1 hsh.2.1.2 hr1 hS) (h := ?_); rintro v1 w1 ⟨c2, hle2, hk2, hS⟩; obtain ⟨a2, n2, rfl⟩ := Rep.SR.shape hk2; (try have hle := hle.trans hle2); (try have hL0 := hL0.trans hle2); (try have hJ6 := hJ6.trans hle2); (try have hf := hf.up hle2); (try have hk1 := hk1.up hle2); (try have hp1 := hp1.up hle2); (try have hr1 := hr1.up hle2); (try have hb1 := hb1.up hle2); (try have he1 := he1.up hle2); (try have hls := hls.up hle2))
       all_goals (refine ZaI ?_; refine zb3 [_, _, _, _] ?_; refine Zax ?_; refine zsn hS ?_; intro w1 hS; have hS := hS.ns; refine Zaw ?_; exact ⟨_, a1, a2, n1, n2, p6, zh, zh, hJ6, by assumption, by assumption, hS.sp⟩)
   rintro ρ w1 ⟨k6, a1, a2, n1, n2, p6, hA, hρ, hle2, hk1, hk2, hS⟩; obtain ⟨ρ, rfl⟩ := env2 hA hρ; (try have hle := hle.trans hle2); (try have hL0 := hL0.trans hle2); (try have hJ6 := hJ6.trans hle2); (try have hf := hf.up hle2); (try have hp1 := hp1.up hle2); (try have hr1 := hr1.up hle2); (try have hb1 := hb1.up hle2); (try have he1 := he1.up hle2); (try have hls := hls.up hle2)
   all_goals (refine Zbr ?_)
   refine zo [1, 2, 3, 4, 5, 6] (fun A ρ' w' => ∃ (k1 : Cx) (i : Nat) (ub : Value) (cssB : List (List Value)), Has ρ' A ∧ Has ρ' [(7, .int .i64 i)] ∧ (k6.Le k1) ∧ (i ≤ x1.blocks.length) ∧ (blockR.ls k1 cssB (x1.blocks.take i)) ∧ (oneC ub = true) ∧ St k1 w' (sl 92 12 ub cssB :: blk p6 95 [.int .i64 x1.regs, .slice a1 x1.params.length n1, .slice a2 x1.results.length n2, ub] :: blk p5 95 [.int .i64 x1.regs, vp1, vr1, vb1] :: sl 95 4 u css :: blk p3 24 [u] :: blk p2 24 [.slice none 0 0] :: blk p1 24 [vf] :: L)) (fun ρ' _ => (x1.blocks.length - iv (ρ' 7)).toNat) ?_ ?_
   · exact ⟨k6, 0, .slice none 0 0, [], zh, zh, St.refl hS, (by omega), Rep.LR.nil _ _ _, rfl, by have hS := hS.nil (T := 92) (es := 12); exact hS.sp⟩
   rintro ρ w1 ⟨k1, i, ub, cssB, hA, hρ, hle2, hi, hlsB, hub, hS⟩; obtain ⟨ρ, rfl⟩ := env2 hA hρ; have hL1 := hle2; (try have hle := hle.trans hle2); (try have hL0 := hL0.trans hle2); (try have hJ6 := hJ6.trans hle2); (try have hf := hf.up hle2); (try have hk1 := hk1.up hle2); (try have hk2 := hk2.up hle2); (try have hp1 := hp1.up hle2); (try have hr1 := hr1.up hle2); (try have hb1 := hb1.up hle2); (try have he1 := he1.up hle2); (try have hls := hls.up hle2)
   all_goals (refine ZaA ?_; refine zf0 ?_; refine zl hS ?_; refine zL ?_; refine Zau ?_)
   refine Qt rfl (fun hc => ?_) (fun hc => ?_)
   · skip
     all_goals (refine Zbn ?_; refine zf0 ?_; refine zl hS ?_; refine zm ?_; refine zi ?_; intro b2 o2 cs2 x2 hat2 hx2 he2; obtain ⟨vp2, vc2, ve21, ve22, ve23, ve24, ve25, rfl, hp2, hc2, he21, he22, he23, he24, he25⟩ := Q13 he2; refine Zas ?_; intro p8 w1 hS; refine zsn hS ?_; intro w1 hS; have hS := hS.ns; refine zn ?_; have hsb := hsh.2.2.2 x2 (List.mem_of_getElem? hx2); have hlc := hsb.2.1)
     have hJ10 := St.refl hS
     refine zML hS [1, 2, 3, 4, 5, 6, 7, 8] (fun A LL ρ' w' => ∃ (k10 : Cx) (a3 : Option Addr) (n3 p9 : Nat), Has ρ' A ∧ Has ρ' [(9, .pointer (some ⟨p9, 0, none⟩))] ∧ (k1.Le k10) ∧ (tyR.sl k10 (.slice a3 x2.params.length n3) x2.params) ∧ St k10 w' (blk p9 92 [.int .i64 x2.regs, .slice a3 x2.params.length n3, .slice none 0 0, .int .i64 0, .int .i64 0, .int .i64 0, .slice none 0 0, .slice none 0 0, .int .i64 0, .slice none 0 0, .slice none 0 0, .slice none 0 0] :: LL)) ?_ ?_
     · skip
       refine Q1p 4 6 (by kernel_rfl) ?_ ?_
       · skip
         all_goals (refine zC [(0, none), (1, none), (2, none), (3, none), (4, some (some [1])), (5, none), (6, some (some [1])), (7, some none)] ?_; have hS := hS.drew; refine s_cq ?_; refine zf0 ?_; refine Zab ?_; refine zl hS ?_; refine Zab ?_; refine zf0 ?_; refine Zab ?_; refine zl hS ?_; refine Zar ?_)
         all_goals (refine zR1 (c := Q3A hsb.1.1 hsb.1.2 hp2 hS) (h := ?_); rintro v1 w1 ⟨c3, hle2, hk3, hS⟩; obtain ⟨a3, n3, rfl⟩ := Rep.SR.shape hk3; (try have hle := hle.trans hle2); (try have hL0 := hL0.trans hle2); (try have hL1 := hL1.trans hle2); (try have hJ6 := hJ6.trans hle2); (try have hJ10 := hJ10.trans hle2); (try have hf := hf.up hle2); (try have hk1 := hk1.up hle2); (try have hk2 := hk2.up hle2); (try have hp1 := hp1.up hle2); (try have hr1 := hr1.up hle2); (try have hb1 := hb1.up hle2); (try have hp2 := hp2.up hle2); (try have hc2 := hc2.up hle2); (try have he21 := he21.up hle2); (try have he22 := he22.up hle2); (try have he23 := he23.up hle2); (try have he24 := he24.up hle2); (try have he25 := he25.up hle2); (try have he1 := he1.up hle2); (try have he2 := he2.up hle2); (try have hls := hls.up hle2); (try have hlsB := hlsB.up hle2))
         all_goals (refine ZaI ?_; refine zb2 [_, _, _, _, _, _, _, _, _, _, _, _] ?_; refine ZaR ?_; intro p9 w1 hS; refine ZaK ?_; refine zsn hS ?_; intro w1 hS; have hS := hS.ns; refine Zaw ?_; exact ⟨_, a3, n3, p9, zh, zh, hJ10, by assumption, hS.sp⟩)
       · skip
         all_goals (refine zC [(0, none), (1, none), (2, none), (3, none), (6, some (some [1, 3])), (4, some (some [1])), (5, none), (7, some none)] ?_; have hS := hS.drew; refine s_cq ?_; refine zf0 ?_; refine Zab ?_; refine zl hS ?_; refine Zab ?_; refine zf0 ?_; refine Zab ?_; refine zl hS ?_; refine ZaR ?_; intro p9 w1 hS; refine ZaD ?_)
         all_goals (refine zR1 (c := Q3A hsb.1.1 hsb.1.2 hp2 hS) (h := ?_); rintro v1 w1 ⟨c3, hle2, hk3, hS⟩; obtain ⟨a3, n3, rfl⟩ := Rep.SR.shape hk3; (try have hle := hle.trans hle2); (try have hL0 := hL0.trans hle2); (try have hL1 := hL1.trans hle2); (try have hJ6 := hJ6.trans hle2); (try have hJ10 := hJ10.trans hle2); (try have hf := hf.up hle2); (try have hk1 := hk1.up hle2); (try have hk2 := hk2.up hle2); (try have hp1 := hp1.up hle2); (try have hr1 := hr1.up hle2); (try have hb1 := hb1.up hle2); (try have hp2 := hp2.up hle2); (try have hc2 := hc2.up hle2); (try have he21 := he21.up hle2); (try have he22 := he22.up hle2); (try have he23 := he23.up hle2); (try have he24 := he24.up hle2); (try have he25 := he25.up hle2); (try have he1 := he1.up hle2); (try have he2 := he2.up hle2); (try have hls := hls.up hle2); (try have hlsB := hlsB.up hle2))
         all_goals (refine ZaI ?_; refine zb2 [_, _, _, _, _, _, _, _, _, _, _, _] ?_; refine Zax ?_; refine zsn hS ?_; intro w1 hS; have hS := hS.ns; refine Zaw ?_; exact ⟨_, a3, n3, p9, zh, zh, hJ10, by assumption, hS.sp⟩)
     rintro ρ w1 ⟨k10, a3, n3, p9, hA, hρ, hle2, hk3, hS⟩; obtain ⟨ρ, rfl⟩ := env2 hA hρ; (try have hle := hle.trans hle2); (try have hL0 := hL0.trans hle2); (try have hL1 := hL1.trans hle2); (try have hJ6 := hJ6.trans hle2); (try have hJ10 := hJ10.trans hle2); (try have hf := hf.up hle2); (try have hk1 := hk1.up hle2); (try have hk2 := hk2.up hle2); (try have hp1 := hp1.up hle2); (try have hr1 := hr1.up hle2); (try have hb1 := hb1.up hle2); (try have hp2 := hp2.up hle2); (try have hc2 := hc2.up hle2); (try have he21 := he21.up hle2); (try have he22 := he22.up hle2); (try have he23 := he23.up hle2); (try have he24 := he24.up hle2); (try have he25 := he25.up hle2); (try have he1 := he1.up hle2); (try have he2 := he2.up hle2); (try have hls := hls.up hle2); (try have hlsB := hlsB.up hle2)
     all_goals (refine Zbr ?_)
     refine zo [1, 2, 3, 4, 5, 6, 7, 8, 9] (fun A ρ' w' => ∃ (k2 : Cx) (k : Nat) (uc : Value) (cssC : List (List Value)), Has ρ' A ∧ Has ρ' [(10, .int .i64 k)] ∧ (k10.Le k2) ∧ (k ≤ x2.code.length) ∧ (insR.ls k2 cssC (x2.code.take k)) ∧ (oneC uc = true) ∧ St k2 w' (sl 84 8 uc cssC :: blk p9 92 [.int .i64 x2.regs, .slice a3 x2.params.length n3, uc, .int .i64 0, .int .i64 0, .int .i64 0, .slice none 0 0, .slice none 0 0, .int .i64 0, .slice none 0 0, .slice none 0 0, .slice none 0 0] :: blk p8 92 [.int .i64 x2.regs, vp2, vc2, .int .i64 x2.fin.op, .int .i64 x2.fin.a, .int .i64 x2.fin.yes.block, ve21, ve22, .int .i64 x2.fin.no.block, ve23, ve24, ve25] :: sl 92 12 ub cssB :: blk p6 95 [.int .i64 x1.regs, .slice a1 x1.params.length n1, .slice a2 x1.results.length n2, ub] :: blk p5 95 [.int .i64 x1.regs, vp1, vr1, vb1] :: sl 95 4 u css :: blk p3 24 [u] :: blk p2 24 [.slice none 0 0] :: blk p1 24 [vf] :: L)) (fun ρ' _ => (x2.code.length - iv (ρ' 10)).toNat) ?_ ?_
     · exact ⟨k10, 0, .slice none 0 0, [], zh, zh, St.refl hS, (by omega), Rep.LR.nil _ _ _, rfl, by have hS := hS.nil (T := 84) (es := 8); exact hS.sp⟩
     rintro ρ w1 ⟨k2, k, uc, cssC, hA, hρ, hle2, hkk, hlsC, huc, hS⟩; obtain ⟨ρ, rfl⟩ := env2 hA hρ; have hL2 := hle2; (try have hle := hle.trans hle2); (try have hL0 := hL0.trans hle2); (try have hL1 := hL1.trans hle2); (try have hJ6 := hJ6.trans hle2); (try have hJ10 := hJ10.trans hle2); (try have hf := hf.up hle2); (try have hk1 := hk1.up hle2); (try have hk2 := hk2.up hle2); (try have hk3 := hk3.up hle2); (try have hp1 := hp1.up hle2); (try have hr1 := hr1.up hle2); (try have hb1 := hb1.up hle2); (try have hp2 := hp2.up hle2); (try have hc2 := hc2.up hle2); (try have he21 := he21.up hle2); (try have he22 := he22.up hle2); (try have he23 := he23.up hle2); (try have he24 := he24.up hle2); (try have he25 := he25.up hle2); (try have he1 := he1.up hle2); (try have he2 := he2.up hle2); (try have hls := hls.up hle2); (try have hlsB := hlsB.up hle2)
     all_goals (refine ZaA ?_; refine zf0 ?_; refine zl hS ?_; refine zL ?_; refine Zau ?_)
     refine Qt rfl (fun hc => ?_) (fun hc => ?_)
     · skip
       all_goals (refine Zbn ?_; refine zf0 ?_; refine zl hS ?_; refine zm ?_; refine zi ?_; intro b3 o3 cs3 x3 hat3 hx3 he3; obtain ⟨vr3, va3, rfl, hr3, ha3⟩ := Q1a he3; refine Zas ?_; intro p11 w1 hS; refine zsn hS ?_; intro w1 hS; have hS := hS.ns; refine ZaZ ?_; have hsi := hsb.2.2.1 x3 (List.mem_of_getElem? hx3); refine zC [(0, none), (1, none), (3, none), (4, none), (2, some (some [4])), (6, none), (5, some (some [])), (7, some none), (8, none), (9, some none)] ?_; have hS := hS.drew; refine s_cq ?_; refine zf0 ?_; refine Zab ?_; refine zl hS ?_; refine Zab ?_; refine zf0 ?_; refine Zab ?_; refine zl hS ?_; refine Zar ?_)
       all_goals (refine zR1 (c := Q34 (by have := hsi.1; omega) hr3 hS) (h := ?_); rintro v1 w1 ⟨c4, hle2, hk4, hS⟩; obtain ⟨a4, n4, rfl⟩ := Rep.SR.shape hk4; (try have hle := hle.trans hle2); (try have hL0 := hL0.trans hle2); (try have hL1 := hL1.trans hle2); (try have hL2 := hL2.trans hle2); (try have hJ6 := hJ6.trans hle2); (try have hJ10 := hJ10.trans hle2); (try have hf := hf.up hle2); (try have hk1 := hk1.up hle2); (try have hk2 := hk2.up hle2); (try have hk3 := hk3.up hle2); (try have hp1 := hp1.up hle2); (try have hr1 := hr1.up hle2); (try have hb1 := hb1.up hle2); (try have hp2 := hp2.up hle2); (try have hc2 := hc2.up hle2); (try have he21 := he21.up hle2); (try have he22 := he22.up hle2); (try have he23 := he23.up hle2); (try have he24 := he24.up hle2); (try have he25 := he25.up hle2); (try have hr3 := hr3.up hle2); (try have ha3 := ha3.up hle2); (try have he1 := he1.up hle2); (try have he2 := he2.up hle2); (try have he3 := he3.up hle2); (try have hls := hls.up hle2); (try have hlsB := hlsB.up hle2); (try have hlsC := hlsC.up hle2))
       all_goals (refine ZaI ?_; refine zf0 ?_; refine Zar ?_)
       all_goals (refine zR1 (c := Q34 (by have := hsi.2; omega) ha3 hS) (h := ?_); rintro v1 w1 ⟨c5, hle2, hk5, hS⟩; obtain ⟨a5, n5, rfl⟩ := Rep.SR.shape hk5; (try have hle := hle.trans hle2); (try have hL0 := hL0.trans hle2); (try have hL1 := hL1.trans hle2); (try have hL2 := hL2.trans hle2); (try have hJ6 := hJ6.trans hle2); (try have hJ10 := hJ10.trans hle2); (try have hf := hf.up hle2); (try have hk1 := hk1.up hle2); (try have hk2 := hk2.up hle2); (try have hk3 := hk3.up hle2); (try have hk4 := hk4.up hle2); (try have hp1 := hp1.up hle2); (try have hr1 := hr1.up hle2); (try have hb1 := hb1.up hle2); (try have hp2 := hp2.up hle2); (try have hc2 := hc2.up hle2); (try have he21 := he21.up hle2); (try have he22 := he22.up hle2); (try have he23 := he23.up hle2); (try have he24 := he24.up hle2); (try have he25 := he25.up hle2); (try have hr3 := hr3.up hle2); (try have ha3 := ha3.up hle2); (try have he1 := he1.up hle2); (try have he2 := he2.up hle2); (try have he3 := he3.up hle2); (try have hls := hls.up hle2); (try have hlsB := hlsB.up hle2); (try have hlsC := hlsC.up hle2))
       all_goals (refine ZaK ?_; refine zst hS ?_; intro w1 hS; have hS := hS.ns; refine Zab ?_; refine zf0 ?_; refine Zax ?_; refine zst hS ?_; intro w1 hS; have hS := hS.ns; refine Zaw ?_; have hk9 : insR.at c5 _ x3 := ⟨_, _, rfl, hk4, hk5⟩; refine Qn ?_; refine zf0 ?_; refine zl hS ?_; refine zv hS ?_; refine zB1 hS [_, _, _, _, _, _, _, _] ?_; intro b1 w1 hS; refine za el_T85 u_T85 hS ?_; intro vp1 w1 css1 hls1 hv1 hS; have hS := hS.ns; refine zf0 ?_; refine zst hS ?_; intro w1 hS; have hS := hS.ns; refine Zbd ?_; refine zad ?_; refine Zac ?_; exact ⟨⟨_, k + 1, _, _, zh, zh, hL2, (by omega), by rw [Q28 hx3]; assumption, by assumption, hS.sp⟩, Qu (by omega)⟩)
     · skip
       all_goals (refine zex ?_)
       all_goals (obtain ⟨c6, hle2, hS, hk6⟩ := St.freezeL (r := insR) (l := x2.code) hS (by rw [List.take_of_length_le (by omega)] at hlsC; exact hlsC) rfl (by have := hsb.2.1; omega); obtain ⟨a6, n6, rfl⟩ := Rep.SR.shape hk6; (try have hle := hle.trans hle2); (try have hL0 := hL0.trans hle2); (try have hL1 := hL1.trans hle2); (try have hL2 := hL2.trans hle2); (try have hJ6 := hJ6.trans hle2); (try have hJ10 := hJ10.trans hle2); (try have hf := hf.up hle2); (try have hk1 := hk1.up hle2); (try have hk2 := hk2.up hle2); (try have hk3 := hk3.up hle2); (try have hp1 := hp1.up hle2); (try have hr1 := hr1.up hle2); (try have hb1 := hb1.up hle2); (try have hp2 := hp2.up hle2); (try have hc2 := hc2.up hle2); (try have he21 := he21.up hle2); (try have he22 := he22.up hle2); (try have he23 := he23.up hle2); (try have he24 := he24.up hle2); (try have he25 := he25.up hle2); (try have he1 := he1.up hle2); (try have he2 := he2.up hle2); (try have hls := hls.up hle2); (try have hlsB := hlsB.up hle2); (try have hlsC := hlsC.up hle2))
       all_goals (refine Qb ?_; refine zC [(0, none), (1, none), (2, none), (3, none), (4, none), (5, none), (6, none), (7, none), (8, none), (10, none), (11, none), (12, none), (14, none), (15, none), (16, none), (9, some (some [2, 5, 12, 16])), (13, some (some [2, 5, 16])), (17, some (some [2, 5])), (18, none), (19, none), (20, some none)] ?_; have hS := hS.drew; refine s_cq ?_; refine zf0 ?_; refine ZaU ?_; refine zl hS ?_; refine Zab ?_; refine zf0 ?_; refine ZaU ?_; refine zl hS ?_; refine Zab ?_; refine zf0 ?_; refine ZaU ?_; refine zv hS ?_; refine Zab ?_; refine zf0 ?_; refine ZaU ?_; refine zv hS ?_; refine Zab ?_; refine zf0 ?_)
       all_goals (refine ZaU ?_; refine zl hS ?_; refine Zar ?_)
       all_goals (refine zR1 (c := Q9N (x := x2.fin.yes) (by have := hsb.2.2.2.1.1; omega) (by have := hsb.2.2.2.1.2; omega) ⟨_, _, rfl, he21, he22⟩ hS) (h := ?_); rintro v1 w1 ⟨c7, ds, rfl, hle2, hk7, hS⟩; obtain ⟨y1, y2, rfl, hy1, hy2⟩ := Q2u hk7; obtain ⟨a7, n7, rfl⟩ := Rep.SR.shape hy1; obtain ⟨a8, n8, rfl⟩ := Rep.SR.shape hy2; (try have hle := hle.trans hle2); (try have hL0 := hL0.trans hle2); (try have hL1 := hL1.trans hle2); (try have hL2 := hL2.trans hle2); (try have hJ6 := hJ6.trans hle2); (try have hJ10 := hJ10.trans hle2); (try have hf := hf.up hle2); (try have hk1 := hk1.up hle2); (try have hk2 := hk2.up hle2); (try have hk3 := hk3.up hle2); (try have hk6 := hk6.up hle2); (try have hp1 := hp1.up hle2); (try have hr1 := hr1.up hle2); (try have hb1 := hb1.up hle2); (try have hp2 := hp2.up hle2); (try have hc2 := hc2.up hle2); (try have he21 := he21.up hle2); (try have he22 := he22.up hle2); (try have he23 := he23.up hle2); (try have he24 := he24.up hle2); (try have he25 := he25.up hle2); (try have he1 := he1.up hle2); (try have he2 := he2.up hle2); (try have hls := hls.up hle2); (try have hlsB := hlsB.up hle2); (try have hlsC := hlsC.up hle2))
       all_goals (refine ZaD ?_)
       all_goals (refine zR1 (c := Q9N (x := x2.fin.no) (by have := hsb.2.2.2.2.1.1; omega) (by have := hsb.2.2.2.2.1.2; omega) ⟨_, _, rfl, he23, he24⟩ hS) (h := ?_); rintro v1 w1 ⟨c8, ds, rfl, hle2, hk8, hS⟩; obtain ⟨z1, z2, rfl, hz1, hz2⟩ := Q2u hk8; obtain ⟨a9, n9, rfl⟩ := Rep.SR.shape hz1; obtain ⟨a10, n10, rfl⟩ := Rep.SR.shape hz2; (try have hle := hle.trans hle2); (try have hL0 := hL0.trans hle2); (try have hL1 := hL1.trans hle2); (try have hL2 := hL2.trans hle2); (try have hJ6 := hJ6.trans hle2); (try have hJ10 := hJ10.trans hle2); (try have hf := hf.up hle2); (try have hk1 := hk1.up hle2); (try have hk2 := hk2.up hle2); (try have hk3 := hk3.up hle2); (try have hk6 := hk6.up hle2); (try have hk7 := hk7.up hle2); (try have hp1 := hp1.up hle2); (try have hr1 := hr1.up hle2); (try have hb1 := hb1.up hle2); (try have hp2 := hp2.up hle2); (try have hc2 := hc2.up hle2); (try have he21 := he21.up hle2); (try have he22 := he22.up hle2); (try have he23 := he23.up hle2); (try have he24 := he24.up hle2); (try have he25 := he25.up hle2); (try have he1 := he1.up hle2); (try have he2 := he2.up hle2); (try have hls := hls.up hle2); (try have hy1 := hy1.up hle2); (try have hy2 := hy2.up hle2); (try have hlsB := hlsB.up hle2); (try have hlsC := hlsC.up hle2))
       all_goals (refine ZaD ?_)
       all_goals (refine zR1 (c := Q34 (by have := hsb.2.2.2.2.2; omega) he25 hS) (h := ?_); rintro v1 w1 ⟨c9, hle2, hw1, hS⟩; obtain ⟨a11, n11, rfl⟩ := Rep.SR.shape hw1; (try have hle := hle.trans hle2); (try have hL0 := hL0.trans hle2); (try have hL1 := hL1.trans hle2); (try have hL2 := hL2.trans hle2); (try have hJ6 := hJ6.trans hle2); (try have hJ10 := hJ10.trans hle2); (try have hf := hf.up hle2); (try have hk1 := hk1.up hle2); (try have hk2 := hk2.up hle2); (try have hk3 := hk3.up hle2); (try have hk6 := hk6.up hle2); (try have hk7 := hk7.up hle2); (try have hk8 := hk8.up hle2); (try have hp1 := hp1.up hle2); (try have hr1 := hr1.up hle2); (try have hb1 := hb1.up hle2); (try have hp2 := hp2.up hle2); (try have hc2 := hc2.up hle2); (try have he21 := he21.up hle2); (try have he22 := he22.up hle2); (try have he23 := he23.up hle2); (try have he24 := he24.up hle2); (try have he25 := he25.up hle2); (try have he1 := he1.up hle2); (try have he2 := he2.up hle2); (try have hls := hls.up hle2); (try have hy1 := hy1.up hle2); (try have hy2 := hy2.up hle2); (try have hz1 := hz1.up hle2); (try have hz2 := hz2.up hle2); (try have hlsB := hlsB.up hle2); (try have hlsC := hlsC.up hle2))
       all_goals (refine ZaI ?_; refine zb5 [_, _, _, _, _, _, _, _, _] ?_; refine Zab ?_; refine zf0 ?_; refine Zax ?_; (first | (refine zsn hS ?_; intro w1 hS; have hS := hS.ns) | (refine zsm hS ?_; intro w1 hS; have hS := hS.ns)); refine Zaw ?_; have hk9 : blockR.at c9 _ x2 := Q4X (x := x2) hk3 hk6 hy1 hy2 hz1 hz2 hw1; refine Qn ?_; refine zf0 ?_; refine zl hS ?_; refine zv hS ?_; refine zB1 hS [_, _, _, _, _, _, _, _, _, _, _, _] ?_; intro b1 w1 hS; refine za el_T93 u_T93 hS ?_; intro vp2 w2 css2 hls2 hv2 hS; have hS := hS.ns; refine zf0 ?_; refine zst hS ?_; intro w1 hS; have hS := hS.ns; refine Zbd ?_; refine zad ?_; refine Zac ?_; exact ⟨⟨_, i + 1, _, _, zh, zh, hL1, (by omega), by rw [Q28 hx2]; assumption, by assumption, hS.sp⟩, Qu (by omega)⟩)
   · skip
     all_goals (refine zex ?_)
     all_goals (obtain ⟨c10, hle2, hS, hk6⟩ := St.freezeL (r := blockR) (l := x1.blocks) hS (by rw [List.take_of_length_le (by omega)] at hlsB; exact hlsB) rfl (by have := hsh.2.2.1; omega); obtain ⟨a6, n6, rfl⟩ := Rep.SR.shape hk6; (try have hle := hle.trans hle2); (try have hL0 := hL0.trans hle2); (try have hL1 := hL1.trans hle2); (try have hJ6 := hJ6.trans hle2); (try have hf := hf.up hle2); (try have hk1 := hk1.up hle2); (try have hk2 := hk2.up hle2); (try have hp1 := hp1.up hle2); (try have hr1 := hr1.up hle2); (try have hb1 := hb1.up hle2); (try have he1 := he1.up hle2); (try have hls := hls.up hle2); (try have hlsB := hlsB.up hle2))
     all_goals (have hk9 : funcR.at c10 _ x1 := ⟨_, _, _, rfl, hk1, hk2, hk6⟩; refine Qn ?_; refine zf0 ?_; refine zl hS ?_; refine zv hS ?_; refine zB1 hS [_, _, _, _] ?_; intro b1 w1 hS; refine za el_T22 u_T22 hS ?_; intro vp3 w3 css3 hls3 hv3 hS; have hS := hS.ns; refine zf0 ?_; refine zst hS ?_; intro w1 hS; have hS := hS.ns; refine Zbd ?_; refine zad ?_; refine Zac ?_; exact ⟨⟨_, j + 1, _, _, zh, zh, hL0, (by omega), by rw [Q28 hx1]; assumption, by assumption, hS.sp⟩, Qu (by omega)⟩)
 · skip
   all_goals (refine zex ?_)
   all_goals (obtain ⟨c11, hle2, hS, hk6⟩ := St.freezeL (r := funcR) (l := l) hS (by rw [List.take_of_length_le (by omega)] at hls; exact hls) rfl (by omega); obtain ⟨a6, n6, rfl⟩ := Rep.SR.shape hk6; (try have hle := hle.trans hle2); (try have hL0 := hL0.trans hle2); (try have hf := hf.up hle2); (try have hls := hls.up hle2))
   all_goals (refine Zaa ?_; refine zv hS ?_; refine zsn hS ?_; intro w1 hS; have hS := hS.ns; refine ZaX ?_; refine Q19 vw (Q4 (n := 1) (by kernel_rfl) (by kernel_rfl) (hS.blkAt fd) (by rfl) (by rfl)) ?_; exact ⟨_, rfl, c11, _, rfl, hle, ⟨_, rfl, hk6⟩, hS.sp⟩)
theorem Q4D {x : Module} (hsm : x.Short) {cx : Cx} {w : World} {L : List Res} {cs : List Value} (hx : modR.at cx cs x) (hS : St cx w L) : Rets Tryz.prog code_Own [.agg ⟨cs⟩] w fun u w' => ∃ c' ds, u = .agg ⟨ds⟩ ∧ cx.Le c' ∧ modR.at c' ds x ∧ St c' w' L := by
 obtain ⟨vf, rfl, hf⟩ := Q1k hx
 obtain ⟨l⟩ := x
 have hf : funcR.sl cx vf l := hf
 have hsl : l.length ≤ 100000 := hsm.1
 have hsm : ∀ f ∈ l, f.Short := hsm.2
 have hle := St.refl hS
 all_goals refine lgo tyD Tryz.func64 ?_
 all_goals (refine Zaz ?_; intro p1 w1 hS; refine Qg hS ?_; intro p2 w1 hS; refine ZaS ?_; refine Qg hS ?_; intro p3 w1 hS; refine ZbT ?_; refine zf0 ?_; refine zl hS ?_; refine zL ?_; refine ZaC ?_)
 refine zo [2, 3, 13, 14] (fun A ρ' w' => ∃ (k0 : Cx) (j : Nat) (u : Value) (css : List (List Value)), Has ρ' A ∧ Has ρ' [(15, .int .i64 j)] ∧ (cx.Le k0) ∧ (j ≤ l.length) ∧ (funcR.ls k0 css (l.take j)) ∧ (oneC u = true) ∧ St k0 w' (sl 95 4 u css :: blk p3 24 [u] :: blk p2 24 [.slice none 0 0] :: blk p1 24 [vf] :: L)) (fun ρ' _ => (l.length - iv (ρ' 15)).toNat) ?_ ?_
 · exact ⟨cx, 0, .slice none 0 0, [], zh, zh, St.refl hS, (by omega), Rep.LR.nil _ _ _, rfl, by have hS := hS.nil (T := 95) (es := 4); exact hS⟩
 rintro ρ w1 ⟨k0, j, u, css, hA, hρ, hle2, hj, hls, hu, hS⟩; obtain ⟨ρ, rfl⟩ := env2 hA hρ; have hL0 := hle2; (try have hle := hle.trans hle2); (try have hf := hf.up hle2)
 all_goals (refine ZbH ?_)
 refine Qt rfl (fun hc => ?_) (fun hc => ?_)
 · skip
   all_goals (refine Zbn ?_; refine zi ?_; intro b1 o1 cs1 x1 hat1 hx1 he1; obtain ⟨vp1, vr1, vb1, rfl, hp1, hr1, hb1⟩ := Qv he1; refine Zas ?_; intro p5 w1 hS; refine zsn hS ?_; intro w1 hS; have hS := hS.ns; refine zn ?_; have hsh := hsm x1 (List.mem_of_getElem? hx1); have hlb := hsh.2.2.1)
   have hJ6 := St.refl hS
   refine zML hS [2, 3, 5, 13, 14, 15] (fun A LL ρ' w' => ∃ (k6 : Cx) (a1 a2 : Option Addr) (n1 n2 p6 : Nat), Has ρ' A ∧ Has ρ' [(6, .pointer (some ⟨p6, 0, none⟩))] ∧ (k0.Le k6) ∧ (tyR.sl k6 (.slice a1 x1.params.length n1) x1.params) ∧ (tyR.sl k6 (.slice a2 x1.results.length n2) x1.results) ∧ St k6 w' (blk p6 95 [.int .i64 x1.regs, .slice a1 x1.params.length n1, .slice a2 x1.results.length n2, .slice none 0 0] :: LL)) ?_ ?_
   · skip
     refine Q1p 4 9 (by kernel_rfl) ?_ ?_
     · skip
       refine Q1p 7 9 (by kernel_rfl) ?_ ?_
       · skip
         all_goals (refine zC [(0, none), (1, none), (2, none), (3, none), (5, none), (6, none), (4, some (some [1, 6])), (7, some (some [1])), (8, none), (9, some (some [1])), (10, some none)] ?_; have hS := hS.drew; refine s_cq ?_; refine zf0 ?_; refine Zab ?_; refine zl hS ?_; refine Zab ?_; refine zf0 ?_; refine Zab ?_; refine zl hS ?_; refine Zab ?_; refine zf0 ?_; refine Zab ?_; refine zl hS ?_; refine Zar ?_)
         all_goals (refine zR1 (c := Q3D hsh.1.1 hsh.1.2 hp1 hS) (h := ?_); rintro v1 w1 ⟨c1, hle2, hk1, hS⟩; obtain ⟨a1, n1, rfl⟩ := Rep.SR.shape hk1; (try have hle := hle.trans hle2); (try have hL0 := hL0.trans hle2); (try have hJ6 := hJ6.trans hle2); (try have hf := hf.up hle2); (try have hp1 := hp1.up hle2); (try have hr1 := hr1.up hle2); (try have hb1 := hb1.up hle2); (try have he1 := he1.up hle2); (try have hls := hls.up hle2))
         all_goals (refine ZaD ?_)
         all_goals (refine zR1 (c := Q3D hsh.2.1.1 hsh.2.1.2 hr1 hS) (h := ?_); rintro v1 w1 ⟨c2, hle2, hk2, hS⟩; obtain ⟨a2, n2, rfl⟩ := Rep.SR.shape hk2; (try have hle := hle.trans hle2); (try have hL0 := hL0.trans hle2); (try have hJ6 := hJ6.trans hle2); (try have hf := hf.up hle2); (try have hk1 := hk1.up hle2); (try have hp1 := hp1.up hle2); (try have hr1 := hr1.up hle2); (try have hb1 := hb1.up hle2); (try have he1 := he1.up hle2); (try have hls := hls.up hle2))
         all_goals (refine ZaI ?_; refine zb3 [_, _, _, _] ?_; refine ZaR ?_; intro p6 w1 hS; refine ZaK ?_; refine zsn hS ?_; intro w1 hS; have hS := hS.ns; refine Zaw ?_; exact ⟨_, a1, a2, n1, n2, p6, zh, zh, hJ6, by assumption, by assumption, hS.sp⟩)
       · skip
         all_goals (refine zC [(0, none), (1, none), (2, none), (3, none), (5, none), (6, none), (4, some (some [1, 6])), (9, some (some [1, 6])), (7, some (some [1])), (8, none), (10, some none)] ?_; have hS := hS.drew; refine s_cq ?_; refine zf0 ?_; refine Zab ?_; refine zl hS ?_; refine Zab ?_; refine zf0 ?_; refine Zab ?_; refine zl hS ?_; refine Zab ?_; refine zf0 ?_; refine Zab ?_; refine zl hS ?_; refine Zar ?_)
         all_goals (refine zR1 (c := Q3D hsh.1.1 hsh.1.2 hp1 hS) (h := ?_); rintro v1 w1 ⟨c1, hle2, hk1, hS⟩; obtain ⟨a1, n1, rfl⟩ := Rep.SR.shape hk1; (try have hle := hle.trans hle2); (try have hL0 := hL0.trans hle2); (try have hJ6 := hJ6.trans hle2); (try have hf := hf.up hle2); (try have hp1 := hp1.up hle2); (try have hr1 := hr1.up hle2); (try have hb1 := hb1.up hle2); (try have he1 := he1.up hle2); (try have hls := hls.up hle2))
         all_goals (refine ZbJ ?_; intro p6 w1 hS; refine ZaD ?_)
         all_goals (refine zR1 (c := Q3D hsh.2.1.1 hsh.2.1.2 hr1 hS) (h := ?_); rintro v1 w1 ⟨c2, hle2, hk2, hS⟩; obtain ⟨a2, n2, rfl⟩ := Rep.SR.shape hk2; (try have hle := hle.trans hle2); (try have hL0 := hL0.trans hle2); (try have hJ6 := hJ6.trans hle2); (try have hf := hf.up hle2); (try have hk1 := hk1.up hle2); (try have hp1 := hp1.up hle2); (try have hr1 := hr1.up hle2); (try have hb1 := hb1.up hle2); (try have he1 := he1.up hle2); (try have hls := hls.up hle2))
         all_goals (refine ZaI ?_; refine zb3 [_, _, _, _] ?_; refine Zax ?_; refine zsn hS ?_; intro w1 hS; have hS := hS.ns; refine Zaw ?_; exact ⟨_, a1, a2, n1, n2, p6, zh, zh, hJ6, by assumption, by assumption, hS.sp⟩)
     · skip
       all_goals (refine zC [(0, none), (1, none), (2, none), (3, none), (5, none), (6, none), (9, some (some [1, 3, 6])), (4, some (some [1, 6])), (7, some (some [1])), (8, none), (10, some none)] ?_; have hS := hS.drew; refine s_cq ?_; refine zf0 ?_; refine Zab ?_; refine zl hS ?_; refine Zab ?_; refine zf0 ?_; refine Zab ?_; refine zl hS ?_; refine Zab ?_; refine zf0 ?_; refine Zab ?_; refine zl hS ?_; refine ZaR ?_; intro p6 w1 hS; refine ZaD ?_)
       all_goals (refine zR1 (c := Q3D hsh.1.1 hsh.1.2 hp1 hS) (h := ?_); rintro v1 w1 ⟨c1, hle2, hk1, hS⟩; obtain ⟨a1, n1, rfl⟩ := Rep.SR.shape hk1; (try have hle := hle.trans hle2); (try have hL0 := hL0.trans hle2); (try have hJ6 := hJ6.trans hle2); (try have hf := hf.up hle2); (try have hp1 := hp1.up hle2); (try have hr1 := hr1.up hle2); (try have hb1 := hb1.up hle2); (try have he1 := he1.up hle2); (try have hls := hls.up hle2))
       all_goals (refine ZaD ?_)
       all_goals (refine zR1 (c := Q3D hsh.2.1.1 hsh.2.1.2 hr1 hS) (h := ?_); rintro v1 w1 ⟨c2, hle2, hk2, hS⟩; obtain ⟨a2, n2, rfl⟩ := Rep.SR.shape hk2; (try have hle := hle.trans hle2); (try have hL0 := hL0.trans hle2); (try have hJ6 := hJ6.trans hle2); (try have hf := hf.up hle2); (try have hk1 := hk1.up hle2); (try have hp1 := hp1.up hle2); (try have hr1 := hr1.up hle2); (try have hb1 := hb1.up hle2); (try have he1 := he1.up hle2); (try have hls := hls.up hle2))
       all_goals (refine ZaI ?_; refine zb3 [_, _, _, _] ?_; refine Zax ?_; refine zsn hS ?_; intro w1 hS; have hS := hS.ns; refine Zaw ?_; exact ⟨_, a1, a2, n1, n2, p6, zh, zh, hJ6, by assumption, by assumption, hS.sp⟩)
   rintro ρ w1 ⟨k6, a1, a2, n1, n2, p6, hA, hρ, hle2, hk1, hk2, hS⟩; obtain ⟨ρ, rfl⟩ := env2 hA hρ; (try have hle := hle.trans hle2); (try have hL0 := hL0.trans hle2); (try have hJ6 := hJ6.trans hle2); (try have hf := hf.up hle2); (try have hp1 := hp1.up hle2); (try have hr1 := hr1.up hle2); (try have hb1 := hb1.up hle2); (try have he1 := he1.up hle2); (try have hls := hls.up hle2)
   all_goals (refine Zav ?_; refine zf0 ?_; refine zl hS ?_; refine zL ?_; refine ZaC ?_)
   refine zo [2, 3, 6, 13, 14, 15, 29, 30] (fun A ρ' w' => ∃ (k1 : Cx) (i : Nat) (ub : Value) (cssB : List (List Value)), Has ρ' A ∧ Has ρ' [(31, .int .i64 i)] ∧ (k6.Le k1) ∧ (i ≤ x1.blocks.length) ∧ (blockR.ls k1 cssB (x1.blocks.take i)) ∧ (oneC ub = true) ∧ St k1 w' (sl 92 12 ub cssB :: blk p6 95 [.int .i64 x1.regs, .slice a1 x1.params.length n1, .slice a2 x1.results.length n2, ub] :: blk p5 95 [.int .i64 x1.regs, vp1, vr1, vb1] :: sl 95 4 u css :: blk p3 24 [u] :: blk p2 24 [.slice none 0 0] :: blk p1 24 [vf] :: L)) (fun ρ' _ => (x1.blocks.length - iv (ρ' 31)).toNat) ?_ ?_
   · exact ⟨k6, 0, .slice none 0 0, [], zh, zh, St.refl hS, (by omega), Rep.LR.nil _ _ _, rfl, by have hS := hS.nil (T := 92) (es := 12); exact hS.sp⟩
   rintro ρ w1 ⟨k1, i, ub, cssB, hA, hρ, hle2, hi, hlsB, hub, hS⟩; obtain ⟨ρ, rfl⟩ := env2 hA hρ; have hL1 := hle2; (try have hle := hle.trans hle2); (try have hL0 := hL0.trans hle2); (try have hJ6 := hJ6.trans hle2); (try have hf := hf.up hle2); (try have hk1 := hk1.up hle2); (try have hk2 := hk2.up hle2); (try have hp1 := hp1.up hle2); (try have hr1 := hr1.up hle2); (try have hb1 := hb1.up hle2); (try have he1 := he1.up hle2); (try have hls := hls.up hle2)
   all_goals (refine ZbH ?_)
   refine Qt rfl (fun hc => ?_) (fun hc => ?_)
   · skip
     all_goals (refine Zbn ?_; refine zi ?_; intro b2 o2 cs2 x2 hat2 hx2 he2; obtain ⟨vp2, vc2, ve21, ve22, ve23, ve24, ve25, rfl, hp2, hc2, he21, he22, he23, he24, he25⟩ := Q13 he2; refine Zas ?_; intro p8 w1 hS; refine zsn hS ?_; intro w1 hS; have hS := hS.ns; refine zn ?_; have hsb := hsh.2.2.2 x2 (List.mem_of_getElem? hx2); have hlc := hsb.2.1)
     have hJ10 := St.refl hS
     refine zML hS [2, 3, 6, 8, 13, 14, 15, 29, 30, 31] (fun A LL ρ' w' => ∃ (k10 : Cx) (a3 : Option Addr) (n3 p9 : Nat), Has ρ' A ∧ Has ρ' [(9, .pointer (some ⟨p9, 0, none⟩))] ∧ (k1.Le k10) ∧ (tyR.sl k10 (.slice a3 x2.params.length n3) x2.params) ∧ St k10 w' (blk p9 92 [.int .i64 x2.regs, .slice a3 x2.params.length n3, .slice none 0 0, .int .i64 x2.fin.op, .int .i64 x2.fin.a, .int .i64 x2.fin.yes.block, ve21, ve22, .int .i64 x2.fin.no.block, ve23, ve24, ve25] :: LL)) ?_ ?_
     · skip
       all_goals (obtain ⟨q1, m1, rfl⟩ := Rep.SR.shape he21; obtain ⟨q2, m2, rfl⟩ := Rep.SR.shape he22; obtain ⟨q3, m3, rfl⟩ := Rep.SR.shape he23; obtain ⟨q4, m4, rfl⟩ := Rep.SR.shape he24; obtain ⟨q5, m5, rfl⟩ := Rep.SR.shape he25)
       refine Q1p 4 8 (by kernel_rfl) ?_ ?_
       · skip
         all_goals (refine zC [(0, none), (1, none), (2, none), (3, none), (5, none), (6, none), (4, some (some [1, 6])), (7, none), (8, some (some [1, 6])), (9, some none)] ?_; have hS := hS.drew; refine s_cq ?_; refine zf0 ?_; refine Zab ?_; refine zl hS ?_; refine Zab ?_; refine zf0 ?_; refine Zab ?_; refine zl hS ?_; refine Zab ?_; refine zf0 ?_; refine Zab ?_; refine zv hS ?_; refine Zar ?_)
         all_goals (refine zR1 (c := Q3D hsb.1.1 hsb.1.2 hp2 hS) (h := ?_); rintro v1 w1 ⟨c3, hle2, hk3, hS⟩; obtain ⟨a3, n3, rfl⟩ := Rep.SR.shape hk3; (try have hle := hle.trans hle2); (try have hL0 := hL0.trans hle2); (try have hL1 := hL1.trans hle2); (try have hJ6 := hJ6.trans hle2); (try have hJ10 := hJ10.trans hle2); (try have hf := hf.up hle2); (try have hk1 := hk1.up hle2); (try have hk2 := hk2.up hle2); (try have hp1 := hp1.up hle2); (try have hr1 := hr1.up hle2); (try have hb1 := hb1.up hle2); (try have hp2 := hp2.up hle2); (try have hc2 := hc2.up hle2); (try have he21 := he21.up hle2); (try have he22 := he22.up hle2); (try have he23 := he23.up hle2); (try have he24 := he24.up hle2); (try have he25 := he25.up hle2); (try have he1 := he1.up hle2); (try have he2 := he2.up hle2); (try have hls := hls.up hle2); (try have hlsB := hlsB.up hle2))
         all_goals (refine ZaI ?_; refine zb3 [_, _, _, _, _, _, _, _, _, _, _, _] ?_; refine ZaR ?_; intro p9 w1 hS; refine ZaK ?_; refine zsn hS ?_; intro w1 hS; have hS := hS.ns; refine Zaw ?_; exact ⟨_, a3, n3, p9, zh, zh, hJ10, by assumption, hS.sp⟩)
       · skip
         all_goals (refine zC [(0, none), (1, none), (2, none), (3, none), (5, none), (6, none), (8, some (some [1, 3, 6])), (4, some (some [1, 6])), (7, none), (9, some none)] ?_; have hS := hS.drew; refine s_cq ?_; refine zf0 ?_; refine Zab ?_; refine zl hS ?_; refine Zab ?_; refine zf0 ?_; refine Zab ?_; refine zl hS ?_; refine Zab ?_; refine zf0 ?_; refine Zab ?_; refine zv hS ?_; refine ZaR ?_; intro p9 w1 hS; refine ZaD ?_)
         all_goals (refine zR1 (c := Q3D hsb.1.1 hsb.1.2 hp2 hS) (h := ?_); rintro v1 w1 ⟨c3, hle2, hk3, hS⟩; obtain ⟨a3, n3, rfl⟩ := Rep.SR.shape hk3; (try have hle := hle.trans hle2); (try have hL0 := hL0.trans hle2); (try have hL1 := hL1.trans hle2); (try have hJ6 := hJ6.trans hle2); (try have hJ10 := hJ10.trans hle2); (try have hf := hf.up hle2); (try have hk1 := hk1.up hle2); (try have hk2 := hk2.up hle2); (try have hp1 := hp1.up hle2); (try have hr1 := hr1.up hle2); (try have hb1 := hb1.up hle2); (try have hp2 := hp2.up hle2); (try have hc2 := hc2.up hle2); (try have he21 := he21.up hle2); (try have he22 := he22.up hle2); (try have he23 := he23.up hle2); (try have he24 := he24.up hle2); (try have he25 := he25.up hle2); (try have he1 := he1.up hle2); (try have he2 := he2.up hle2); (try have hls := hls.up hle2); (try have hlsB := hlsB.up hle2))
         all_goals (refine ZaI ?_; refine zb3 [_, _, _, _, _, _, _, _, _, _, _, _] ?_; refine Zax ?_; refine zsn hS ?_; intro w1 hS; have hS := hS.ns; refine Zaw ?_; exact ⟨_, a3, n3, p9, zh, zh, hJ10, by assumption, hS.sp⟩)
     rintro ρ w1 ⟨k10, a3, n3, p9, hA, hρ, hle2, hk3, hS⟩; obtain ⟨ρ, rfl⟩ := env2 hA hρ; (try have hle := hle.trans hle2); (try have hL0 := hL0.trans hle2); (try have hL1 := hL1.trans hle2); (try have hJ6 := hJ6.trans hle2); (try have hJ10 := hJ10.trans hle2); (try have hf := hf.up hle2); (try have hk1 := hk1.up hle2); (try have hk2 := hk2.up hle2); (try have hp1 := hp1.up hle2); (try have hr1 := hr1.up hle2); (try have hb1 := hb1.up hle2); (try have hp2 := hp2.up hle2); (try have hc2 := hc2.up hle2); (try have he21 := he21.up hle2); (try have he22 := he22.up hle2); (try have he23 := he23.up hle2); (try have he24 := he24.up hle2); (try have he25 := he25.up hle2); (try have he1 := he1.up hle2); (try have he2 := he2.up hle2); (try have hls := hls.up hle2); (try have hlsB := hlsB.up hle2)
     all_goals (refine Qb ?_; refine zC [(0, none), (1, none), (2, none), (4, none), (5, none), (6, none), (8, none), (9, none), (10, none), (3, some (some [6, 10])), (12, none), (13, none), (7, some (some [10])), (11, some (some [])), (14, some none), (15, none), (16, none), (17, some none), (18, none), (19, none), (20, some none)] ?_; have hS := hS.drew; refine s_cq ?_; refine zf0 ?_; refine ZaU ?_; refine zv hS ?_; refine Zab ?_; refine zf0 ?_; refine ZaU ?_; refine zv hS ?_; refine Zab ?_; refine zf0 ?_; refine ZaU ?_; refine zl hS ?_; refine Zar ?_)
     all_goals (refine zR1 (c := Q9V (x := x2.fin.yes) (by have := hsb.2.2.2.1.1; omega) (by have := hsb.2.2.2.1.2; omega) ⟨_, _, rfl, he21, he22⟩ hS) (h := ?_); rintro v1 w1 ⟨c7, ds, rfl, hle2, hk7, hS⟩; obtain ⟨y1, y2, rfl, hy1, hy2⟩ := Q2u hk7; obtain ⟨a7, n7, rfl⟩ := Rep.SR.shape hy1; obtain ⟨a8, n8, rfl⟩ := Rep.SR.shape hy2; (try have hle := hle.trans hle2); (try have hL0 := hL0.trans hle2); (try have hL1 := hL1.trans hle2); (try have hJ6 := hJ6.trans hle2); (try have hJ10 := hJ10.trans hle2); (try have hf := hf.up hle2); (try have hk1 := hk1.up hle2); (try have hk2 := hk2.up hle2); (try have hk3 := hk3.up hle2); (try have hp1 := hp1.up hle2); (try have hr1 := hr1.up hle2); (try have hb1 := hb1.up hle2); (try have hp2 := hp2.up hle2); (try have hc2 := hc2.up hle2); (try have he21 := he21.up hle2); (try have he22 := he22.up hle2); (try have he23 := he23.up hle2); (try have he24 := he24.up hle2); (try have he25 := he25.up hle2); (try have he1 := he1.up hle2); (try have he2 := he2.up hle2); (try have hls := hls.up hle2); (try have hlsB := hlsB.up hle2))
     all_goals (refine ZaI ?_; refine zf0 ?_; refine Zap ?_; refine Zar ?_)
     all_goals (refine zR1 (c := Q9V (x := x2.fin.no) (by have := hsb.2.2.2.2.1.1; omega) (by have := hsb.2.2.2.2.1.2; omega) ⟨_, _, rfl, he23, he24⟩ hS) (h := ?_); rintro v1 w1 ⟨c8, ds, rfl, hle2, hk8, hS⟩; obtain ⟨z1, z2, rfl, hz1, hz2⟩ := Q2u hk8; obtain ⟨a9, n9, rfl⟩ := Rep.SR.shape hz1; obtain ⟨a10, n10, rfl⟩ := Rep.SR.shape hz2; (try have hle := hle.trans hle2); (try have hL0 := hL0.trans hle2); (try have hL1 := hL1.trans hle2); (try have hJ6 := hJ6.trans hle2); (try have hJ10 := hJ10.trans hle2); (try have hf := hf.up hle2); (try have hk1 := hk1.up hle2); (try have hk2 := hk2.up hle2); (try have hk3 := hk3.up hle2); (try have hk7 := hk7.up hle2); (try have hp1 := hp1.up hle2); (try have hr1 := hr1.up hle2); (try have hb1 := hb1.up hle2); (try have hp2 := hp2.up hle2); (try have hc2 := hc2.up hle2); (try have he21 := he21.up hle2); (try have he22 := he22.up hle2); (try have he23 := he23.up hle2); (try have he24 := he24.up hle2); (try have he25 := he25.up hle2); (try have he1 := he1.up hle2); (try have he2 := he2.up hle2); (try have hls := hls.up hle2); (try have hy1 := hy1.up hle2); (try have hy2 := hy2.up hle2); (try have hlsB := hlsB.up hle2))
     all_goals (refine ZaD ?_)
     all_goals (refine zR1 (c := Q4E (by have := hsb.2.2.2.2.2; omega) he25 hS) (h := ?_); rintro v1 w1 ⟨c9, hle2, hw1, hS⟩; obtain ⟨a11, n11, rfl⟩ := Rep.SR.shape hw1; (try have hle := hle.trans hle2); (try have hL0 := hL0.trans hle2); (try have hL1 := hL1.trans hle2); (try have hJ6 := hJ6.trans hle2); (try have hJ10 := hJ10.trans hle2); (try have hf := hf.up hle2); (try have hk1 := hk1.up hle2); (try have hk2 := hk2.up hle2); (try have hk3 := hk3.up hle2); (try have hk7 := hk7.up hle2); (try have hk8 := hk8.up hle2); (try have hp1 := hp1.up hle2); (try have hr1 := hr1.up hle2); (try have hb1 := hb1.up hle2); (try have hp2 := hp2.up hle2); (try have hc2 := hc2.up hle2); (try have he21 := he21.up hle2); (try have he22 := he22.up hle2); (try have he23 := he23.up hle2); (try have he24 := he24.up hle2); (try have he25 := he25.up hle2); (try have he1 := he1.up hle2); (try have he2 := he2.up hle2); (try have hls := hls.up hle2); (try have hy1 := hy1.up hle2); (try have hy2 := hy2.up hle2); (try have hz1 := hz1.up hle2); (try have hz2 := hz2.up hle2); (try have hlsB := hlsB.up hle2))
     all_goals (refine ZaK ?_; (first | (refine zsn hS ?_; intro w1 hS; have hS := hS.ns) | (refine zsm hS ?_; intro w1 hS; have hS := hS.ns)); refine Zab ?_; refine zf0 ?_; refine ZbP ?_; (first | (refine zsn hS ?_; intro w1 hS; have hS := hS.ns) | (refine zsm hS ?_; intro w1 hS; have hS := hS.ns)); refine Zab ?_; refine zf0 ?_; refine ZbP ?_; refine zst hS ?_; intro w1 hS; have hS := hS.ns; refine Zaw ?_; refine Zav ?_; refine zf0 ?_; refine zl hS ?_; refine zL ?_; refine ZaC ?_)
     refine zo [2, 3, 6, 9, 13, 14, 15, 29, 30, 31, 62, 63] (fun A ρ' w' => ∃ (k2 : Cx) (k : Nat) (uc : Value) (cssC : List (List Value)), Has ρ' A ∧ Has ρ' [(64, .int .i64 k)] ∧ (c9.Le k2) ∧ (k ≤ x2.code.length) ∧ (insR.ls k2 cssC (x2.code.take k)) ∧ (oneC uc = true) ∧ St k2 w' (sl 84 8 uc cssC :: blk p9 92 [.int .i64 x2.regs, .slice a3 x2.params.length n3, uc, .int .i64 x2.fin.op, .int .i64 x2.fin.a, .int .i64 x2.fin.yes.block, .slice a7 x2.fin.yes.regs.length n7, .slice a8 x2.fin.yes.args.length n8, .int .i64 x2.fin.no.block, .slice a9 x2.fin.no.regs.length n9, .slice a10 x2.fin.no.args.length n10, .slice a11 x2.fin.args.length n11] :: blk p8 92 [.int .i64 x2.regs, vp2, vc2, .int .i64 x2.fin.op, .int .i64 x2.fin.a, .int .i64 x2.fin.yes.block, ve21, ve22, .int .i64 x2.fin.no.block, ve23, ve24, ve25] :: sl 92 12 ub cssB :: blk p6 95 [.int .i64 x1.regs, .slice a1 x1.params.length n1, .slice a2 x1.results.length n2, ub] :: blk p5 95 [.int .i64 x1.regs, vp1, vr1, vb1] :: sl 95 4 u css :: blk p3 24 [u] :: blk p2 24 [.slice none 0 0] :: blk p1 24 [vf] :: L)) (fun ρ' _ => (x2.code.length - iv (ρ' 64)).toNat) ?_ ?_
     · exact ⟨c9, 0, .slice none 0 0, [], zh, zh, St.refl hS, (by omega), Rep.LR.nil _ _ _, rfl, by have hS := hS.nil (T := 84) (es := 8); exact hS.sp⟩
     rintro ρ w1 ⟨k2, k, uc, cssC, hA, hρ, hle2, hkk, hlsC, huc, hS⟩; obtain ⟨ρ, rfl⟩ := env2 hA hρ; have hL2 := hle2; (try have hle := hle.trans hle2); (try have hL0 := hL0.trans hle2); (try have hL1 := hL1.trans hle2); (try have hJ6 := hJ6.trans hle2); (try have hJ10 := hJ10.trans hle2); (try have hf := hf.up hle2); (try have hk1 := hk1.up hle2); (try have hk2 := hk2.up hle2); (try have hk3 := hk3.up hle2); (try have hk7 := hk7.up hle2); (try have hk8 := hk8.up hle2); (try have hp1 := hp1.up hle2); (try have hr1 := hr1.up hle2); (try have hb1 := hb1.up hle2); (try have hp2 := hp2.up hle2); (try have hc2 := hc2.up hle2); (try have he21 := he21.up hle2); (try have he22 := he22.up hle2); (try have he23 := he23.up hle2); (try have he24 := he24.up hle2); (try have he25 := he25.up hle2); (try have he1 := he1.up hle2); (try have he2 := he2.up hle2); (try have hls := hls.up hle2); (try have hy1 := hy1.up hle2); (try have hy2 := hy2.up hle2); (try have hz1 := hz1.up hle2); (try have hz2 := hz2.up hle2); (try have hw1 := hw1.up hle2); (try have hlsB := hlsB.up hle2)
     all_goals (refine ZbH ?_)
     refine Qt rfl (fun hc => ?_) (fun hc => ?_)
     · skip
       all_goals (refine Zbn ?_; refine zi ?_; intro b3 o3 cs3 x3 hat3 hx3 he3; obtain ⟨vr3, va3, rfl, hr3, ha3⟩ := Q1a he3; refine Zas ?_; intro p11 w1 hS; refine zsn hS ?_; intro w1 hS; have hS := hS.ns; refine ZaZ ?_; have hsi := hsb.2.2.1 x3 (List.mem_of_getElem? hx3); refine zC [(0, none), (1, none), (3, none), (4, none), (2, some (some [4])), (6, none), (5, some (some [])), (7, some none), (8, none), (9, some none)] ?_; have hS := hS.drew; refine s_cq ?_; refine zf0 ?_; refine Zab ?_; refine zl hS ?_; refine Zab ?_; refine zf0 ?_; refine Zab ?_; refine zl hS ?_; refine Zar ?_)
       all_goals (refine zR1 (c := Q4E (by have := hsi.1; omega) hr3 hS) (h := ?_); rintro v1 w1 ⟨c4, hle2, hk4, hS⟩; obtain ⟨a4, n4, rfl⟩ := Rep.SR.shape hk4; (try have hle := hle.trans hle2); (try have hL0 := hL0.trans hle2); (try have hL1 := hL1.trans hle2); (try have hL2 := hL2.trans hle2); (try have hJ6 := hJ6.trans hle2); (try have hJ10 := hJ10.trans hle2); (try have hf := hf.up hle2); (try have hk1 := hk1.up hle2); (try have hk2 := hk2.up hle2); (try have hk3 := hk3.up hle2); (try have hk7 := hk7.up hle2); (try have hk8 := hk8.up hle2); (try have hp1 := hp1.up hle2); (try have hr1 := hr1.up hle2); (try have hb1 := hb1.up hle2); (try have hp2 := hp2.up hle2); (try have hc2 := hc2.up hle2); (try have he21 := he21.up hle2); (try have he22 := he22.up hle2); (try have he23 := he23.up hle2); (try have he24 := he24.up hle2); (try have he25 := he25.up hle2); (try have hr3 := hr3.up hle2); (try have ha3 := ha3.up hle2); (try have he1 := he1.up hle2); (try have he2 := he2.up hle2); (try have he3 := he3.up hle2); (try have hls := hls.up hle2); (try have hy1 := hy1.up hle2); (try have hy2 := hy2.up hle2); (try have hz1 := hz1.up hle2); (try have hz2 := hz2.up hle2); (try have hw1 := hw1.up hle2); (try have hlsB := hlsB.up hle2); (try have hlsC := hlsC.up hle2))
       all_goals (refine ZaI ?_; refine zf0 ?_; refine Zar ?_)
       all_goals (refine zR1 (c := Q4E (by have := hsi.2; omega) ha3 hS) (h := ?_); rintro v1 w1 ⟨c5, hle2, hk5, hS⟩; obtain ⟨a5, n5, rfl⟩ := Rep.SR.shape hk5; (try have hle := hle.trans hle2); (try have hL0 := hL0.trans hle2); (try have hL1 := hL1.trans hle2); (try have hL2 := hL2.trans hle2); (try have hJ6 := hJ6.trans hle2); (try have hJ10 := hJ10.trans hle2); (try have hf := hf.up hle2); (try have hk1 := hk1.up hle2); (try have hk2 := hk2.up hle2); (try have hk3 := hk3.up hle2); (try have hk4 := hk4.up hle2); (try have hk7 := hk7.up hle2); (try have hk8 := hk8.up hle2); (try have hp1 := hp1.up hle2); (try have hr1 := hr1.up hle2); (try have hb1 := hb1.up hle2); (try have hp2 := hp2.up hle2); (try have hc2 := hc2.up hle2); (try have he21 := he21.up hle2); (try have he22 := he22.up hle2); (try have he23 := he23.up hle2); (try have he24 := he24.up hle2); (try have he25 := he25.up hle2); (try have hr3 := hr3.up hle2); (try have ha3 := ha3.up hle2); (try have he1 := he1.up hle2); (try have he2 := he2.up hle2); (try have he3 := he3.up hle2); (try have hls := hls.up hle2); (try have hy1 := hy1.up hle2); (try have hy2 := hy2.up hle2); (try have hz1 := hz1.up hle2); (try have hz2 := hz2.up hle2); (try have hw1 := hw1.up hle2); (try have hlsB := hlsB.up hle2); (try have hlsC := hlsC.up hle2))
       all_goals (refine ZaK ?_; refine zst hS ?_; intro w1 hS; have hS := hS.ns; refine Zab ?_; refine zf0 ?_; refine Zax ?_; refine zst hS ?_; intro w1 hS; have hS := hS.ns; refine Zaw ?_; have hk9 : insR.at c5 _ x3 := ⟨_, _, rfl, hk4, hk5⟩; refine Qn ?_; refine zf0 ?_; refine zl hS ?_; refine zv hS ?_; refine zB1 hS [_, _, _, _, _, _, _, _] ?_; intro b1 w1 hS; refine za el_T85 u_T85 hS ?_; intro vp1 w1 css1 hls1 hv1 hS; have hS := hS.ns; refine zf0 ?_; refine zst hS ?_; intro w1 hS; have hS := hS.ns; refine zn ?_; refine Qn ?_; refine zad ?_; refine Zac ?_; exact ⟨⟨_, k + 1, _, _, zh, zh, hL2, (by omega), by rw [Q28 hx3]; assumption, by assumption, hS.sp⟩, Qu (by omega)⟩)
     · skip
       all_goals (refine zex ?_)
       all_goals (obtain ⟨c6, hle2, hS, hk6⟩ := St.freezeL (r := insR) (l := x2.code) hS (by rw [List.take_of_length_le (by omega)] at hlsC; exact hlsC) rfl (by have := hsb.2.1; omega); obtain ⟨a6, n6, rfl⟩ := Rep.SR.shape hk6; (try have hle := hle.trans hle2); (try have hL0 := hL0.trans hle2); (try have hL1 := hL1.trans hle2); (try have hL2 := hL2.trans hle2); (try have hJ6 := hJ6.trans hle2); (try have hJ10 := hJ10.trans hle2); (try have hf := hf.up hle2); (try have hk1 := hk1.up hle2); (try have hk2 := hk2.up hle2); (try have hk3 := hk3.up hle2); (try have hk7 := hk7.up hle2); (try have hk8 := hk8.up hle2); (try have hp1 := hp1.up hle2); (try have hr1 := hr1.up hle2); (try have hb1 := hb1.up hle2); (try have hp2 := hp2.up hle2); (try have hc2 := hc2.up hle2); (try have he21 := he21.up hle2); (try have he22 := he22.up hle2); (try have he23 := he23.up hle2); (try have he24 := he24.up hle2); (try have he25 := he25.up hle2); (try have he1 := he1.up hle2); (try have he2 := he2.up hle2); (try have hls := hls.up hle2); (try have hy1 := hy1.up hle2); (try have hy2 := hy2.up hle2); (try have hz1 := hz1.up hle2); (try have hz2 := hz2.up hle2); (try have hw1 := hw1.up hle2); (try have hlsB := hlsB.up hle2); (try have hlsC := hlsC.up hle2))
       all_goals (have hk9 : blockR.at c6 _ x2 := Q4X (x := x2) hk3 hk6 hy1 hy2 hz1 hz2 hw1; refine Qn ?_; refine zf0 ?_; refine zl hS ?_; refine zv hS ?_; refine zB1 hS [_, _, _, _, _, _, _, _, _, _, _, _] ?_; intro b1 w1 hS; refine za el_T93 u_T93 hS ?_; intro vp2 w2 css2 hls2 hv2 hS; have hS := hS.ns; refine zf0 ?_; refine zst hS ?_; intro w1 hS; have hS := hS.ns; refine zn ?_; refine Qn ?_; refine zad ?_; refine Zac ?_; exact ⟨⟨_, i + 1, _, _, zh, zh, hL1, (by omega), by rw [Q28 hx2]; assumption, by assumption, hS.sp⟩, Qu (by omega)⟩)
   · skip
     all_goals (refine zex ?_)
     all_goals (obtain ⟨c10, hle2, hS, hk6⟩ := St.freezeL (r := blockR) (l := x1.blocks) hS (by rw [List.take_of_length_le (by omega)] at hlsB; exact hlsB) rfl (by have := hsh.2.2.1; omega); obtain ⟨a6, n6, rfl⟩ := Rep.SR.shape hk6; (try have hle := hle.trans hle2); (try have hL0 := hL0.trans hle2); (try have hL1 := hL1.trans hle2); (try have hJ6 := hJ6.trans hle2); (try have hf := hf.up hle2); (try have hk1 := hk1.up hle2); (try have hk2 := hk2.up hle2); (try have hp1 := hp1.up hle2); (try have hr1 := hr1.up hle2); (try have hb1 := hb1.up hle2); (try have he1 := he1.up hle2); (try have hls := hls.up hle2); (try have hlsB := hlsB.up hle2))
     all_goals (have hk9 : funcR.at c10 _ x1 := ⟨_, _, _, rfl, hk1, hk2, hk6⟩; refine Qn ?_; refine zf0 ?_; refine zl hS ?_; refine zv hS ?_; refine zB1 hS [_, _, _, _] ?_; intro b1 w1 hS; refine za el_T22 u_T22 hS ?_; intro vp3 w3 css3 hls3 hv3 hS; have hS := hS.ns; refine zf0 ?_; refine zst hS ?_; intro w1 hS; have hS := hS.ns; refine zn ?_; refine Qn ?_; refine zad ?_; refine Zac ?_; exact ⟨⟨_, j + 1, _, _, zh, zh, hL0, (by omega), by rw [Q28 hx1]; assumption, by assumption, hS.sp⟩, Qu (by omega)⟩)
 · skip
   all_goals (refine zex ?_)
   all_goals (obtain ⟨c11, hle2, hS, hk6⟩ := St.freezeL (r := funcR) (l := l) hS (by rw [List.take_of_length_le (by omega)] at hls; exact hls) rfl (by omega); obtain ⟨a6, n6, rfl⟩ := Rep.SR.shape hk6; (try have hle := hle.trans hle2); (try have hL0 := hL0.trans hle2); (try have hf := hf.up hle2); (try have hls := hls.up hle2))
   all_goals (refine Zaa ?_; refine zv hS ?_; refine zsn hS ?_; intro w1 hS; have hS := hS.ns; refine ZaX ?_; refine Q19 vw (Q4 (n := 1) (by kernel_rfl) (by kernel_rfl) (hS.blkAt fd) (by rfl) (by rfl)) ?_; exact ⟨_, rfl, c11, _, rfl, hle, ⟨_, rfl, hk6⟩, hS.sp⟩)
end Go.Proofs.YteflkifmgnpbhaaGreat
namespace Go.Lir
def Q1Y (m : Module) (inp : List Int) (fuel pages : Int) : Flt := if m.fault.1 ≠ 0 then m.fault else if 200 < inp.length ∨ fuel < 0 ∨ 20000 < fuel ∨ pages < 0 ∨ 64 < pages then (1, -1) else (0, 0)
theorem Q1W {m : Module} {inp : List Int} {fuel pages : Int} (h : m.fault.1 ≠ 0) : Q1Y m inp fuel pages = m.fault := if_pos h
theorem Q2p {m : Module} {inp : List Int} {fuel pages : Int} (h : ¬ m.fault.1 ≠ 0) (hr : 200 < inp.length ∨ fuel < 0 ∨ 20000 < fuel ∨ pages < 0 ∨ 64 < pages) : Q1Y m inp fuel pages = (1, -1) := (if_neg h).trans (if_pos hr)
theorem Q5M {m : Module} {inp : List Int} {fuel pages : Int} (h : ¬ m.fault.1 ≠ 0) (hr : ¬ (200 < inp.length ∨ fuel < 0 ∨ 20000 < fuel ∨ pages < 0 ∨ 64 < pages)) : Q1Y m inp fuel pages = (0, 0) := (if_neg h).trans (if_neg hr)
end Go.Lir
namespace Go.Proofs.YteflkifmgnpbhaaGreat
open Go.Lir
set_option maxHeartbeats 1000000
attribute [local irreducible] LC.wp Q0 QF QE retQ Q16 LO.wp Qf Calls
set_option linter.unusedSimpArgs false
set_option linter.unusedVariables false
variable {cx : Cx} {w : World} {L : List Res} {m : Module} {inp : List Int}
@[reducible] def newC (hp fn lv iv : Value) (fuel : Int) : MC := ⟨hp, fn, lv, iv, 0, .slice none 0 0, .slice none 0 0, 0, fuel, false, 0, 0⟩
@[reducible] def newG : FrmV := ⟨0, 0, 0, .slice none 0 0, [], .slice none 0 0, []⟩
def NewS (m : Module) (inp : List Int) (fuel pages : Int) (cx : Cx) (L : List Res) (u : Value) (w' : World) : Prop :=
 ((Q1Y m inp fuel pages).1 ≠ 0 ∧ u = .tuple #[.pointer none, fltV (Q1Y m inp fuel pages)] ∧ St cx w' L) ∨
 (Q1Y m inp fuel pages = (0, 0) ∧ m.fault.1 = 0 ∧ inp.length ≤ 200 ∧ 0 ≤ fuel ∧ fuel ≤ 20000 ∧ 0 ≤ pages ∧ pages ≤ 64 ∧ ∃ c' p hp fn lv iv, u = .tuple #[.pointer (some ⟨p, 0, none⟩), fltV (0, 0)] ∧ cx.Le c' ∧ funcR.sl c' fn m.funcs ∧ intR.sl c' iv inp ∧ St c' w' (mS p (newC hp fn lv iv fuel) [] newG 0 ⟨[], pages⟩ [] L))
theorem new_c {cs : List Value} {v : Value} {fuel pages : Int} (hsh : m.Short) (hx : modR.at cx cs m) (hi : intR.sl cx v inp) (hS : St cx w L) :
 Rets Tryz.prog Qce [.agg ⟨cs⟩, v, .int .i64 fuel, .int .i64 pages] w (NewS m inp fuel pages cx L) := by
 have hle := St.refl hS
 have hx' := hx
 obtain ⟨vf, rfl, hf⟩ := Q1k hx
 have hil := hi.len
 unfold NewS
 all_goals refine lgo tyD Tryz.func20 ?_
 all_goals (refine Zaz ?_; intro p4 w1 hS; refine zm ?_; refine Qg hS ?_; intro p9 w1 hS; refine ZbT ?_; refine zv hS ?_; refine zR1 (c := pcheck_c hsh hx' hS) (h := ?_); rintro v1 w1 ⟨rfl, hS⟩; unfold fltV; refine Qg hS ?_; intro p10 w1 hS; refine zsn hS ?_; intro w1 hS; have hS := hS.ns; refine ZaS ?_; refine zf0 ?_; refine zl hS ?_)
 all_goals (first | (refine QC ?_) | (refine QJ ?_) | (refine Qj rfl rfl (fun hc => ?_) (fun hc => ?_)))
 all_goals (refine zn ?_)
 all_goals
  first
  | (refine zct ?_
     all_goals (refine Qb ?_; refine zD (ci 3 [2]) ?_; have hS := hS.drew; refine zv hS ?_; refine zm ?_; refine zsn hS ?_; intro w1 hS; have hS := hS.ns; refine ZaX ?_; refine Q57 vw vw (Q4 (n := 2) (by kernel_rfl) (by kernel_rfl) (hS.blkAt fd) (by rfl) (by rfl)) ?_)
     all_goals (exact ⟨_, rfl, .inl ⟨by rw [Q1W (by omega)]; omega, by rw [Q1W (by omega)]; rfl, hS.sp⟩⟩))
  | (refine zcf ?_
     all_goals refine zsk ?_)
 all_goals (refine ZaA ?_; refine zL ?_)
 all_goals (first | (refine QG ?_) | (refine QL ?_) | (refine Qc rfl rfl (fun hc => ?_) (fun hc => ?_)))
 all_goals (refine zm ?_; (first | refine zgn ?_ | (refine Zam ?_)))
 all_goals (first | refine zgn ?_ | (refine zgy ?_; (first | (refine Q1c ?_) | (refine Q1l ?_) | (refine QB rfl rfl (fun hc => ?_) (fun hc => ?_)))))
 all_goals (refine Zai ?_; (first | refine zgn ?_ | (refine Zam ?_)))
 all_goals (first | refine zgn ?_ | (refine zgy ?_; (first | (refine QG ?_) | (refine QL ?_) | (refine Qc rfl rfl (fun hc => ?_) (fun hc => ?_)))))
 all_goals (refine Zai ?_; (first | refine zgn ?_ | (refine Zam ?_)))
 all_goals (first | refine zgn ?_ | (refine zgy ?_; (first | (refine Q1c ?_) | (refine Q1l ?_) | (refine QB rfl rfl (fun hc => ?_) (fun hc => ?_)))))
 all_goals (refine Zai ?_; (first | refine zgn ?_ | (refine Zam ?_)))
 all_goals (first | refine zgn ?_ | (refine zgy ?_; (first | (refine QG ?_) | (refine QL ?_) | (refine Qc rfl rfl (fun hc => ?_) (fun hc => ?_)))))
 all_goals (refine Zaf ?_)
 all_goals
  first
  | (refine zct ?_
     all_goals (refine Zaa ?_; refine zb2 [_, _] ?_; refine zm ?_; refine zsn hS ?_; intro w1 hS; have hS := hS.ns; refine ZaX ?_; refine Q57 vw vw (Q4 (n := 2) (by kernel_rfl) (by kernel_rfl) (hS.blkAt fd) (by rfl) (by rfl)) ?_)
     all_goals ((first | exact ⟨_, rfl, .inl ⟨by rw [Q1W (by omega)]; omega, by rw [Q1W (by omega)]; rfl, hS.sp⟩⟩ | exact ⟨_, rfl, .inl ⟨by rw [Q2p (by omega) (by omega)]; decide, by rw [Q2p (by omega) (by omega)]; rfl, hS.sp⟩⟩)))
  | (refine zcf ?_
     all_goals refine zsk ?_)
 all_goals (refine Qb ?_)
 refine Q1p 1 5 (by kernel_rfl) ?_ ?_
 · skip
   refine Q1p 3 5 (by kernel_rfl) ?_ ?_
   · skip
     refine Q1p 5 7 (by kernel_rfl) ?_ ?_
     · skip
       all_goals (refine zC [(0, none), (2, none), (4, none), (6, none), (8, none), (11, none), (1, some (some [2])), (3, some (some [])), (5, some (some [])), (7, some (some [])), (9, none), (10, some (some [])), (12, none), (13, some none)] ?_; have hS := hS.drew; refine ZaF ?_; refine zv hS ?_; refine Zab ?_; refine zb0 [_, _, _, _, _] ?_; refine Zat ?_; refine Zal ?_; refine zb0 [_, _] ?_; refine Zar ?_; refine zR1 (c := Qa4 pages (by omega) hS) (h := ?_); rintro v1 w1 ⟨bh, rfl, hS⟩; refine ZaD ?_; refine zR1 (c := Q4D hsh hx' hS) (h := ?_); rintro v1 w1 ⟨c1, ds, rfl, hle1, hx1, hS⟩; obtain ⟨vf1, rfl, hf1⟩ := Q1k hx1; have hi := Rep.SR.up hi hle1; obtain ⟨af, nf, rfl⟩ := Rep.SR.shape hf1; refine ZaD ?_; refine zB1 hS [_, _, _, _, _] ?_; intro b1 w1 hS; have hS := St.slOf (T := 110) (es := 5) (css := [[.int .i64 0, .int .i64 0, .int .i64 0, .slice none 0 0, .slice none 0 0]]) hS rfl (by simp) rfl; refine ZaD ?_; refine zR1 (c := Q3a (by omega) hi hS) (h := ?_); rintro vi w1 ⟨c2, hle2, hi2, hS⟩; have hf1 := Rep.SR.up hf1 hle2; obtain ⟨ai, ni, rfl⟩ := Rep.SR.shape hi2; refine ZaI ?_; refine zb5 [_, _, _, _, _, _, _, _, _, _, _, _] ?_)
       all_goals (refine Zar ?_; refine zb hS ?_; intro p47 w1 hS; refine ZaI ?_; refine zm ?_; refine Zax ?_; refine zsn hS ?_; intro w1 hS; have hS := hS.ns; refine Zaw ?_; refine zr ?_; refine Q57 vw vw (Q4 (n := 2) (by kernel_rfl) (by kernel_rfl) (hS.blkAt fd) (by rfl) (by rfl)) ?_; (first | exact ⟨_, rfl, .inl ⟨by rw [Q1W (by omega)]; omega, by rw [Q1W (by omega)]; rfl, hS.sp⟩⟩ | exact ⟨_, rfl, .inl ⟨by rw [Q2p (by omega) (by omega)]; decide, by rw [Q2p (by omega) (by omega)]; rfl, hS.sp⟩⟩ | (have hS := St.big_nil FrmV.res (St.nil (T := 224) (es := 4) (St.nil (T := 3) (es := 1) (St.nil (T := 2) (es := 1) hS))); exact ⟨_, rfl, .inr ⟨Q5M (by omega) (by omega), by omega, by omega, by omega, by omega, by omega, by omega, c2, _, _, _, _, _, rfl, hle1.trans hle2, hf1, hi2, hS.sp⟩⟩)))
     · skip
       all_goals (refine zC [(0, none), (2, none), (4, none), (6, none), (8, none), (11, none), (1, some (some [2])), (3, some (some [])), (7, some (some [])), (5, some (some [])), (9, none), (10, some (some [])), (12, none), (13, some none)] ?_; have hS := hS.drew; refine ZaF ?_; refine zv hS ?_; refine Zab ?_; refine zb0 [_, _, _, _, _] ?_; refine Zat ?_; refine Zal ?_; refine zb0 [_, _] ?_; refine Zar ?_; refine zR1 (c := Qa4 pages (by omega) hS) (h := ?_); rintro v1 w1 ⟨bh, rfl, hS⟩; refine ZaD ?_; refine zR1 (c := Q4D hsh hx' hS) (h := ?_); rintro v1 w1 ⟨c1, ds, rfl, hle1, hx1, hS⟩; obtain ⟨vf1, rfl, hf1⟩ := Q1k hx1; have hi := Rep.SR.up hi hle1; obtain ⟨af, nf, rfl⟩ := Rep.SR.shape hf1; refine ZaD ?_; refine zR1 (c := Q3a (by omega) hi hS) (h := ?_); rintro vi w1 ⟨c2, hle2, hi2, hS⟩; have hf1 := Rep.SR.up hf1 hle2; obtain ⟨ai, ni, rfl⟩ := Rep.SR.shape hi2; refine ZaD ?_; refine zB1 hS [_, _, _, _, _] ?_; intro b1 w1 hS; have hS := St.slOf (T := 110) (es := 5) (css := [[.int .i64 0, .int .i64 0, .int .i64 0, .slice none 0 0, .slice none 0 0]]) hS rfl (by simp) rfl; refine ZaI ?_; refine zb5 [_, _, _, _, _, _, _, _, _, _, _, _] ?_)
       all_goals (refine Zar ?_; refine zb hS ?_; intro p47 w1 hS; refine ZaI ?_; refine zm ?_; refine Zax ?_; refine zsn hS ?_; intro w1 hS; have hS := hS.ns; refine Zaw ?_; refine zr ?_; refine Q57 vw vw (Q4 (n := 2) (by kernel_rfl) (by kernel_rfl) (hS.blkAt fd) (by rfl) (by rfl)) ?_; (first | exact ⟨_, rfl, .inl ⟨by rw [Q1W (by omega)]; omega, by rw [Q1W (by omega)]; rfl, hS.sp⟩⟩ | exact ⟨_, rfl, .inl ⟨by rw [Q2p (by omega) (by omega)]; decide, by rw [Q2p (by omega) (by omega)]; rfl, hS.sp⟩⟩ | (have hS := St.big_nil FrmV.res (St.nil (T := 224) (es := 4) (St.nil (T := 3) (es := 1) (St.nil (T := 2) (es := 1) hS))); exact ⟨_, rfl, .inr ⟨Q5M (by omega) (by omega), by omega, by omega, by omega, by omega, by omega, by omega, c2, _, _, _, _, _, rfl, hle1.trans hle2, hf1, hi2, hS.sp⟩⟩)))
   · skip
     all_goals (refine zC [(0, none), (2, none), (4, none), (6, none), (8, none), (11, none), (1, some (some [2])), (5, some (some [2])), (3, some (some [])), (7, some (some [])), (9, none), (10, some (some [])), (12, none), (13, some none)] ?_; have hS := hS.drew; refine ZaF ?_; refine zv hS ?_; refine Zab ?_; refine zb0 [_, _, _, _, _] ?_; refine Zat ?_; refine Zal ?_; refine zb0 [_, _] ?_; refine Zar ?_; refine zR1 (c := Qa4 pages (by omega) hS) (h := ?_); rintro v1 w1 ⟨bh, rfl, hS⟩; refine ZaD ?_; refine zB1 hS [_, _, _, _, _] ?_; intro b1 w1 hS; have hS := St.slOf (T := 110) (es := 5) (css := [[.int .i64 0, .int .i64 0, .int .i64 0, .slice none 0 0, .slice none 0 0]]) hS rfl (by simp) rfl; refine ZaD ?_; refine zR1 (c := Q4D hsh hx' hS) (h := ?_); rintro v1 w1 ⟨c1, ds, rfl, hle1, hx1, hS⟩; obtain ⟨vf1, rfl, hf1⟩ := Q1k hx1; have hi := Rep.SR.up hi hle1; obtain ⟨af, nf, rfl⟩ := Rep.SR.shape hf1; refine ZaD ?_; refine zR1 (c := Q3a (by omega) hi hS) (h := ?_); rintro vi w1 ⟨c2, hle2, hi2, hS⟩; have hf1 := Rep.SR.up hf1 hle2; obtain ⟨ai, ni, rfl⟩ := Rep.SR.shape hi2; refine ZaI ?_; refine zb5 [_, _, _, _, _, _, _, _, _, _, _, _] ?_)
     all_goals (refine Zar ?_; refine zb hS ?_; intro p47 w1 hS; refine ZaI ?_; refine zm ?_; refine Zax ?_; refine zsn hS ?_; intro w1 hS; have hS := hS.ns; refine Zaw ?_; refine zr ?_; refine Q57 vw vw (Q4 (n := 2) (by kernel_rfl) (by kernel_rfl) (hS.blkAt fd) (by rfl) (by rfl)) ?_; (first | exact ⟨_, rfl, .inl ⟨by rw [Q1W (by omega)]; omega, by rw [Q1W (by omega)]; rfl, hS.sp⟩⟩ | exact ⟨_, rfl, .inl ⟨by rw [Q2p (by omega) (by omega)]; decide, by rw [Q2p (by omega) (by omega)]; rfl, hS.sp⟩⟩ | (have hS := St.big_nil FrmV.res (St.nil (T := 224) (es := 4) (St.nil (T := 3) (es := 1) (St.nil (T := 2) (es := 1) hS))); exact ⟨_, rfl, .inr ⟨Q5M (by omega) (by omega), by omega, by omega, by omega, by omega, by omega, by omega, c2, _, _, _, _, _, rfl, hle1.trans hle2, hf1, hi2, hS.sp⟩⟩)))
 · skip
   all_goals (refine zC [(0, none), (2, none), (4, none), (6, none), (8, none), (11, none), (5, some (some [2])), (1, some (some [2])), (3, some (some [])), (7, some (some [])), (9, none), (10, some (some [])), (12, none), (13, some none)] ?_; have hS := hS.drew; refine ZaF ?_; refine zv hS ?_; refine Zab ?_; refine zb0 [_, _, _, _, _] ?_; refine Zat ?_; refine Zal ?_; refine zb0 [_, _] ?_; refine Zar ?_; refine zB1 hS [_, _, _, _, _] ?_; intro b1 w1 hS; have hS := St.slOf (T := 110) (es := 5) (css := [[.int .i64 0, .int .i64 0, .int .i64 0, .slice none 0 0, .slice none 0 0]]) hS rfl (by simp) rfl; refine ZaD ?_; refine zR1 (c := Qa4 pages (by omega) hS) (h := ?_); rintro v1 w1 ⟨bh, rfl, hS⟩; refine ZaD ?_; refine zR1 (c := Q4D hsh hx' hS) (h := ?_); rintro v1 w1 ⟨c1, ds, rfl, hle1, hx1, hS⟩; obtain ⟨vf1, rfl, hf1⟩ := Q1k hx1; have hi := Rep.SR.up hi hle1; obtain ⟨af, nf, rfl⟩ := Rep.SR.shape hf1; refine ZaD ?_; refine zR1 (c := Q3a (by omega) hi hS) (h := ?_); rintro vi w1 ⟨c2, hle2, hi2, hS⟩; have hf1 := Rep.SR.up hf1 hle2; obtain ⟨ai, ni, rfl⟩ := Rep.SR.shape hi2; refine ZaI ?_; refine zb5 [_, _, _, _, _, _, _, _, _, _, _, _] ?_)
   all_goals (refine Zar ?_; refine zb hS ?_; intro p47 w1 hS; refine ZaI ?_; refine zm ?_; refine Zax ?_; refine zsn hS ?_; intro w1 hS; have hS := hS.ns; refine Zaw ?_; refine zr ?_; refine Q57 vw vw (Q4 (n := 2) (by kernel_rfl) (by kernel_rfl) (hS.blkAt fd) (by rfl) (by rfl)) ?_; (first | exact ⟨_, rfl, .inl ⟨by rw [Q1W (by omega)]; omega, by rw [Q1W (by omega)]; rfl, hS.sp⟩⟩ | exact ⟨_, rfl, .inl ⟨by rw [Q2p (by omega) (by omega)]; decide, by rw [Q2p (by omega) (by omega)]; rfl, hS.sp⟩⟩ | (have hS := St.big_nil FrmV.res (St.nil (T := 224) (es := 4) (St.nil (T := 3) (es := 1) (St.nil (T := 2) (es := 1) hS))); exact ⟨_, rfl, .inr ⟨Q5M (by omega) (by omega), by omega, by omega, by omega, by omega, by omega, by omega, c2, _, _, _, _, _, rfl, hle1.trans hle2, hf1, hi2, hS.sp⟩⟩)))
end Go.Proofs.YteflkifmgnpbhaaGreat
namespace Go.Lir
set_option linter.unusedVariables false
theorem Q6b {n : Nat} {x : Ins} (h : Q1g n x = 0) : Q1w n x = 0 := by
 unfold Q1g at h
 split at h
 · cases h
 · split at h
   · cases h
   · exact h
theorem insF_k {n : Nat} {x : Ins} (h : Q1g n x = 0) (ho : x.op = 14) : 0 ≤ x.k ∧ x.k < n := by
 have hk := Q6b h
 unfold Q1w at hk
 rw [if_neg (by omega), if_neg (by omega), if_neg (by omega), if_pos ho] at hk
 split at hk
 · cases hk
 · omega
theorem insF_t {n : Nat} {x : Ins} (h : Q1g n x = 0) (ho : x.op = 5) : x.args.length ≤ 8 := by
 have hk := Q6b h
 unfold Q1w at hk
 rw [if_neg (by omega), if_pos ho] at hk
 split at hk
 · cases hk
 · omega
theorem Q5c {n : Nat} {x : Ins} (h : Q1g n x = 0) : x.regs.length ≤ 16 ∧ x.args.length ≤ 8 := by
 have hk := Q6b h
 have ho : ¬ x.odd := by
  unfold Q1g at h
  split at h
  · cases h
  · split at h
    · cases h
    · assumption
 unfold Ins.odd at ho
 by_cases h14 : x.op = 14
 · unfold Q1w at hk
   rw [if_neg (by omega), if_neg (by omega), if_neg (by omega), if_pos h14] at hk
   split at hk
   · cases hk
   · split at hk
     · cases hk
     · omega
 · have g1 : fG x.op = false := by unfold fG; exact decide_eq_false h14
   have r0 : ¬ 0 < x.regs.length := fun hh => ho (.inr (.inr (.inr (.inr (.inr (.inl ⟨g1, hh⟩))))))
   by_cases h5 : x.op = 5
   · exact ⟨by omega, insF_t h h5⟩
   · have g2 : fR x.op = false := by unfold fR; exact decide_eq_false (by omega)
     have a0 : ¬ 0 < x.args.length := fun hh => ho (.inr (.inr (.inr (.inr (.inr (.inr ⟨g2, hh⟩))))))
     exact ⟨by omega, by omega⟩
theorem Q7W {n : Nat} {t : To} (h : Q1r n t true = 0) : t.regs.length ≤ 16 ∧ t.args.length ≤ 8 := by
 unfold Q1r at h
 rw [if_neg (by decide)] at h
 split at h
 · cases h
 · split at h
   · cases h
   · omega
theorem Q7y {n : Nat} {e : Tail} (h : Q1I n e = 0) : e.args.length ≤ 8 := by
 unfold Q1I at h
 split at h
 · cases h
 · split at h
   · cases h
   · split at h
     · cases h
     · omega
theorem Q3n {g : Frm} : ∀ {l : List Int} {vs : List Val}, g.args l = some vs → vs.length = l.length
 | [], _, h => by cases h; rfl
 | k :: l, vs, h => by
   rw [Frm.args] at h
   split at h
   · rename_i v vs' h1 h2
     cases h
     rw [List.length_cons, List.length_cons, Q3n h2]
   · cases h
theorem Q8W {g : Frm} : ∀ {l : List Int} {vs : List Int}, g.rgs l = some vs → vs.length = l.length
 | [], _, h => by cases h; rfl
 | k :: l, vs, h => by
   rw [Frm.rgs] at h
   split at h
   · rename_i v vs' h1 h2
     cases h
     rw [List.length_cons, List.length_cons, Q8W h2]
   · cases h
theorem Q6a : ∀ {l : List Val} {ns : List Int}, intsV l = some ns → ns.length = l.length
 | [], _, h => by cases h; rfl
 | v :: l, ns, h => by
   rw [intsV] at h
   split at h
   · cases h
   · rename_i ns' h1
     split at h
     · cases h
       rw [List.length_cons, List.length_cons, Q6a h1]
     · cases h
def Stp.All (P : MS → Prop) : Stp → Prop
 | .go s => P s
 | .done l => l.length ≤ 8
 | _ => True
theorem Stp.all_bind {α : Type} {P : MS → Prop} {x : Option α} {f : α → Stp} (h : ∀ a, x = some a → (f a).All P) : (Q1e x f).All P := by
 cases x with
 | none => exact trivial
 | some a => exact h a rfl
theorem Stp.all_if {P : MS → Prop} {c : Prop} [Decidable c] {a b : Stp} (h1 : c → a.All P) (h2 : ¬ c → b.All P) : (if c then a else b).All P := by
 by_cases hc : c
 · rw [if_pos hc]; exact h1 hc
 · rw [if_neg hc]; exact h2 hc
def FrB (m : Module) (k : Nat) (g : Frm) : Prop := ∃ f b, m.funcs[g.f]? = some f ∧ f.blocks[g.b]? = some b ∧ g.i ≤ b.code.length ∧ g.vals.length ≤ 8 + 8 * k ∧ g.regs.length ≤ 16 + k
structure Bnd (m : Module) (k : Nat) (s : MS) : Prop where
 cur : FrB m k s.g
 st : ∀ x ∈ s.st, FrB m k x
 sl : s.st.length ≤ 39
 out : s.out.length ≤ 2000
section
variable {m : Module} {k : Nat} {s : MS}
theorem FrB.up {g : Frm} (h : FrB m k g) : FrB m (k + 1) g := by
 obtain ⟨f, b, h1, h2, h3, h4, h5⟩ := h
 exact ⟨f, b, h1, h2, h3, by omega, by omega⟩
theorem FrB.more {g : Frm} (h : FrB m k g) {vs : List Val} {rs : List Int} (hv : vs.length ≤ 8) (hr : rs.length ≤ 1) : FrB m (k + 1) ⟨g.f, g.b, g.i, g.vals ++ vs, g.regs ++ rs⟩ := by
 obtain ⟨f, b, h1, h2, h3, h4, h5⟩ := h
 refine ⟨f, b, h1, h2, h3, ?_, ?_⟩
 · show (g.vals ++ vs).length ≤ _; rw [List.length_append]; omega
 · show (g.regs ++ rs).length ≤ _; rw [List.length_append]; omega
theorem Bnd.up (h : Bnd m k s) : Bnd m (k + 1) s := ⟨h.cur.up, fun x hx => (h.st x hx).up, h.sl, h.out⟩
theorem Bnd.put (h : Bnd m k s) {vs : List Val} (hv : vs.length ≤ 8) : Bnd m (k + 1) (s.put vs) := by
 refine ⟨?_, fun x hx => (h.st x hx).up, h.sl, h.out⟩
 have := h.cur.more (rs := []) hv (by simp)
 rw [List.append_nil] at this
 exact this
theorem Bnd.hp (h : Bnd m k s) (q : HpS) : Bnd m k (s.hp q) := ⟨h.cur, h.st, h.sl, h.out⟩
theorem Bnd.made (h : Bnd m k s) {e : Int} {q : HpS} {v : Val} : (s.made e q v).All (Bnd m (k + 1)) := by
 unfold MS.made
 exact Stp.all_if (fun _ => trivial) fun _ => Stp.all_if (fun _ => trivial) fun _ => (h.hp q).put (by simp)
theorem Q47 {P : MS → Prop} {v : Val} {e : Int} {r : Stp} (h : r.All P) : (Q3f v e r).All P := by
 unfold Q3f
 exact Stp.all_if (fun _ => trivial) fun _ => Stp.all_if (fun _ => trivial) fun _ => Stp.all_if (fun _ => trivial) fun _ => h
theorem Bnd.ins (h : Bnd m k s) (hM : m.fault.1 = 0) {x : Ins} (hx : Q1g m.funcs.length x = 0) : (s.ins m x).All (Bnd m (k + 1)) := by
 obtain ⟨q1, q2⟩ := Q5c hx
 have h1 : ∀ (v : Val) (t : MS), Bnd m k t → (Stp.go (t.put [v])).All (Bnd m (k + 1)) := fun v t ht => ht.put (by simp)
 have h2 : ∀ (q : HpS), (Stp.go (s.hp q)).All (Bnd m (k + 1)) := fun q => (h.hp q).up
 unfold MS.ins
 refine Stp.all_if (fun _ => h1 _ _ h) fun _ => Stp.all_if (fun _ => Stp.all_bind fun a _ => Stp.all_bind fun b _ => Stp.all_if (fun _ => trivial) fun _ => h1 _ _ h) fun _ => Stp.all_if (fun _ => ?_) fun _ =>
  Stp.all_if (fun _ => Stp.all_bind fun v _ => Stp.all_if (fun _ => trivial) fun _ => h2 _) fun _ => Stp.all_if (fun _ => Stp.all_bind fun v _ => Stp.all_bind fun l _ => h.made) fun _ =>
  Stp.all_if (fun _ => Stp.all_bind fun v _ => Stp.all_if (fun _ => trivial) fun _ => Stp.all_if (fun _ => trivial) fun _ => h1 _ _ h) fun _ =>
  Stp.all_if (fun _ => Stp.all_bind fun v _ => Stp.all_if (fun _ => trivial) fun _ => Stp.all_bind fun y _ => Stp.all_if (fun _ => trivial) fun _ => h2 _) fun _ =>
  Stp.all_if (fun _ => Stp.all_bind fun v _ => Stp.all_bind fun n _ => Stp.all_if (fun _ => trivial) fun _ => h.made) fun _ =>
  Stp.all_if (fun _ => Stp.all_bind fun v _ => Stp.all_bind fun n _ => Q47 (h1 _ _ h)) fun _ =>
  Stp.all_if (fun _ => Stp.all_bind fun v _ => Stp.all_bind fun n _ => Stp.all_bind fun c _ => Q47 (h2 _)) fun _ =>
  Stp.all_if (fun _ => Stp.all_bind fun v _ => Q47 (h1 _ _ h)) fun _ => Stp.all_if (fun _ => ?_) fun _ => Stp.all_if (fun _ => Stp.all_bind fun n _ => ?_) fun _ => ?_
 · unfold MS.newR
   refine Stp.all_if (fun _ => trivial) fun _ => ?_
   refine ⟨?_, fun x hx => (h.st x hx).up, h.sl, h.out⟩
   exact h.cur.more (vs := [_]) (rs := [_]) (by simp) (by simp)
 · unfold MS.inS
   split
   · exact trivial
   · exact h1 _ _ ⟨h.cur, h.st, h.sl, h.out⟩
 · unfold MS.outS
   refine Stp.all_if (fun _ => trivial) fun hn => ?_
   refine ⟨h.cur.up, fun x hx => (h.st x hx).up, h.sl, ?_⟩
   have := h.out
   show (s.out ++ [n]).length ≤ 2000
   rw [List.length_append]
   simp only [List.length_cons, List.length_nil]
   omega
 · unfold MS.call
   split
   · exact trivial
   · rename_i g hg
     refine Stp.all_bind fun rs hr => Stp.all_bind fun vs hv => Stp.all_if (fun _ => trivial) fun _ => Stp.all_if (fun _ => trivial) fun hl => ?_
     have hb := (Q3l (Q4T hM hg)).2.2.2.2.1
     obtain ⟨b, hb⟩ : ∃ b, g.blocks[0]? = some b := ⟨_, List.getElem?_eq_getElem (by omega)⟩
     refine ⟨⟨g, b, hg, hb, Nat.zero_le _, ?_, ?_⟩, ?_, ?_, h.out⟩
     · show vs.length ≤ _; rw [Q3n hv]; omega
     · show rs.length ≤ _; rw [Q8W hr]; omega
     · intro y hy
       rcases List.mem_cons.1 hy with rfl | hy
       · exact h.cur.up
       · exact (h.st y hy).up
     · have := h.sl
       show (s.g :: s.st).length ≤ 39
       rw [List.length_cons]; omega
theorem Bnd.to (h : Bnd m k s) {f : Fun} (hf : m.funcs[s.g.f]? = some f) {t : To} (ht : Q1r f.blocks.length t true = 0) : (s.to f t).All (Bnd m (k + 1)) := by
 obtain ⟨q1, q2⟩ := Q7W ht
 unfold MS.to
 split
 · exact trivial
 · rename_i b hb
   refine Stp.all_bind fun rs hr => Stp.all_bind fun vs hv => Stp.all_if (fun _ => trivial) fun _ => ?_
   refine ⟨⟨f, b, hf, hb, Nat.zero_le _, ?_, ?_⟩, fun x hx => (h.st x hx).up, h.sl, h.out⟩
   · show vs.length ≤ _; rw [Q3n hv]; omega
   · show rs.length ≤ _; rw [Q8W hr]; omega
theorem Bnd.fin (h : Bnd m k s) {f : Fun} (hf : m.funcs[s.g.f]? = some f) {e : Tail} (he : Q1I f.blocks.length e = 0) : (s.fin f e).All (Bnd m (k + 1)) := by
 obtain ⟨q1, q2, q3, q4⟩ := Q5n he
 have q5 := Q7y he
 unfold MS.fin
 refine Stp.all_if (fun e1 => ?_) fun n1 => Stp.all_if (fun e2 => Stp.all_bind fun n _ => Stp.all_if (fun _ => ?_) fun _ => ?_) fun n2 => ?_
 · rw [decide_eq_true (by omega)] at q3; exact h.to hf q3
 · rw [decide_eq_true (by omega)] at q3; exact h.to hf q3
 · rw [decide_eq_true (by omega)] at q4; exact h.to hf q4
 · unfold MS.ret
   refine Stp.all_bind fun vs hv => Stp.all_if (fun _ => trivial) fun _ => ?_
   split
   · rename_i c st hst
     have hc := h.st c (by rw [hst]; exact List.mem_cons_self)
     have h8 : vs.length ≤ 8 := by rw [Q3n hv]; omega
     refine Bnd.put (s := ⟨s.h, c, st, s.inp, s.out, s.fuel⟩) ⟨hc, fun x hx => h.st x (by rw [hst]; exact List.mem_cons_of_mem _ hx), ?_, h.out⟩ h8
     have := h.sl
     rw [hst, List.length_cons] at this
     show st.length ≤ 39
     omega
   · split
     · exact trivial
     · rename_i ns hns
       show ns.length ≤ 8
       rw [Q6a hns, Q3n hv]; omega
theorem Bnd.one (h : Bnd m k s) (hM : m.fault.1 = 0) : (s.one m).All (Bnd m (k + 1)) := by
 obtain ⟨f, b, hf, hb, hi, hv, hr⟩ := h.cur
 obtain ⟨-, q1, q2⟩ := Q3m hM hf hb
 unfold MS.one
 rw [hf]; dsimp only; rw [hb]; dsimp only
 cases hx : b.code[s.g.i]? with
 | none => exact h.fin hf q2
 | some x =>
   have hlt := (List.getElem?_eq_some_iff.1 hx).1
   refine Bnd.ins (s := s.next) ⟨⟨f, b, hf, hb, ?_, hv, hr⟩, h.st, h.sl, h.out⟩ hM (q1 x (List.mem_of_getElem? hx))
   show s.g.i + 1 ≤ _
   omega
theorem Bnd.start (hM : m.fault.1 = 0) (inp : List Int) (pages : Int) : Bnd m 0 (MS.start inp pages) := by
 have hl := Q6l hM
 obtain ⟨f, hf⟩ : ∃ f, m.funcs[0]? = some f := ⟨_, List.getElem?_eq_getElem (by omega)⟩
 have hb := (Q3l (Q4T hM hf)).2.2.2.2.1
 obtain ⟨b, hb⟩ : ∃ b, f.blocks[0]? = some b := ⟨_, List.getElem?_eq_getElem (by omega)⟩
 exact ⟨⟨f, b, hf, hb, Nat.zero_le _, Nat.zero_le _, Nat.zero_le _⟩, fun x hx => (by cases hx), Nat.zero_le _, Nat.zero_le _⟩
end
end Go.Lir
namespace Go.Lir
def Qcu (w : World) (b j : Nat) : Value := (w.cell? ⟨b, j, none⟩).getD undef
theorem Q7F {w : World} {c : Cx} {L : List Res} {T b j i : Nat} {cs : List Value} {u : Value} (hS : St c w L) (hi : nth L i = some (blk b T cs)) (hj : cs[j]? = some u) : Qcu w b j = u := by
 unfold Qcu; rw [(hS.blkAt hi).cell hj]; rfl
def downV : Value → Nat
 | .bool true => 0
 | _ => 1
def msrW (w : World) (p : Nat) : Nat := 2 * (iv (Qcu w p 8) - iv (Qcu w p 7)).toNat + downV (Qcu w p 9)
end Go.Lir
namespace Go.Proofs.YteflkifmgnpbhaaGreat
open Go.Lir
set_option maxHeartbeats 1000000
attribute [local irreducible] LC.wp Q0 QF QE retQ Q16 LO.wp Qf Calls
set_option linter.unusedSimpArgs false
set_option linter.unusedVariables false
variable {cx : Cx} {w : World} {L : List Res} {p N : Nat} {c : MC} {fr : List FrmV} {g : FrmV} {h : HpS} {out inp : List Int} {m : Module}
def msr (c : MC) : Nat := 2 * (c.mo - c.fu).toNat + downV (.bool c.dn)
theorem Qa0 (hS : St cx w (blk p 55 c.cells :: L)) : msrW w p = msr c := by
 unfold msrW msr
 rw [Q7F (j := 8) hS (i := 0) rfl rfl, Q7F (j := 7) hS (i := 0) rfl rfl, Q7F (j := 9) hS (i := 0) rfl rfl]
 rfl
def RunL (m : Module) (r : Run) (most k : Nat) (c : MC) (fr : List FrmV) (g : FrmV) (N : Nat) (h : HpS) (inp out : List Int) : Prop :=
 c.dn = false ∧ c.c = 0 ∧ c.e = 0 ∧ c.fu = k ∧ k ≤ most ∧ c.mo = most ∧ N ≤ k ∧ Bnd m k (msOf h g fr inp out k) ∧ r = Run.steps m most (most + 1 - k) (.on (msOf h g fr inp out k))
def RunI (m : Module) (r : Run) (most : Nat) (c : MC) (fr : List FrmV) (g : FrmV) (N : Nat) (h : HpS) (inp out back : List Int) : Prop :=
 (back = [] ∧ ∃ k, RunL m r most k c fr g N h inp out) ∨ (c.dn = true ∧ r.oc = ⟨c.e, back, out, c.fu⟩ ∧ r.flt = (0, 0) ∧ out.length ≤ 2000 ∧ back.length ≤ 100000)
theorem Q9C {m : Module} {most k : Nat} {s : MS} (hk : s.fuel < most) (he : k = s.fuel) : Run.steps m most (most + 1 - k) (.on s) = Run.steps m most (most + 1 - (k + 1)) (.of m s (s.tick.one m)) := by
 rw [show most + 1 - k = (most + 1 - (k + 1)) + 1 by omega, Run.steps]
 rw [show Run.step m most (.on s) = .of m s (s.tick.one m) by unfold Run.step; exact if_neg (by omega)]
theorem Q8J {m : Module} {most k : Nat} {s : MS} (hk : s.fuel = most) (he : k = s.fuel) : Run.steps m most (most + 1 - k) (.on s) = .over s 7 [] := by
 rw [show most + 1 - k = 0 + 1 by omega, Run.steps]
 rw [show Run.step m most (.on s) = .over s 7 [] by unfold Run.step; exact if_pos hk]
 rfl
theorem Q4x {m : Module} {most : Nat} {s : MS} {e : Int} {b : List Int} : ∀ k, Run.steps m most k (.over s e b) = .over s e b
 | 0 => rfl
 | k + 1 => by rw [Run.steps]; exact Q4x k
theorem Q7g {m : Module} {most : Nat} {f : Flt} : ∀ k, Run.steps m most k (.stuck f) = .stuck f
 | 0 => rfl
 | k + 1 => by rw [Run.steps]; exact Q7g k
theorem RunL.next {r : Run} {most k : Nat} {u : Value} (hI : RunL m r most k c fr g N h inp out) (hM : m.fault.1 = 0) (hi : intR.sl cx c.iv inp) (hs : StepS m p c fr g N h inp out (k + 1) cx (sl 2 1 c.bv [] :: L) u w) :
 (u = fltV (0, 0) ∧ ∃ c' fr' g' N' h' inp' out' back', RunI m r most c' fr' g' N' h' inp' out' back' ∧ c'.fn = c.fn ∧ intR.sl cx c'.iv inp' ∧ msr c' < msr c ∧ St cx w (mS p c' fr' g' N' h' out' (sl 2 1 c'.bv (Q8 back') :: L))) ∨
 ∃ f, r = .stuck (20, f) ∧ u = fltV (20, f) ∧ St cx w L := by
 obtain ⟨hdn, hc0, he0, hfu, hkm, hmo, hN, hB, hr⟩ := hI
 rcases hs with ⟨h7, rfl, hS⟩ | ⟨hlt, hs⟩
 · refine .inl ⟨rfl, c.over 7, fr, g, N, h, inp, out, [], .inr ⟨rfl, ?_, ?_, hB.out, Nat.zero_le _⟩, rfl, hi, ?_, hS⟩
   · rw [hr, Q8J (m := m) (most := most) (k := k) (s := msOf h g fr inp out k) (by show k = most; omega) rfl]; show Oc.mk 7 [] out k = Oc.mk 7 [] out c.fu; rw [hfu]
   · rw [hr, Q8J (m := m) (most := most) (k := k) (s := msOf h g fr inp out k) (by show k = most; omega) rfl]; rfl
   · unfold msr; rw [hdn]; show 2 * (c.mo - c.fu).toNat + 0 < 2 * (c.mo - c.fu).toNat + 1; omega
 · have hst := hr.trans (Q9C (m := m) (most := most) (k := k) (s := msOf h g fr inp out k) (by show k < most; omega) rfl)
   have hone : (msOf h g fr inp out k).tick.one m = (msOf h g fr inp out (k + 1)).one m := rfl
   rw [hone] at hst
   have hB1 : ((msOf h g fr inp out (k + 1)).one m).All (Bnd m (k + 1)) := Bnd.one (s := msOf h g fr inp out (k + 1)) (k := k) ⟨hB.cur, hB.st, hB.sl, hB.out⟩ hM
   have hms : 2 * (c.mo - (c.fu + 1)).toNat + 1 < 2 * (c.mo - c.fu).toNat + 1 := by omega
   rcases hs with ⟨rfl, hG⟩ | ⟨e, hX, rfl, fr', g', N', hN', hS⟩ | ⟨hX, rfl, hS⟩
   · rcases hG with ⟨lv, iv, ov, fr', g', N', h', inp', out', hX, hi', hN', -, hS⟩ | ⟨ns, bv, fr', g', hX, -, hS⟩
     · rw [hX] at hst hB1
       refine .inl ⟨rfl, c.tick.upd lv iv ov, fr', g', N', h', inp', out', [], .inl ⟨rfl, k + 1, hdn, hc0, he0, ?_, by omega, hmo, by omega, hB1, hst⟩, rfl, hi', ?_, hS⟩
       · show c.fu + 1 = ((k + 1 : Nat) : Int); omega
       · unfold msr; rw [hdn]; exact hms
     · rw [hX] at hst
       rw [show Run.of m (msOf h g fr inp out k) (.done ns) = .over (msOf h g fr inp out k).tick 0 ns from rfl, Q4x] at hst
       refine .inl ⟨rfl, ⟨c.hp, c.fn, c.lv, c.iv, c.e, bv, c.ov, c.fu + 1, c.mo, true, c.c, c.a⟩, fr', g', N, h, inp, out, ns, .inr ⟨rfl, ?_, ?_, hB.out, ?_⟩, rfl, hi, ?_, hS.sp⟩
       · rw [hst]; show Oc.mk 0 ns out ((k + 1 : Nat) : Int) = Oc.mk c.e ns out (c.fu + 1); rw [hfu, he0]; rfl
       · rw [hst]; rfl
       · have h8 : ns.length ≤ 8 := by rw [hX] at hB1; exact hB1
         omega
       · unfold msr; rw [hdn]; show 2 * (c.mo - (c.fu + 1)).toNat + 0 < _; omega
   · rw [hX] at hst
     rw [show Run.of m (msOf h g fr inp out k) (.halt e) = .over (msOf h g fr inp out k).tick e [] from rfl, Q4x] at hst
     refine .inl ⟨rfl, c.tick.over e, fr', g', N', h, inp, out, [], .inr ⟨rfl, ?_, ?_, hB.out, Nat.zero_le _⟩, rfl, hi, ?_, hS⟩
     · rw [hst]; show Oc.mk e [] out ((k + 1 : Nat) : Int) = Oc.mk e [] out (c.fu + 1); rw [hfu]; rfl
     · rw [hst]; rfl
     · unfold msr; rw [hdn]; show 2 * (c.mo - (c.fu + 1)).toNat + 0 < _; omega
   · rw [hX] at hst
     rw [show Run.of m (msOf h g fr inp out k) .lost = .stuck (20, (msOf h g fr inp out k).place m) from rfl, Q7g] at hst
     exact .inr ⟨_, hst, rfl, hS.sp⟩
theorem Qbg {r : Run} {most k : Nat} (hI : RunL m r most k c fr g N h inp out) (hM : m.fault.1 = 0) (hmo : most ≤ 20000) (hfn : funcR.sl cx c.fn m.funcs) (hi : intR.sl cx c.iv inp) (hS : St cx w (mS p c fr g N h out (sl 2 1 c.bv [] :: L))) :
 Rets Tryz.prog Q1P [.pointer (some ⟨p, 0, none⟩)] w fun u w' =>
  (u = fltV (0, 0) ∧ ∃ c' fr' g' N' h' inp' out' back', RunI m r most c' fr' g' N' h' inp' out' back' ∧ c'.fn = c.fn ∧ intR.sl cx c'.iv inp' ∧ msr c' < msr c ∧ St cx w' (mS p c' fr' g' N' h' out' (sl 2 1 c'.bv (Q8 back') :: L))) ∨
  ∃ f, r = .stuck (20, f) ∧ u = fltV (20, f) ∧ St cx w' L := by
 have hI' := hI
 obtain ⟨hdn, hc0, he0, hfu, hkm, hmo2, hN, hB, hr⟩ := hI
 obtain ⟨f, b, hf, hb, h1, h2, h3⟩ := hB.cur
 obtain ⟨q0, q1, q2⟩ := Q3m hM hf hb
 obtain ⟨e1, e2, e3, e4⟩ := Q5n q2
 have hcl := (Q6v q0).2.2.2.2
 have hfl := Q6l hM
 have hbl := (Q3l (Q4T hM hf)).2.2.2.2
 have hgf := (List.getElem?_eq_some_iff.1 hf).1
 have hgb := (List.getElem?_eq_some_iff.1 hb).1
 have hsl := hB.sl
 have hst : (msOf h g fr inp out k).st.length = fr.length := by show (fr.map FrmV.abs).reverse.length = _; simp
 have h1 : g.i ≤ b.code.length := h1
 have h2 : g.vals.length ≤ 8 + 8 * k := h2
 have h3 : g.regs.length ≤ 16 + k := h3
 have hgf : g.f < m.funcs.length := hgf
 have hgb : g.b < f.blocks.length := hgb
 have hto : ∀ {t : To}, Q1r f.blocks.length t true = 0 → ToOK f t := fun ht => ⟨Q9B ht, by have := Q7W ht; omega, by have := Q7W ht; omega⟩
 refine (step_c (m := m) (f := f) (b := b) (inp := inp) (fu := k + 1) hdn hc0 hfn hi hf hb (fun x hx => ⟨Q6Z (q1 x hx), insF_k (q1 x hx), by have := Q5c (q1 x hx); omega, by have := Q5c (q1 x hx); omega⟩) ⟨by have := Q7y q2; omega, ⟨e1, e2⟩, fun hq => hto (by rw [decide_eq_true hq] at e3; exact e3), fun hq => hto (by rw [decide_eq_true hq] at e4; exact e4)⟩ (by omega) (by omega) (by omega) (by omega) (by omega) (by omega) ?_ (by omega) hB.out ⟨by omega, by omega⟩ hS).mono fun u w' hs => hI'.next hM hi hs
 intro x hx
 obtain ⟨f9, b9, _, _, _, h9, _⟩ := hB.st x.abs (by show x.abs ∈ (fr.map FrmV.abs).reverse; rw [List.mem_reverse]; exact List.mem_map_of_mem hx)
 have h9 : x.vals.length ≤ 8 + 8 * k := h9
 omega
theorem NewS.bad {fuel pages : Int} {u : Value} (hz : (Q1Y m inp fuel pages).1 ≠ 0) (hs : NewS m inp fuel pages cx L u w) : u = .tuple #[.pointer none, fltV (Q1Y m inp fuel pages)] ∧ St cx w L := by
 rcases hs with ⟨_, h1, h2⟩ | ⟨h1, _⟩
 · exact ⟨h1, h2⟩
 · rw [h1] at hz; exact absurd rfl hz
theorem NewS.ok {fuel pages : Int} {u : Value} (hz : (Q1Y m inp fuel pages).1 = 0) (hs : NewS m inp fuel pages cx L u w) : Q1Y m inp fuel pages = (0, 0) ∧ m.fault.1 = 0 ∧ inp.length ≤ 200 ∧ 0 ≤ fuel ∧ fuel ≤ 20000 ∧ 0 ≤ pages ∧ pages ≤ 64 ∧ ∃ c' p hp fn lv iv, u = .tuple #[.pointer (some ⟨p, 0, none⟩), fltV (0, 0)] ∧ cx.Le c' ∧ funcR.sl c' fn m.funcs ∧ intR.sl c' iv inp ∧ St c' w (mS p (newC hp fn lv iv fuel) [] newG 0 ⟨[], pages⟩ [] L) := by
 rcases hs with ⟨h1, _⟩ | h1
 · exact absurd hz h1
 · exact h1
def ocV (o : Oc) (v1 v2 : Value) : Value := .agg ⟨[.int .i64 o.e, v1, v2, .int .i64 o.fuel]⟩
def RunS (m : Module) (inp : List Int) (fuel pages : Int) (cx : Cx) (L : List Res) (u : Value) (w' : World) : Prop :=
 ((Q1Y m inp fuel pages).1 ≠ 0 ∧ u = .tuple #[.agg ⟨[.int .i64 0, .slice none 0 0, .slice none 0 0, .int .i64 0]⟩, fltV (Q1Y m inp fuel pages)] ∧ St cx w' L) ∨
 (Q1Y m inp fuel pages = (0, 0) ∧ ∃ c' v1 v2, cx.Le c' ∧ u = .tuple #[ocV (Run.all m inp fuel.toNat pages).oc v1 v2, fltV (Run.all m inp fuel.toNat pages).flt] ∧ intR.sl c' v1 (Run.all m inp fuel.toNat pages).oc.back ∧ intR.sl c' v2 (Run.all m inp fuel.toNat pages).oc.out ∧ St c' w' L)
theorem run_bad {cs : List Value} {v : Value} {fuel pages : Int} (hz : (Q1Y m inp fuel pages).1 ≠ 0) (hsh : m.Short) (hx : modR.at cx cs m) (hi : intR.sl cx v inp) (hS : St cx w L) :
 Rets Tryz.prog Q3K [.agg ⟨cs⟩, v, .int .i64 fuel, .int .i64 pages] w (RunS m inp fuel pages cx L) := by
 have hx' := hx
 obtain ⟨vf, rfl, hf⟩ := Q1k hx
 unfold RunS
 all_goals refine lgo tyD Tryz.func17 ?_
 all_goals (refine Zaz ?_; intro p4 w1 hS; refine Qg hS ?_; intro p8 w1 hS; refine Qg hS ?_; intro p9 w1 hS; refine ZaS ?_; refine zv hS ?_; refine ZaO ?_; refine zm ?_; refine zR4 (c := new_c hsh hx' hi hS) (h := ?_); rintro v1 w1 hN; obtain ⟨rfl, hS⟩ := hN.bad hz; unfold fltV; refine ZbE ?_; intro p11 w1 hS; refine zm ?_; refine zsn hS ?_; intro w1 hS; have hS := hS.ns; refine ZbT ?_; refine zf0 ?_; refine zl hS ?_)
 all_goals (refine QC ?_)
 all_goals (refine zn ?_)
 all_goals refine zct ?_
 all_goals (refine Qb ?_; refine zC [(0, none), (1, none), (2, some (some [1])), (3, some none)] ?_; have hS := hS.drew; refine s_cq ?_; refine zb0 [_, _, _, _] ?_; refine Zab ?_; refine zv hS ?_; refine Zar ?_; refine zsn hS ?_; intro w1 hS; have hS := hS.ns; refine ZaK ?_; refine zsn hS ?_; intro w1 hS; have hS := hS.ns; refine Zaw ?_; refine zr ?_; refine Q8Z vw (Q4 (n := 4) (by kernel_rfl) (by kernel_rfl) (hS.blkAt fd) (by rfl) (by rfl)) vw (Q4 (n := 2) (by kernel_rfl) (by kernel_rfl) (hS.blkAt fd) (by rfl) (by rfl)) ?_; exact ⟨_, rfl, .inl ⟨hz, rfl, hS.sp⟩⟩)
theorem Q1K {l : List Int} : intR.ls cx (Q8 l) l :=
 ⟨by unfold Q8; simp, fun k x hx => ⟨[.int .i64 x], by unfold Q8; rw [List.getElem?_map, hx]; rfl, rfl⟩⟩
theorem RunI.first {fuel pages : Int} {hp fn lv iv : Value} (hM : m.fault.1 = 0) (h0 : 0 ≤ fuel) : RunI m (Run.all m inp fuel.toNat pages) fuel.toNat (newC hp fn lv iv fuel) [] newG 0 ⟨[], pages⟩ inp [] [] :=
 .inl ⟨rfl, 0, rfl, rfl, rfl, rfl, Nat.zero_le _, (Int.toNat_of_nonneg h0).symm, Nat.zero_le _, Bnd.start hM inp pages, rfl⟩
theorem run_ok {cs : List Value} {v : Value} {fuel pages : Int} (hz : (Q1Y m inp fuel pages).1 = 0) (hsh : m.Short) (hx : modR.at cx cs m) (hi : intR.sl cx v inp) (hS : St cx w L) :
 Rets Tryz.prog Q3K [.agg ⟨cs⟩, v, .int .i64 fuel, .int .i64 pages] w (RunS m inp fuel pages cx L) := by
 have hx' := hx
 obtain ⟨vf, rfl, hf⟩ := Q1k hx
 unfold RunS
 all_goals refine lgo tyD Tryz.func17 ?_
 all_goals (refine Zaz ?_; intro p4 w1 hS; refine Qg hS ?_; intro p8 w1 hS; refine Qg hS ?_; intro p9 w1 hS; refine ZaS ?_; refine zv hS ?_; refine ZaO ?_; refine zm ?_; refine zR4 (c := new_c hsh hx' hi hS) (h := ?_); rintro v1 w1 hN; obtain ⟨hs0, hM, hil, hf0, hf1, hp0, hp1, c2, p, hp, fn, lv, iv, rfl, hle2, hfn, hin, hS⟩ := hN.ok hz; unfold fltV; have hI0 := RunI.first (inp := inp) (pages := pages) (hp := hp) (fn := fn) (lv := lv) (iv := iv) hM hf0; refine ZbE ?_; intro p11 w1 hS; refine zm ?_; refine zsn hS ?_; intro w1 hS; have hS := hS.ns; refine ZbT ?_; refine zf0 ?_; refine zl hS ?_)
 all_goals (first | (refine QC ?_) | (refine QJ ?_))
 all_goals (refine zn ?_)
 all_goals refine zcf ?_
 all_goals (refine ZaJ ?_)
 refine zo [8, 9, 10] (fun A ρ' w' => ∃ (c : MC) (fr : List FrmV) (g : FrmV) (N : Nat) (h : HpS) (inp1 out back : List Int), Has ρ' A ∧ Has ρ' [] ∧ (RunI m (Run.all m inp fuel.toNat pages) fuel.toNat c fr g N h inp1 out back) ∧ (funcR.sl c2 c.fn m.funcs) ∧ (intR.sl c2 c.iv inp1) ∧ St c2 w' (mS p c fr g N h out (sl 2 1 c.bv (Q8 back) :: blk p11 29 [.int .i64 0, .int .i64 0] :: blk p9 29 [.int .i64 0, .int .i64 0] :: blk p8 33 [.int .i64 0, .slice none 0 0, .slice none 0 0, .int .i64 0] :: L))) (fun _ w' => msrW w' p) ?_ ?_
 · exact ⟨newC hp fn lv iv fuel, [], newG, 0, ⟨[], pages⟩, inp, [], [], zh, zh, hI0, hfn, hin, by have hS := hS.nil (T := 2) (es := 1); exact hS.sp⟩
 rintro ρ w1 ⟨c, fr, g, N, h, inp1, out, back, hA, hρ, hI, hfn1, hin1, hS⟩; obtain ⟨ρ, rfl⟩ := env2 hA hρ; have hm0 := Qa0 hS
 all_goals (refine ZaA ?_)
 all_goals (refine zR1 (c := done_c hS) (h := ?_); rintro v1 w1 ⟨rfl, hS⟩; cases hdn : c.dn)
 all_goals (refine Zba ?_)
 all_goals
  first
  | (refine zct ?_
     all_goals (refine zsk ?_; refine Q2w ?_; refine Zad ?_)
     all_goals (obtain ⟨rfl, k, hL⟩ := hI.resolve_right (fun h9 => absurd h9.1 (by rw [hdn]; decide)); refine zR1 (c := Qbg hL hM (by omega) hfn1 hin1 hS) (h := ?_); rintro v1 w1 (⟨rfl, c', fr', g', N', h', inp', out', back', hI, hfn', hin', hlt, hS⟩ | ⟨f9, hr9, rfl, hS⟩))
     all_goals (refine Qg hS ?_; intro p12 w1 hS; refine zsn hS ?_; intro w1 hS; have hS := hS.ns; refine ZaS ?_; refine zf0 ?_; refine zl hS ?_)
     all_goals (first | (refine QC ?_) | (refine QJ ?_))
     all_goals (refine zn ?_)
     all_goals
      first
      | (refine zct ?_
         all_goals (refine Qb ?_; refine zC [(0, none), (1, none), (2, some (some [1])), (3, some none)] ?_; have hS := hS.drew; refine s_cq ?_; refine zb0 [_, _, _, _] ?_; refine Zab ?_; refine zv hS ?_; refine Zar ?_; refine zsn hS ?_; intro w1 hS; have hS := hS.ns; refine ZaK ?_; refine zsn hS ?_; intro w1 hS; have hS := hS.ns; refine Zaw ?_; refine zr ?_; refine Q8Z vw (Q4 (n := 4) (by kernel_rfl) (by kernel_rfl) (hS.blkAt fd) (by rfl) (by rfl)) vw (Q4 (n := 2) (by kernel_rfl) (by kernel_rfl) (hS.blkAt fd) (by rfl) (by rfl)) ?_)
         all_goals (exact ⟨_, rfl, .inr ⟨hs0, c2, .slice none 0 0, .slice none 0 0, hle2, by rw [hr9]; rfl, by rw [hr9]; exact Rep.SR.nil _ _ _, by rw [hr9]; exact Rep.SR.nil _ _ _, hS.sp⟩⟩))
      | (refine zcf ?_
         all_goals refine zsk ?_)
     all_goals (exact ⟨⟨c', fr', g', N', h', inp', out', back', zh, zh, hI, (by rw [hfn']; exact hfn1), hin', hS.sp⟩, (by rw [Qa0 (c := c') (L := L) (show St c2 _ (blk p 55 c'.cells :: L) from hS.sp), hm0]; exact hlt)⟩))
  | (refine zcf ?_
     all_goals (refine zex ?_; refine Zad ?_)
     all_goals (obtain ⟨_, ho, hfz, hol, hbl⟩ := hI.resolve_left (fun h9 => (by obtain ⟨_, k, hL⟩ := h9; exact absurd hL.1 (by rw [hdn]; decide))); obtain ⟨c3, hle3, hS2, hb3⟩ := St.freezeL (r := intR) (l := back) (hS.out (r := sl 2 1 c.bv (Q8 back)) fd) Q1K rfl (by omega); obtain ⟨c4, hle4, hS3, ho4⟩ := St.freezeL (r := intR) (l := out) (hS2.out (r := sl 2 1 c.ov (Q8 out)) fd) Q1K rfl (by omega); refine zR1 (c := Q65 (c := c) (by omega) (by omega) (Rep.SR.up hb3 hle4) ho4 (show St c4 _ (blk p 55 c.cells :: _) from (by have hS := hS3; exact hS.sp))) (h := ?_); rintro v1 w1 ⟨c5, u1, u2, hle5, rfl, k1, k2, hS⟩; obtain ⟨a1, n1, rfl⟩ := Rep.SR.shape k1; obtain ⟨a2, n2, rfl⟩ := Rep.SR.shape k2)
     all_goals (refine zb0 [_, _] ?_; refine zsn hS ?_; intro w1 hS; have hS := hS.ns; refine zsn hS ?_; intro w1 hS; have hS := hS.ns; refine ZaX ?_; refine Q8Z vw (Q4 (n := 4) (by kernel_rfl) (by kernel_rfl) (hS.blkAt fd) (by rfl) (by rfl)) vw (Q4 (n := 2) (by kernel_rfl) (by kernel_rfl) (hS.blkAt fd) (by rfl) (by rfl)) ?_)
     all_goals ((first | exact ⟨_, rfl, .inr ⟨hs0, c2, .slice none 0 0, .slice none 0 0, hle2, by rw [hr9]; rfl, by rw [hr9]; exact Rep.SR.nil _ _ _, by rw [hr9]; exact Rep.SR.nil _ _ _, hS.sp⟩⟩ | exact ⟨_, rfl, .inr ⟨hs0, c5, .slice a1 back.length n1, .slice a2 out.length n2, hle2.trans (hle3.trans (hle4.trans hle5)), by rw [ho, hfz]; rfl, by rw [ho]; exact k1, by rw [ho]; exact k2, hS.sp⟩⟩)))
theorem run_c {cs : List Value} {v : Value} {fuel pages : Int} (hsh : m.Short) (hx : modR.at cx cs m) (hi : intR.sl cx v inp) (hS : St cx w L) :
 Rets Tryz.prog Q3K [.agg ⟨cs⟩, v, .int .i64 fuel, .int .i64 pages] w (RunS m inp fuel pages cx L) := by
 by_cases hz : (Q1Y m inp fuel pages).1 = 0
 · exact run_ok hz hsh hx hi hS
 · exact run_bad hz hsh hx hi hS
end Go.Proofs.YteflkifmgnpbhaaGreat
namespace Go.Lir
section
variable {P : Program} {l : List GO} {Q : QT} {ρ : Env} {w : World}
def IntF (P : Program) (f : Field) (i : Nat) : Prop := f.name ≠ "_" ∧ (∃ k, P.underlying f.type = some (.int k)) ∧ f.offset = i ∧ Q2G P f.type = true
theorem Q3z (k : Nat) {T : TypeId} {q : IntKind} {a b : Int} {kk : IntKind} {w0 : World} (ht : P.underlying T = some (.int q)) : (Op.equalIn (k + 1) T (.int kk a) (.int kk b)).run P w0 = .ok (a == b) w0 := by
 simp only [Op.equalIn, Sem.run_bind, Q9 P T _ w0 ht, Result.andThen_ok]
 simp [Sem.run_pure]
def intFB (P : Program) (f : Field) (i : Nat) : Bool := f.name != "_" && (match P.underlying f.type with | some (.int _) => true | _ => false) && f.offset == i && Q2G P f.type
theorem Qcc {f : Field} {i : Nat} (h : intFB P f i = true) : IntF P f i := by
 unfold intFB at h
 simp only [Bool.and_eq_true, bne_iff_ne, ne_eq, beq_iff_eq] at h
 obtain ⟨⟨⟨h1, h2⟩, h3⟩, h4⟩ := h
 refine ⟨h1, ?_, h3, h4⟩
 split at h2
 · rename_i k hk; exact ⟨k, hk⟩
 · cases h2
end
end Go.Lir
namespace Go.Lir
section
variable {P : Program} {l : List GO} {Q : QT} {ρ : Env} {w : World}
theorem QbF (k : Nat) {T : TypeId} {f0 f1 : Field} {a0 a1 b0 b1 : Int} {w0 : World} (ht : P.underlying T = some (.struct #[f0, f1])) (hh : P.stoodInHeld T = false)
 (h0 : IntF P f0 0) (h1 : IntF P f1 1) :
 (Op.equalIn (k + 2) T (.agg ⟨[.int .i64 a0, .int .i64 a1]⟩) (.agg ⟨[.int .i64 b0, .int .i64 b1]⟩)).run P w0 = .ok (a0 == b0 && a1 == b1) w0 := by
 obtain ⟨n0, ⟨q0, u0⟩, o0, s0⟩ := h0
 obtain ⟨n1, ⟨q1, u1⟩, o1, s1⟩ := h1
 have hp : ∀ (T : TypeId) (cs : Array Value) (off : Nat) (v : Value) (w : World), Q2G P T = true → cs[off]? = some v → (part T cs off).run P w = .ok v w := fun T cs off v w h hv => Q7k P T cs off v w h hv
 unfold Op.equalIn
 simp only [Sem.run_bind, Q9 P T _ w0 ht, Result.andThen_ok]
 simp [hh, n0, n1, o0, o1, Q3z _ u0, Q3z _ u1, hp _ _ _ _ _ s0, hp _ _ _ _ _ s1]
 by_cases e0 : a0 = b0 <;> by_cases e1 : a1 = b1 <;> simp [e0, e1]
def Int2 (P : Program) (T : TypeId) : Prop := ∃ f0 f1 : Field, P.underlying T = some (.struct #[f0, f1]) ∧ P.stoodInHeld T = false ∧ P.eqGuardType P.depth T = false ∧ IntF P f0 0 ∧ IntF P f1 1
def int2B (P : Program) (T : TypeId) : Bool := match P.underlying T with
 | some (.struct fs) => match fs.toList with
   | [f0, f1] => !P.stoodInHeld T && !P.eqGuardType P.depth T && intFB P f0 0 && intFB P f1 1
   | _ => false
 | _ => false
theorem int2_of {T : TypeId} (h : int2B P T = true) : Int2 P T := by
 unfold int2B at h
 split at h
 · rename_i fs hu
   split at h
   · rename_i f0 f1 hf
     simp only [Bool.and_eq_true, Bool.not_eq_true'] at h
     obtain ⟨⟨⟨h1, h2⟩, h3⟩, h4⟩ := h
     have : fs = #[f0, f1] := by apply Array.ext'; exact hf
     subst this
     exact ⟨f0, f1, hu, h1, h2, Qcc h3, Qcc h4⟩
   · cases h
 · cases h
theorem Q9X (a0 a1 b0 b1 : Int) : (a0 == b0 && a1 == b1) = decide ((a0, a1) = (b0, b1)) := by
 rw [Bool.eq_iff_iff]; simp
theorem s_eq2 {d : Nat} {T : TypeId} {x y : Operand} {a b : Int × Int} (hT : Int2 P T) (hx : ρ.ev x = .agg ⟨[.int .i64 a.1, .int .i64 a.2]⟩) (hy : ρ.ev y = .agg ⟨[.int .i64 b.1, .int .i64 b.2]⟩)
 (h : Q0 P l Q (upd ρ d (.bool (decide (a = b)))) w) : Q0 P (⟨none, .bin d .eql T x y⟩ :: l) Q ρ w := by
 obtain ⟨f0, f1, ht, hh, hg, h0, h1⟩ := hT
 exact ⟨.bool (decide (a = b)), fun w0 => by rw [hx, hy]; simp only [Sem.run_bind, run_eqGuard_agg w0 .eql T x y _ _ hg, Result.andThen_ok, run_eql_struct, QbF 9998 ht hh h0 h1, Q9X], h⟩
theorem s_ne2 {d : Nat} {T : TypeId} {x y : Operand} {a b : Int × Int} (hT : Int2 P T) (hx : ρ.ev x = .agg ⟨[.int .i64 a.1, .int .i64 a.2]⟩) (hy : ρ.ev y = .agg ⟨[.int .i64 b.1, .int .i64 b.2]⟩)
 (h : Q0 P l Q (upd ρ d (.bool (!decide (a = b)))) w) : Q0 P (⟨none, .bin d .neq T x y⟩ :: l) Q ρ w := by
 obtain ⟨f0, f1, ht, hh, hg, h0, h1⟩ := hT
 exact ⟨.bool (!decide (a = b)), fun w0 => by rw [hx, hy]; simp only [Sem.run_bind, run_eqGuard_agg w0 .neq T x y _ _ hg, Result.andThen_ok, run_neq_struct, QbF 9998 ht hh h0 h1, Q9X], h⟩
theorem Q8S {d : Nat} {T : TypeId} {x y : Operand} {a : Int × Int} (hT : Int2 P T) (hx : ρ.ev x = .agg ⟨[.int .i64 a.1, .int .i64 a.2]⟩) (hy : ρ.ev y = .agg ⟨[.int .i64 a.1, .int .i64 a.2]⟩)
 (h : Q0 P l Q (upd ρ d (.bool true)) w) : Q0 P (⟨none, .bin d .eql T x y⟩ :: l) Q ρ w := s_eq2 hT hx hy (by rw [decide_eq_true rfl]; exact h)
theorem Q3c {d : Nat} {T : TypeId} {x y : Operand} {a : Int × Int} (hT : Int2 P T) (hx : ρ.ev x = .agg ⟨[.int .i64 a.1, .int .i64 a.2]⟩) (hy : ρ.ev y = .agg ⟨[.int .i64 a.1, .int .i64 a.2]⟩)
 (h : Q0 P l Q (upd ρ d (.bool false)) w) : Q0 P (⟨none, .bin d .neq T x y⟩ :: l) Q ρ w := s_ne2 hT hx hy (by rw [decide_eq_true rfl]; exact h)
theorem St.freeze1 {α : Type} {r : Rep α} {c : Cx} {L : List Res} {T b : Nat} {cs : List Value} {x : α} (h : St c w (blk b T cs :: L)) (hr : r.at c cs x) : ∃ c', c.Le c' ∧ St c' w L ∧ r.sl c' (.slice (some ⟨b, 0, none⟩) 1 1) [x] := by
 have h1 : St c w (sl T r.es (.slice (some ⟨b, 0, none⟩) 1 1) [cs] :: L) := h.slOf (css := [cs]) (by simp) (by intro q hq; simp at hq; subst hq; exact r.len hr) rfl
 exact h1.freezeL (r := r) ((Rep.LR.nil r _ _).push hr) rfl (by simp)
end
end Go.Lir
namespace Go.Proofs.YteflkifmgnpbhaaGreat
open Go.Lir
set_option maxHeartbeats 1000000
attribute [local irreducible] LC.wp Q0 QF QE retQ Q16 LO.wp Qf Calls
set_option linter.unusedSimpArgs false
set_option linter.unusedVariables false
theorem Q6V {x y : Block} {cx : Cx} {w : World} {L : List Res} {cs ds : List Value} (hx : blockR.at cx cs x) (hy : blockR.at cx ds y) (hS : St cx w L) : Rets Tryz.prog Q9l [.agg ⟨cs⟩, .agg ⟨ds⟩] w fun u w' => u = .bool (decide (x = y)) ∧ St cx w' L := by
 obtain ⟨vp, vc, v1, v2, v3, v4, v5, rfl, hp, hc0, h1, h2, h3, h4, h5⟩ := Q13 hx
 obtain ⟨up, uc, u1, u2, u3, u4, u5, rfl, gp, gc, g1, g2, g3, g4, g5⟩ := Q13 hy
 have hlen := hc0.len
 obtain ⟨xr, xp, xc, ⟨xo, xa, xy, xn, xg⟩⟩ := x
 obtain ⟨yr, yp, yc, ⟨yo, ya, yy, yn, yg⟩⟩ := y
 simp only [Block.mk.injEq, Tail.mk.injEq] at *
 all_goals refine lgo tyD Tryz.func77 ?_
 all_goals (refine Zaz ?_; intro p2 w1 hS; refine zb hS ?_; intro p3 w1 hS; refine Zac ?_)
 refine zML hS [2, 3] (fun A LL ρ' w' => Has ρ' A ∧ Has ρ' [] ∧ (xr = yr) ∧ (xp = yp) ∧ (xc.length = yc.length) ∧ St cx w' (LL)) ?_ ?_
 · skip
   all_goals (refine Zaa ?_; refine zf0 ?_; refine zl hS ?_; refine zf0 ?_; refine zl hS ?_)
   all_goals (first | (refine QC ?_) | (refine QJ ?_) | (refine Qj rfl rfl (fun hc => ?_) (fun hc => ?_)))
   all_goals (refine zm ?_; (first | refine zgn ?_ | (refine zgy ?_; refine zf0 ?_)); (first | refine zgn ?_ | (refine zgy ?_; refine zl hS ?_)); (first | refine zgn ?_ | (refine zgy ?_; refine zf0 ?_)); (first | refine zgn ?_ | (refine zgy ?_; refine zl hS ?_)))
   all_goals ((first | (refine zgn ?_) | (refine zgy ?_; refine zR2 (c := Q3Z hp gp hS) (h := ?_); rintro v1 w1 ⟨rfl, hS⟩; (cases hdec : decide (xp = yp)); have hg := of_decide_eq_false hdec; rotate_left; have hg := of_decide_eq_true hdec; all_goals skip)))
   all_goals ((first | refine zgn ?_ | (refine ZaP ?_)); refine Zai ?_; (first | refine zgn ?_ | (refine zgy ?_; refine zf0 ?_)); (first | refine zgn ?_ | (refine zgy ?_; refine zl hS ?_)); (first | refine zgn ?_ | (refine zgy ?_; refine zL ?_)); (first | refine zgn ?_ | (refine zgy ?_; refine zf0 ?_)); (first | refine zgn ?_ | (refine zgy ?_; refine zl hS ?_)); (first | refine zgn ?_ | (refine zgy ?_; refine zL ?_)))
   all_goals (first | refine zgn ?_ | (refine zgy ?_; (first | (refine QC ?_) | (refine QJ ?_) | (refine Qj rfl rfl (fun hc => ?_) (fun hc => ?_)))))
   all_goals (refine Zaf ?_)
   all_goals
    first
    | (refine zct ?_
       all_goals (refine Zaq ?_)
       all_goals (refine ⟨_, rfl, ?_, hS.sp⟩; (rw [decide_eq_false]; rintro ⟨e1, e2, e3, _⟩; have := congrArg List.length e3; first | omega | (simp_all; done)); done))
    | (refine zcf ?_
       all_goals refine zsk ?_)
   all_goals (exact ⟨zh, zh, by omega, by assumption, by omega, hS.sp⟩)
 rintro ρ w1 ⟨hA, hρ, hr, hpp, hll, hS⟩; obtain ⟨ρ, rfl⟩ := env2 hA hρ
 all_goals (refine Zbr ?_)
 refine zoL hS [2, 3] (fun A LL ρ' w' => ∃ (j : Nat), Has ρ' A ∧ Has ρ' [(5, .int .i64 j)] ∧ (j ≤ xc.length) ∧ (xc = yc ↔ xc.drop j = yc.drop j) ∧ St cx w' (LL)) (fun ρ' _ => (xc.length - iv (ρ' 5)).toNat) ?_ ?_
 · exact ⟨0, zh, zh, (by omega), by simp, hS.sp⟩
 rintro ρ w1 ⟨j, hA, hρ, hj, hd, hS⟩; obtain ⟨ρ, rfl⟩ := env2 hA hρ
 all_goals (refine ZaA ?_; refine zf0 ?_; refine zl hS ?_; refine zL ?_; refine Zau ?_)
 refine Qt rfl (fun hc => ?_) (fun hc => ?_)
 · skip
   all_goals (refine ZbL ?_; refine zD (ci 12 [10, 11]) ?_; have hS := hS.drew; refine zf0 ?_; refine zl hS ?_; refine zm ?_; refine zi ?_; intro b1 o1 cs1 x1 hat1 hx1 he1; obtain ⟨vr1, va1, rfl, hr1, ha1⟩ := Q1a he1; (first | (refine zv hS ?_) | (refine zvk hS ?_)); refine zf0 ?_; refine zl hS ?_; refine zm ?_; refine zi ?_; intro b2 o2 cs2 x2 hat2 hx2 he2; obtain ⟨vr2, va2, rfl, hr2, ha2⟩ := Q1a he2; (first | (refine zv hS ?_) | (refine zvk hS ?_)))
   all_goals (refine zR2 (c := Qan he1 he2 hS) (h := ?_); rintro v1 w1 ⟨rfl, hS⟩; (cases hdec : decide (x1 = x2)); have hg := of_decide_eq_false hdec; rotate_left; have hg := of_decide_eq_true hdec; all_goals skip)
   all_goals (refine Zba ?_)
   all_goals
    first
    | (refine zct ?_
       all_goals (refine Zaq ?_)
       all_goals (refine ⟨_, rfl, ?_, hS.sp⟩; (rw [decide_eq_false]; rintro ⟨e1, e2, e3, _⟩; have := congrArg List.length e3; first | omega | (simp_all; done)); done))
    | (refine zcf ?_
       all_goals refine zsk ?_)
   all_goals (refine Zak ?_; refine zad ?_; refine Zac ?_; exact ⟨⟨j + 1, zh, zh, (by omega), by rw [hd, Q2 hx1, Q2 hx2, hg]; simp, hS.sp⟩, Qu (by omega)⟩)
 · skip
   all_goals (refine zex ?_; refine Zaa ?_; refine zf0 ?_; (first | refine zf0 ?_ | refine zfd ?_); refine zl hS ?_; refine zf0 ?_; (first | refine zf0 ?_ | refine zfd ?_); refine zl hS ?_)
   all_goals (first | (refine Qd ?_) | (refine Qh ?_) | (refine Q6 rfl rfl (fun hc => ?_) (fun hc => ?_)))
   all_goals (refine zm ?_; (first | refine zgn ?_ | (refine zgy ?_; refine zf0 ?_)); (first | refine zgn ?_ | (refine Zaj ?_)); (first | refine zgn ?_ | (refine zgy ?_; refine zl hS ?_)); (first | refine zgn ?_ | (refine zgy ?_; refine zf0 ?_)); (first | refine zgn ?_ | (refine Zaj ?_)); (first | refine zgn ?_ | (refine zgy ?_; refine zl hS ?_)))
   all_goals (first | refine zgn ?_ | (refine zgy ?_; (first | (refine Qd ?_) | (refine Qh ?_) | (refine Q6 rfl rfl (fun hc => ?_) (fun hc => ?_)))))
   all_goals (refine Zai ?_; (first | refine zgn ?_ | (refine zgy ?_; refine zf0 ?_)); (first | refine zgn ?_ | (refine Zaj ?_)); (first | refine zgn ?_ | (refine zgy ?_; refine zv hS ?_)); (first | refine zgn ?_ | (refine zgy ?_; refine zf0 ?_)); (first | refine zgn ?_ | (refine Zaj ?_)); (first | refine zgn ?_ | (refine zgy ?_; refine zv hS ?_)))
   all_goals ((first | (refine zgn ?_) | (refine zgy ?_; refine zR2 (c := Q80 (x := xy) (y := yy) ⟨_, _, rfl, h1, h2⟩ ⟨_, _, rfl, g1, g2⟩ hS) (h := ?_); rintro v1 w1 ⟨rfl, hS⟩; (cases hdec : decide (xy = yy)); have hg := of_decide_eq_false hdec; rotate_left; have hg := of_decide_eq_true hdec; all_goals skip)))
   all_goals (refine Zai ?_; (first | refine zgn ?_ | (refine zgy ?_; refine zf0 ?_)); (first | refine zgn ?_ | (refine Zaj ?_)); (first | refine zgn ?_ | (refine zgy ?_; refine zv hS ?_)); (first | refine zgn ?_ | (refine zgy ?_; refine zf0 ?_)); (first | refine zgn ?_ | (refine Zaj ?_)); (first | refine zgn ?_ | (refine zgy ?_; refine zv hS ?_)))
   all_goals ((first | (refine zgn ?_) | (refine zgy ?_; refine zR2 (c := Q80 (x := xn) (y := yn) ⟨_, _, rfl, h3, h4⟩ ⟨_, _, rfl, g3, g4⟩ hS) (h := ?_); rintro v1 w1 ⟨rfl, hS⟩; (cases hdec : decide (xn = yn)); have hg := of_decide_eq_false hdec; rotate_left; have hg := of_decide_eq_true hdec; all_goals skip)))
   all_goals (refine Zai ?_; (first | refine zgn ?_ | (refine zgy ?_; refine zf0 ?_)); (first | refine zgn ?_ | (refine Zaj ?_)); (first | refine zgn ?_ | (refine zgy ?_; refine zl hS ?_)); (first | refine zgn ?_ | (refine zgy ?_; refine zf0 ?_)); (first | refine zgn ?_ | (refine Zaj ?_)); (first | refine zgn ?_ | (refine zgy ?_; refine zl hS ?_)); (first | (refine zgn ?_) | (refine zgy ?_; refine zR2 (c := Q61 h5 g5 hS) (h := ?_); rintro v1 w1 ⟨rfl, hS⟩)); refine Zbf ?_; (first | (refine ⟨_, rfl, ?_, hS.sp⟩; (rw [decide_eq_false]; rintro ⟨e1, e2, e3, _⟩; have := congrArg List.length e3; first | omega | (simp_all; done)); done) | (refine ⟨_, rfl, ?_, hS.sp⟩; rw [decide_eq_false]; rintro ⟨e1, e2, e3, _⟩; rw [hd, Q2 hx1, Q2 hx2, List.cons.injEq] at e3; exact hg e3.1; done) | (refine ⟨_, rfl, ?_, hS.sp⟩; have hcc : xc = yc := (by rw [hd, List.drop_of_length_le (by omega), List.drop_of_length_le (by omega)]); simp [*]; done)))
theorem Q6U {x y : Module} {cx : Cx} {w : World} {L : List Res} {cs ds : List Value} (hx : modR.at cx cs x) (hy : modR.at cx ds y) (hS : St cx w L) : Rets Tryz.prog Q8w [.agg ⟨cs⟩, .agg ⟨ds⟩] w fun u w' => u = .bool (decide (x = y)) ∧ St cx w' L := by
 obtain ⟨vf, rfl, hl⟩ := Q1k hx
 obtain ⟨uf, rfl, hm⟩ := Q1k hy
 obtain ⟨l⟩ := x
 obtain ⟨m⟩ := y
 have hlen := hl.len
 simp only [Module.mk.injEq] at *
 all_goals refine lgo tyD Tryz.func30 ?_
 all_goals (refine Zaz ?_; intro p2 w1 hS; refine zb hS ?_; intro p3 w1 hS; refine ZaT ?_; refine zf0 ?_; refine zl hS ?_; refine zL ?_; refine zf0 ?_; refine zl hS ?_; refine zL ?_)
 all_goals (first | (refine QC ?_) | (refine QJ ?_) | (refine Qj rfl rfl (fun hc => ?_) (fun hc => ?_)))
 all_goals (refine zn ?_)
 all_goals
  first
  | (refine zct ?_
     all_goals (refine Zaq ?_)
     all_goals (refine ⟨_, rfl, ?_, hS.sp⟩; rw [decide_eq_false]; exact fun e => absurd (congrArg List.length e) (by omega); done))
  | (refine zcf ?_
     all_goals refine zsk ?_)
 all_goals (refine Zbr ?_)
 refine zoL hS [2, 3] (fun A LL ρ' w' => ∃ (j : Nat), Has ρ' A ∧ Has ρ' [(5, .int .i64 j)] ∧ (j ≤ l.length) ∧ (l.length = m.length) ∧ (l = m ↔ l.drop j = m.drop j) ∧ St cx w' (LL)) (fun ρ' _ => (l.length - iv (ρ' 5)).toNat) ?_ ?_
 · exact ⟨0, zh, zh, (by omega), (by omega), by simp, hS.sp⟩
 rintro ρ w1 ⟨j, hA, hρ, hj, hlm, hd, hS⟩; obtain ⟨ρ, rfl⟩ := env2 hA hρ
 all_goals (refine ZaA ?_; refine zf0 ?_; refine zl hS ?_; refine zL ?_; refine Zau ?_)
 refine Qt rfl (fun hc => ?_) (fun hc => ?_)
 · skip
   all_goals (refine ZbL ?_)
   refine Q1p 10 11 (by kernel_rfl) ?_ ?_
   · skip
     all_goals (refine zC [(0, none), (1, none), (2, none), (3, none), (4, none), (5, none), (6, none), (7, none), (8, none), (9, none), (10, some (some [1, 4, 6, 9])), (11, some (some [1, 4, 6, 9])), (12, some (some [6, 9])), (13, some none)] ?_; have hS := hS.drew; refine s_cq ?_; refine zf0 ?_; refine Zab ?_; refine zl hS ?_; refine Zat ?_; refine zi ?_; intro b1 o1 cs1 x1 hat1 hx1 he1; obtain ⟨vp1, vr1, vb1, rfl, hp1, hr1, hb1⟩ := Qv he1; refine ZaY ?_; refine Zab ?_; refine zf0 ?_; refine Zab ?_; refine zl hS ?_; refine Zat ?_; refine zi ?_; intro b2 o2 cs2 x2 hat2 hx2 he2; obtain ⟨vp2, vr2, vb2, rfl, hp2, hr2, hb2⟩ := Qv he2; refine ZaY ?_; refine ZaR ?_; intro p6 w1 hS; refine ZbJ ?_; intro p7 w1 hS; refine zt ?_)
     all_goals (refine zy ?_; refine Q4n ?_; refine zsn hS ?_; intro w1 hS; have hS := hS.ns; refine ZaK ?_; refine zsn hS ?_; intro w1 hS; have hS := hS.ns; refine Zaw ?_; refine Zav ?_; refine zf0 ?_; refine zl hS ?_; refine zf0 ?_; refine zl hS ?_)
     all_goals (first | (refine QC ?_) | (refine QJ ?_) | (refine Qj rfl rfl (fun hc => ?_) (fun hc => ?_)))
     all_goals (refine zm ?_; (first | refine zgn ?_ | (refine zgy ?_; refine zf0 ?_)); (first | refine zgn ?_ | (refine zgy ?_; refine zl hS ?_)); (first | refine zgn ?_ | (refine zgy ?_; refine zf0 ?_)); (first | refine zgn ?_ | (refine zgy ?_; refine zl hS ?_)))
     all_goals ((first | (refine zgn ?_) | (refine zgy ?_; refine zR2 (c := Q3Z (l := x1.params) (m := x2.params) hp1 hp2 hS) (h := ?_); rintro v1 w1 ⟨rfl, hS⟩; (cases hdec : decide (x1.params = x2.params)); have hg := of_decide_eq_false hdec; rotate_left; have hg := of_decide_eq_true hdec; all_goals skip)))
     all_goals ((first | refine zgn ?_ | (refine ZaP ?_)); refine Zai ?_; (first | refine zgn ?_ | (refine zgy ?_; refine zf0 ?_)); (first | refine zgn ?_ | (refine zgy ?_; refine zl hS ?_)); (first | refine zgn ?_ | (refine zgy ?_; refine zf0 ?_)); (first | refine zgn ?_ | (refine zgy ?_; refine zl hS ?_)))
     all_goals ((first | (refine zgn ?_) | (refine zgy ?_; refine zR2 (c := Q3Z (l := x1.results) (m := x2.results) hr1 hr2 hS) (h := ?_); rintro v1 w1 ⟨rfl, hS⟩; (cases hdec : decide (x1.results = x2.results)); have hg := of_decide_eq_false hdec; rotate_left; have hg := of_decide_eq_true hdec; all_goals skip)))
     all_goals ((first | refine zgn ?_ | (refine ZaP ?_)); refine Zai ?_; (first | refine zgn ?_ | (refine zgy ?_; refine zf0 ?_)); (first | refine zgn ?_ | (refine zgy ?_; refine zl hS ?_)); (first | refine zgn ?_ | (refine zgy ?_; refine zL ?_)); (first | refine zgn ?_ | (refine zgy ?_; refine zf0 ?_)); (first | refine zgn ?_ | (refine zgy ?_; refine zl hS ?_)); (first | refine zgn ?_ | (refine zgy ?_; refine zL ?_)))
     all_goals (first | refine zgn ?_ | (refine zgy ?_; (first | (refine QC ?_) | (refine QJ ?_) | (refine Qj rfl rfl (fun hc => ?_) (fun hc => ?_)))))
     all_goals (refine Zaf ?_)
     all_goals
      first
      | (refine zct ?_
         all_goals (refine Zaq ?_)
         all_goals (first | (refine ⟨_, rfl, ?_, hS.sp⟩; rw [decide_eq_false]; exact fun e => absurd (congrArg List.length e) (by omega); done) | (refine ⟨_, rfl, ?_, hS.sp⟩; (rw [decide_eq_false]; rw [hd, Q2 hx1, Q2 hx2, List.cons.injEq]; rintro ⟨rfl, _⟩; first | (simp_all; done) | (simp at *; omega)); done)))
      | (refine zcf ?_
         all_goals refine zsk ?_)
     all_goals (refine Qb ?_; have hlb := hb1.len; refine Qn ?_; refine ZaC ?_)
     refine zoL hS [2, 3, 5, 6, 7] (fun A LL ρ' w' => ∃ (i : Nat), Has ρ' A ∧ Has ρ' [(8, .int .i64 i)] ∧ (i ≤ x1.blocks.length) ∧ (x1.blocks.length = x2.blocks.length) ∧ (x1.regs = x2.regs) ∧ (x1.params = x2.params) ∧ (x1.results = x2.results) ∧ (x1.blocks = x2.blocks ↔ x1.blocks.drop i = x2.blocks.drop i) ∧ St cx w' (LL)) (fun ρ' _ => (x1.blocks.length - iv (ρ' 8)).toNat) ?_ ?_
     · exact ⟨0, zh, zh, (by omega), (by omega), (by omega), by assumption, by assumption, by simp, hS.sp⟩
     rintro ρ w1 ⟨i, hA, hρ, hi, hlb2, hre, hpe, hrr, hd2, hS⟩; obtain ⟨ρ, rfl⟩ := env2 hA hρ
     all_goals (refine ZaA ?_; refine zf0 ?_; refine zl hS ?_; refine zL ?_; refine Zau ?_)
     refine Qt rfl (fun hc => ?_) (fun hc => ?_)
     · skip
       all_goals (refine ZbL ?_; refine zD (ci 12 [10, 11]) ?_; have hS := hS.drew; refine zf0 ?_; refine zl hS ?_; refine zm ?_; refine zi ?_; intro b3 o3 cs3 x3 hat3 hx3 he3; obtain ⟨vp3, vc3, ve31, ve32, ve33, ve34, ve35, rfl, hp3, hc3, he31, he32, he33, he34, he35⟩ := Q13 he3; (first | (refine zv hS ?_) | (refine zvk hS ?_)); refine zf0 ?_; refine zl hS ?_; refine zm ?_; refine zi ?_; intro b4 o4 cs4 x4 hat4 hx4 he4; obtain ⟨vp4, vc4, ve41, ve42, ve43, ve44, ve45, rfl, hp4, hc4, he41, he42, he43, he44, he45⟩ := Q13 he4; (first | (refine zv hS ?_) | (refine zvk hS ?_)))
       all_goals (refine zR2 (c := Q6V he3 he4 hS) (h := ?_); rintro v1 w1 ⟨rfl, hS⟩; (cases hdec : decide (x3 = x4)); have hg := of_decide_eq_false hdec; rotate_left; have hg := of_decide_eq_true hdec; all_goals skip)
       all_goals (refine Zba ?_)
       all_goals
        first
        | (refine zct ?_
           all_goals (refine Zaq ?_)
           all_goals (first | (refine ⟨_, rfl, ?_, hS.sp⟩; rw [decide_eq_false]; exact fun e => absurd (congrArg List.length e) (by omega); done) | (refine ⟨_, rfl, ?_, hS.sp⟩; (rw [decide_eq_false]; rw [hd, Q2 hx1, Q2 hx2, List.cons.injEq]; rintro ⟨rfl, _⟩; first | (simp_all; done) | (simp at *; omega)); done)))
        | (refine zcf ?_
           all_goals refine zsk ?_)
       all_goals (refine Zak ?_; refine zad ?_; refine Zac ?_; exact ⟨⟨i + 1, zh, zh, (by omega), (by omega), (by omega), by assumption, by assumption, by rw [hd2, Q2 hx3, Q2 hx4, hg]; simp, hS.sp⟩, Qu (by omega)⟩)
     · skip
       all_goals (refine zex ?_; refine Zak ?_; refine zad ?_; refine Zac ?_; exact ⟨⟨j + 1, zh, zh, (by omega), (by omega), by rw [hd, Q2 hx1, Q2 hx2, Fun.eq_of hre hpe hrr (by rw [hd2, List.drop_of_length_le (by omega), List.drop_of_length_le (by omega)])]; simp, hS.sp⟩, Qu (by omega)⟩)
   · skip
     all_goals (refine zC [(0, none), (1, none), (2, none), (3, none), (4, none), (5, none), (6, none), (7, none), (8, none), (9, none), (11, some (some [1, 4, 6, 9])), (10, some (some [1, 4, 6, 9])), (12, some (some [6, 9])), (13, some none)] ?_; have hS := hS.drew; refine s_cq ?_; refine zf0 ?_; refine Zab ?_; refine zl hS ?_; refine Zat ?_; refine zi ?_; intro b1 o1 cs1 x1 hat1 hx1 he1; obtain ⟨vp1, vr1, vb1, rfl, hp1, hr1, hb1⟩ := Qv he1; refine ZaY ?_; refine Zab ?_; refine zf0 ?_; refine Zab ?_; refine zl hS ?_; refine Zat ?_; refine zi ?_; intro b2 o2 cs2 x2 hat2 hx2 he2; obtain ⟨vp2, vr2, vb2, rfl, hp2, hr2, hb2⟩ := Qv he2; refine ZaY ?_; refine ZaR ?_; intro p7 w1 hS; refine ZbJ ?_; intro p6 w1 hS; refine zt ?_)
     all_goals (refine zy ?_; refine Q4n ?_; refine zsn hS ?_; intro w1 hS; have hS := hS.ns; refine ZaK ?_; refine zsn hS ?_; intro w1 hS; have hS := hS.ns; refine Zaw ?_; refine Zav ?_; refine zf0 ?_; refine zl hS ?_; refine zf0 ?_; refine zl hS ?_)
     all_goals (first | (refine QC ?_) | (refine QJ ?_) | (refine Qj rfl rfl (fun hc => ?_) (fun hc => ?_)))
     all_goals (refine zm ?_; (first | refine zgn ?_ | (refine zgy ?_; refine zf0 ?_)); (first | refine zgn ?_ | (refine zgy ?_; refine zl hS ?_)); (first | refine zgn ?_ | (refine zgy ?_; refine zf0 ?_)); (first | refine zgn ?_ | (refine zgy ?_; refine zl hS ?_)))
     all_goals ((first | (refine zgn ?_) | (refine zgy ?_; refine zR2 (c := Q3Z (l := x1.params) (m := x2.params) hp1 hp2 hS) (h := ?_); rintro v1 w1 ⟨rfl, hS⟩; (cases hdec : decide (x1.params = x2.params)); have hg := of_decide_eq_false hdec; rotate_left; have hg := of_decide_eq_true hdec; all_goals skip)))
     all_goals ((first | refine zgn ?_ | (refine ZaP ?_)); refine Zai ?_; (first | refine zgn ?_ | (refine zgy ?_; refine zf0 ?_)); (first | refine zgn ?_ | (refine zgy ?_; refine zl hS ?_)); (first | refine zgn ?_ | (refine zgy ?_; refine zf0 ?_)); (first | refine zgn ?_ | (refine zgy ?_; refine zl hS ?_)))
     all_goals ((first | (refine zgn ?_) | (refine zgy ?_; refine zR2 (c := Q3Z (l := x1.results) (m := x2.results) hr1 hr2 hS) (h := ?_); rintro v1 w1 ⟨rfl, hS⟩; (cases hdec : decide (x1.results = x2.results)); have hg := of_decide_eq_false hdec; rotate_left; have hg := of_decide_eq_true hdec; all_goals skip)))
     all_goals ((first | refine zgn ?_ | (refine ZaP ?_)); refine Zai ?_; (first | refine zgn ?_ | (refine zgy ?_; refine zf0 ?_)); (first | refine zgn ?_ | (refine zgy ?_; refine zl hS ?_)); (first | refine zgn ?_ | (refine zgy ?_; refine zL ?_)); (first | refine zgn ?_ | (refine zgy ?_; refine zf0 ?_)); (first | refine zgn ?_ | (refine zgy ?_; refine zl hS ?_)); (first | refine zgn ?_ | (refine zgy ?_; refine zL ?_)))
     all_goals (first | refine zgn ?_ | (refine zgy ?_; (first | (refine QC ?_) | (refine QJ ?_) | (refine Qj rfl rfl (fun hc => ?_) (fun hc => ?_)))))
     all_goals (refine Zaf ?_)
     all_goals
      first
      | (refine zct ?_
         all_goals (refine Zaq ?_)
         all_goals (first | (refine ⟨_, rfl, ?_, hS.sp⟩; rw [decide_eq_false]; exact fun e => absurd (congrArg List.length e) (by omega); done) | (refine ⟨_, rfl, ?_, hS.sp⟩; (rw [decide_eq_false]; rw [hd, Q2 hx1, Q2 hx2, List.cons.injEq]; rintro ⟨rfl, _⟩; first | (simp_all; done) | (simp at *; omega)); done)))
      | (refine zcf ?_
         all_goals refine zsk ?_)
     all_goals (refine Qb ?_; have hlb := hb1.len; refine Qn ?_; refine ZaC ?_)
     refine zoL hS [2, 3, 5, 6, 7] (fun A LL ρ' w' => ∃ (i : Nat), Has ρ' A ∧ Has ρ' [(8, .int .i64 i)] ∧ (i ≤ x1.blocks.length) ∧ (x1.blocks.length = x2.blocks.length) ∧ (x1.regs = x2.regs) ∧ (x1.params = x2.params) ∧ (x1.results = x2.results) ∧ (x1.blocks = x2.blocks ↔ x1.blocks.drop i = x2.blocks.drop i) ∧ St cx w' (LL)) (fun ρ' _ => (x1.blocks.length - iv (ρ' 8)).toNat) ?_ ?_
     · exact ⟨0, zh, zh, (by omega), (by omega), (by omega), by assumption, by assumption, by simp, hS.sp⟩
     rintro ρ w1 ⟨i, hA, hρ, hi, hlb2, hre, hpe, hrr, hd2, hS⟩; obtain ⟨ρ, rfl⟩ := env2 hA hρ
     all_goals (refine ZaA ?_; refine zf0 ?_; refine zl hS ?_; refine zL ?_; refine Zau ?_)
     refine Qt rfl (fun hc => ?_) (fun hc => ?_)
     · skip
       all_goals (refine ZbL ?_; refine zD (ci 12 [10, 11]) ?_; have hS := hS.drew; refine zf0 ?_; refine zl hS ?_; refine zm ?_; refine zi ?_; intro b3 o3 cs3 x3 hat3 hx3 he3; obtain ⟨vp3, vc3, ve31, ve32, ve33, ve34, ve35, rfl, hp3, hc3, he31, he32, he33, he34, he35⟩ := Q13 he3; (first | (refine zv hS ?_) | (refine zvk hS ?_)); refine zf0 ?_; refine zl hS ?_; refine zm ?_; refine zi ?_; intro b4 o4 cs4 x4 hat4 hx4 he4; obtain ⟨vp4, vc4, ve41, ve42, ve43, ve44, ve45, rfl, hp4, hc4, he41, he42, he43, he44, he45⟩ := Q13 he4; (first | (refine zv hS ?_) | (refine zvk hS ?_)))
       all_goals (refine zR2 (c := Q6V he3 he4 hS) (h := ?_); rintro v1 w1 ⟨rfl, hS⟩; (cases hdec : decide (x3 = x4)); have hg := of_decide_eq_false hdec; rotate_left; have hg := of_decide_eq_true hdec; all_goals skip)
       all_goals (refine Zba ?_)
       all_goals
        first
        | (refine zct ?_
           all_goals (refine Zaq ?_)
           all_goals (first | (refine ⟨_, rfl, ?_, hS.sp⟩; rw [decide_eq_false]; exact fun e => absurd (congrArg List.length e) (by omega); done) | (refine ⟨_, rfl, ?_, hS.sp⟩; (rw [decide_eq_false]; rw [hd, Q2 hx1, Q2 hx2, List.cons.injEq]; rintro ⟨rfl, _⟩; first | (simp_all; done) | (simp at *; omega)); done)))
        | (refine zcf ?_
           all_goals refine zsk ?_)
       all_goals (refine Zak ?_; refine zad ?_; refine Zac ?_; exact ⟨⟨i + 1, zh, zh, (by omega), (by omega), (by omega), by assumption, by assumption, by rw [hd2, Q2 hx3, Q2 hx4, hg]; simp, hS.sp⟩, Qu (by omega)⟩)
     · skip
       all_goals (refine zex ?_; refine Zak ?_; refine zad ?_; refine Zac ?_; exact ⟨⟨j + 1, zh, zh, (by omega), (by omega), by rw [hd, Q2 hx1, Q2 hx2, Fun.eq_of hre hpe hrr (by rw [hd2, List.drop_of_length_le (by omega), List.drop_of_length_le (by omega)])]; simp, hS.sp⟩, Qu (by omega)⟩)
 · skip
   all_goals (refine ZbC ?_)
   all_goals (first | (refine ⟨_, rfl, ?_, hS.sp⟩; rw [decide_eq_false]; exact fun e => absurd (congrArg List.length e) (by omega); done) | (refine ⟨_, rfl, ?_, hS.sp⟩; (rw [decide_eq_false]; rw [hd, Q2 hx1, Q2 hx2, List.cons.injEq]; rintro ⟨rfl, _⟩; first | (simp_all; done) | (simp at *; omega)); done) | (refine ⟨_, rfl, ?_, hS.sp⟩; rw [decide_eq_false]; rw [hd, Q2 hx1, Q2 hx2, List.cons.injEq]; rintro ⟨rfl, _⟩; rw [hx3] at hx4; cases hx4; exact hg rfl; done) | (refine ⟨_, rfl, ?_, hS.sp⟩; rw [decide_eq_true]; rw [hd, List.drop_of_length_le (by omega), List.drop_of_length_le (by omega)]; done))
end Go.Proofs.YteflkifmgnpbhaaGreat
namespace Go.Proofs.YteflkifmgnpbhaaGreat
open Go.Lir
set_option maxHeartbeats 1000000
attribute [local irreducible] LC.wp Q0 QF QE retQ Q16 LO.wp Qf Calls
set_option linter.unusedSimpArgs false
set_option linter.unusedVariables false
variable {cx : Cx} {w : World} {L : List Res} {i : Nat}
abbrev Q37 (vc : Value) : List Value := [.int .i64 0, .slice none 0 0, vc, .int .i64 3, .int .i64 0, .int .i64 0, .slice none 0 0, .slice none 0 0, .int .i64 0, .slice none 0 0, .slice none 0 0, .slice none 0 0]
theorem Q23 : Int2 Tryz.prog 29 := int2_of (by kernel_rfl)
theorem Qc9 (hS : St cx w L) : Rets Tryz.prog QcI [] w fun u w' => ∃ a b, u = .agg ⟨[.slice (some ⟨a, 0, none⟩) 1 1]⟩ ∧ St cx w' (blk a 95 [.int .i64 0, .slice none 0 0, .slice none 0 0, .slice (some ⟨b, 0, none⟩) 1 1] :: blk b 92 (Q37 (.slice none 0 0)) :: L) := by
 all_goals refine lgo tyD Tryz.func51 ?_
 all_goals (refine Zbh ?_; intro p0 w1 hS; refine ZaS ?_; refine zb1 [_, _, _, _, _, _, _, _, _] ?_; refine zb1 [_, _, _, _, _, _, _, _, _, _, _, _] ?_; refine Q2H (cs := [_, _, _, _, _, _, _, _, _, _, _, _]) vw (by rfl) ?_; intro q1 w1 hb1 hf1 _ hk1; have hS := hS.laid hb1 hf1 hk1; refine zb1 [_, _, _, _] ?_; refine Q2H (cs := [_, _, _, _]) vw (by rfl) ?_; intro q2 w1 hb1 hf1 _ hk1; have hS := hS.laid hb1 hf1 hk1; refine zb1 [_] ?_; refine zsn hS ?_; intro w1 hS; have hS := hS.ns; refine ZaX ?_; refine Q19 vw (Q4 (n := 1) (by kernel_rfl) (by kernel_rfl) (hS.blkAt fd) (by rfl) (by rfl)) ?_; exact ⟨_, rfl, q2, q1, rfl, hS.sp⟩)
theorem least_fz {a b : Nat} {code : List Ins} {vc : Value} (hk : insR.sl cx vc code) (hS : St cx w (blk a 95 [.int .i64 0, .slice none 0 0, .slice none 0 0, .slice (some ⟨b, 0, none⟩) 1 1] :: blk b 92 (Q37 vc) :: L)) :
 ∃ c', cx.Le c' ∧ St c' w L ∧ modR.at c' [.slice (some ⟨a, 0, none⟩) 1 1] ⟨[⟨0, [], [], [⟨0, [], code, ⟨3, 0, ⟨0, [], []⟩, ⟨0, [], []⟩, []⟩⟩]⟩]⟩ := by
 have n1 : ∀ c : Cx, intR.sl c (.slice none 0 0) [] := fun c => Rep.SR.nil _ _ _
 have n2 : ∀ c : Cx, tyR.sl c (.slice none 0 0) [] := fun c => Rep.SR.nil _ _ _
 obtain ⟨c1, hle1, hS, h1⟩ := St.freeze1 (r := blockR) (x := ⟨0, [], code, ⟨3, 0, ⟨0, [], []⟩, ⟨0, [], []⟩, []⟩⟩) hS.mv1 (Q4X (x := ⟨0, [], code, ⟨3, 0, ⟨0, [], []⟩, ⟨0, [], []⟩, []⟩⟩) (n2 _) hk (n1 _) (n1 _) (n1 _) (n1 _) (n1 _))
 obtain ⟨c2, hle2, hS, h2⟩ := St.freeze1 (r := funcR) (x := ⟨0, [], [], [⟨0, [], code, ⟨3, 0, ⟨0, [], []⟩, ⟨0, [], []⟩, []⟩⟩]⟩) hS ⟨_, _, _, rfl, n2 _, n2 _, h1⟩
 exact ⟨c2, hle1.trans hle2, hS, _, rfl, h2⟩
end Go.Proofs.YteflkifmgnpbhaaGreat
namespace Go.Proofs.YteflkifmgnpbhaaGreat
open Go.Lir
set_option maxHeartbeats 1000000
attribute [local irreducible] LC.wp Q0 QF QE retQ Q16 LO.wp Qf Calls
set_option linter.unusedSimpArgs false
set_option linter.unusedVariables false
theorem QaD {x : Module} {cx : Cx} {w : World} {L : List Res} {cs : List Value} (hx : modR.at cx cs x) (hS : St cx w L) : Rets Tryz.prog Q50 [.agg ⟨cs⟩] w fun u w' => ∃ b, u = .bool b ∧ (b = false → x.Few) ∧ St cx w' L := by
 obtain ⟨vf, rfl, hl⟩ := Q1k hx
 obtain ⟨l⟩ := x
 have hl : funcR.sl cx vf l := hl
 have hlen := hl.len
 all_goals refine lgo tyD Tryz.func18 ?_
 all_goals (refine Zaz ?_; intro p1 w1 hS; refine ZaT ?_; refine zf0 ?_; refine zl hS ?_; refine zL ?_)
 all_goals (first | (refine QG ?_) | (refine QL ?_) | (refine Qc rfl rfl (fun hc => ?_) (fun hc => ?_)))
 all_goals (refine zn ?_)
 all_goals
  first
  | (refine zct ?_
     all_goals (refine Zaq ?_)
     all_goals (exact ⟨_, rfl, true, rfl, fun h => Bool.noConfusion h, hS.sp⟩))
  | (refine zcf ?_
     all_goals refine zsk ?_)
 all_goals (refine Zbr ?_)
 refine zoL hS [1] (fun A LL ρ' w' => ∃ (j : Nat), Has ρ' A ∧ Has ρ' [(3, .int .i64 j)] ∧ (j ≤ l.length) ∧ (l.length ≤ 20) ∧ (∀ f ∈ l.take j, f.Few) ∧ St cx w' (LL)) (fun ρ' _ => (l.length - iv (ρ' 3)).toNat) ?_ ?_
 · exact ⟨0, zh, zh, (by omega), (by omega), by simp, hS.sp⟩
 rintro ρ w1 ⟨j, hA, hρ, hj, hl20, hd, hS⟩; obtain ⟨ρ, rfl⟩ := env2 hA hρ
 all_goals (refine ZaA ?_; refine zf0 ?_; refine zl hS ?_; refine zL ?_; refine Zau ?_)
 refine Qt rfl (fun hc => ?_) (fun hc => ?_)
 · skip
   all_goals (refine Zbn ?_; refine zf0 ?_; refine zl hS ?_; refine zm ?_; refine zi ?_; intro b1 o1 cs1 x1 hat1 hx1 he1; obtain ⟨vp1, vr1, vb1, rfl, hp1, hr1, hb1⟩ := Qv he1; refine Zas ?_; intro p4 w1 hS; refine zsn hS ?_; intro w1 hS; have hS := hS.ns; refine ZbT ?_; refine zf0 ?_; refine zl hS ?_; refine zL ?_)
   all_goals (first | (refine QG ?_) | (refine QL ?_) | (refine Qc rfl rfl (fun hc => ?_) (fun hc => ?_)))
   all_goals (refine zm ?_; (first | refine zgn ?_ | (refine zgy ?_; refine zf0 ?_)); (first | refine zgn ?_ | (refine zgy ?_; refine zl hS ?_)))
   all_goals ((first | (refine zgn ?_) | (refine zgy ?_; refine zR1 (c := Q42 hp1 hS) (h := ?_); rintro v1 w1 ⟨rfl, hS⟩; cases hg1 : Tys.great x1.params)))
   all_goals (refine Zai ?_; (first | refine zgn ?_ | (refine zgy ?_; refine zf0 ?_)); (first | refine zgn ?_ | (refine zgy ?_; refine zl hS ?_)))
   all_goals ((first | (refine zgn ?_) | (refine zgy ?_; refine zR1 (c := Q42 hr1 hS) (h := ?_); rintro v1 w1 ⟨rfl, hS⟩; cases hg2 : Tys.great x1.results)))
   all_goals (refine Zaf ?_)
   all_goals
    first
    | (refine zct ?_
       all_goals (refine Zaq ?_)
       all_goals (exact ⟨_, rfl, true, rfl, fun h => Bool.noConfusion h, hS.sp⟩))
    | (refine zcf ?_
       all_goals refine zsk ?_)
   all_goals (refine Qb ?_; have hlb := hb1.len; refine Qn ?_; refine ZaC ?_)
   refine zoL hS [1, 3, 4] (fun A LL ρ' w' => ∃ (i : Nat), Has ρ' A ∧ Has ρ' [(5, .int .i64 i)] ∧ (i ≤ x1.blocks.length) ∧ (x1.blocks.length ≤ 30) ∧ (Tys.great x1.params = false) ∧ (Tys.great x1.results = false) ∧ (∀ f ∈ x1.blocks.take i, f.Few) ∧ St cx w' (LL)) (fun ρ' _ => (x1.blocks.length - iv (ρ' 5)).toNat) ?_ ?_
   · exact ⟨0, zh, zh, (by omega), (by omega), by assumption, by assumption, by simp, hS.sp⟩
   rintro ρ w1 ⟨i, hA, hρ, hi, hl30, hg1, hg2, hd1, hS⟩; obtain ⟨ρ, rfl⟩ := env2 hA hρ
   all_goals (refine ZaA ?_; refine zf0 ?_; refine zl hS ?_; refine zL ?_; refine Zau ?_)
   refine Qt rfl (fun hc => ?_) (fun hc => ?_)
   · skip
     all_goals (refine Zbn ?_; refine zf0 ?_; refine zl hS ?_; refine zm ?_; refine zi ?_; intro b2 o2 cs2 x2 hat2 hx2 he2; obtain ⟨vp2, vc2, ve21, ve22, ve23, ve24, ve25, rfl, hp2, hc2, he21, he22, he23, he24, he25⟩ := Q13 he2; refine Zas ?_; intro p6 w1 hS; refine zsn hS ?_; intro w1 hS; have hS := hS.ns; refine ZbT ?_; refine zf0 ?_; refine zl hS ?_; refine zL ?_)
     all_goals (first | (refine QG ?_) | (refine QL ?_) | (refine Qc rfl rfl (fun hc => ?_) (fun hc => ?_)))
     all_goals (refine zm ?_; (first | refine zgn ?_ | (refine zgy ?_; refine zf0 ?_)); (first | refine zgn ?_ | (refine zgy ?_; refine zl hS ?_)))
     all_goals ((first | (refine zgn ?_) | (refine zgy ?_; refine zR1 (c := Q42 hp2 hS) (h := ?_); rintro v1 w1 ⟨rfl, hS⟩; cases hg3 : Tys.great x2.params)))
     all_goals (refine Zai ?_; (first | refine zgn ?_ | (refine zgy ?_; refine zf0 ?_)); (first | refine zgn ?_ | (refine Zaj ?_)); (first | refine zgn ?_ | (refine zgy ?_; refine zl hS ?_)); (first | refine zgn ?_ | (refine zgy ?_; refine zL ?_)))
     all_goals (first | refine zgn ?_ | (refine zgy ?_; (first | (refine QG ?_) | (refine QL ?_) | (refine Qc rfl rfl (fun hc => ?_) (fun hc => ?_)))))
     all_goals (refine Zai ?_; (first | refine zgn ?_ | (refine zgy ?_; refine zf0 ?_)); (first | refine zgn ?_ | (refine Zaj ?_)); (first | refine zgn ?_ | (refine Zaj ?_)); (first | refine zgn ?_ | (refine zgy ?_; refine zl hS ?_)); (first | refine zgn ?_ | (refine zgy ?_; refine zL ?_)))
     all_goals (first | refine zgn ?_ | (refine zgy ?_; (first | (refine QG ?_) | (refine QL ?_) | (refine Qc rfl rfl (fun hc => ?_) (fun hc => ?_)))))
     all_goals (refine Zai ?_; (first | refine zgn ?_ | (refine zgy ?_; refine zf0 ?_)); (first | refine zgn ?_ | (refine Zaj ?_)); (first | refine zgn ?_ | (refine Zaj ?_)); (first | refine zgn ?_ | (refine zgy ?_; refine zl hS ?_)); (first | refine zgn ?_ | (refine zgy ?_; refine zL ?_)))
     all_goals (first | refine zgn ?_ | (refine zgy ?_; (first | (refine QG ?_) | (refine QL ?_) | (refine Qc rfl rfl (fun hc => ?_) (fun hc => ?_)))))
     all_goals (refine Zai ?_; (first | refine zgn ?_ | (refine zgy ?_; refine zf0 ?_)); (first | refine zgn ?_ | (refine Zaj ?_)); (first | refine zgn ?_ | (refine Zaj ?_)); (first | refine zgn ?_ | (refine zgy ?_; refine zl hS ?_)); (first | refine zgn ?_ | (refine zgy ?_; refine zL ?_)))
     all_goals (first | refine zgn ?_ | (refine zgy ?_; (first | (refine QG ?_) | (refine QL ?_) | (refine Qc rfl rfl (fun hc => ?_) (fun hc => ?_)))))
     all_goals (refine Zai ?_; (first | refine zgn ?_ | (refine zgy ?_; refine zf0 ?_)); (first | refine zgn ?_ | (refine Zaj ?_)); (first | refine zgn ?_ | (refine Zaj ?_)); (first | refine zgn ?_ | (refine zgy ?_; refine zl hS ?_)); (first | refine zgn ?_ | (refine zgy ?_; refine zL ?_)))
     all_goals (first | refine zgn ?_ | (refine zgy ?_; (first | (refine QG ?_) | (refine QL ?_) | (refine Qc rfl rfl (fun hc => ?_) (fun hc => ?_)))))
     all_goals (refine Zaf ?_)
     all_goals
      first
      | (refine zct ?_
         all_goals (refine Zaq ?_)
         all_goals (exact ⟨_, rfl, true, rfl, fun h => Bool.noConfusion h, hS.sp⟩))
      | (refine zcf ?_
         all_goals refine zsk ?_)
     all_goals (refine Qb ?_; have hlc := hc2.len; refine Qn ?_; refine ZaC ?_)
     refine zoL hS [1, 3, 4, 5, 6] (fun A LL ρ' w' => ∃ (k : Nat), Has ρ' A ∧ Has ρ' [(7, .int .i64 k)] ∧ (k ≤ x2.code.length) ∧ (x2.code.length ≤ 200) ∧ (Tys.great x2.params = false) ∧ (x2.fin.Few) ∧ (∀ f ∈ x2.code.take k, f.Few) ∧ St cx w' (LL)) (fun ρ' _ => (x2.code.length - iv (ρ' 7)).toNat) ?_ ?_
     · exact ⟨0, zh, zh, (by omega), (by omega), by assumption, ⟨⟨by omega, by omega⟩, ⟨by omega, by omega⟩, by omega⟩, by simp, hS.sp⟩
     rintro ρ w1 ⟨k, hA, hρ, hk, hl200, hg3, hfin, hd2, hS⟩; obtain ⟨ρ, rfl⟩ := env2 hA hρ
     all_goals (refine ZaA ?_; refine zf0 ?_; refine zl hS ?_; refine zL ?_; refine Zau ?_)
     refine Qt rfl (fun hc => ?_) (fun hc => ?_)
     · skip
       all_goals (refine Zbn ?_; refine zf0 ?_; refine zl hS ?_; refine zm ?_; refine zi ?_; intro b3 o3 cs3 x3 hat3 hx3 he3; obtain ⟨vr3, va3, rfl, hr3, ha3⟩ := Q1a he3; refine Zbp ?_; refine zL ?_)
       all_goals (first | (refine QG ?_) | (refine QL ?_) | (refine Qc rfl rfl (fun hc => ?_) (fun hc => ?_)))
       all_goals (refine zm ?_; (first | refine zgn ?_ | (refine zgy ?_; refine zf0 ?_)); (first | refine zgn ?_ | (refine zgy ?_; refine zl hS ?_)); (first | refine zgn ?_ | (refine Zam ?_)); (first | (refine zgn ?_) | (refine zgy ?_; refine Q5X vw rfl (by assumption) rfl (by omega) ?_; intro b4 o4 cs4 x4 hat4 hx4 he4; rw [hx3] at hx4; obtain rfl : x3 = x4 := Option.some.inj hx4; obtain ⟨vr4, va4, rfl, hr4, ha4⟩ := Q1a he4)); (first | refine zgn ?_ | (refine Zaj ?_)); (first | refine zgn ?_ | (refine ZbS ?_)); (first | refine zgn ?_ | (refine zgy ?_; refine zL ?_)))
       all_goals (first | refine zgn ?_ | (refine zgy ?_; (first | (refine QG ?_) | (refine QL ?_) | (refine Qc rfl rfl (fun hc => ?_) (fun hc => ?_)))))
       all_goals (refine Zaf ?_)
       all_goals
        first
        | (refine zct ?_
           all_goals (refine Zaq ?_)
           all_goals (exact ⟨_, rfl, true, rfl, fun h => Bool.noConfusion h, hS.sp⟩))
        | (refine zcf ?_
           all_goals refine zsk ?_)
       all_goals (refine Zak ?_; refine zad ?_; refine Zac ?_; exact ⟨⟨k + 1, zh, zh, (by omega), (by omega), by assumption, by assumption, Q2S hd2 hx3 ⟨by omega, by omega⟩, hS.sp⟩, Qu (by omega)⟩)
     · skip
       all_goals (refine zex ?_; refine Zak ?_; refine zad ?_; refine Zac ?_; exact ⟨⟨i + 1, zh, zh, (by omega), (by omega), by assumption, by assumption, Q2S hd1 hx2 ⟨hg3, by omega, Q3o hd2 (by omega), hfin⟩, hS.sp⟩, Qu (by omega)⟩)
   · skip
     all_goals (refine zex ?_; refine Zak ?_; refine zad ?_; refine Zac ?_; exact ⟨⟨j + 1, zh, zh, (by omega), (by omega), Q2S hd hx1 ⟨hg1, hg2, by omega, Q3o hd1 (by omega)⟩, hS.sp⟩, Qu (by omega)⟩)
 · skip
   all_goals (refine ZbC ?_)
   all_goals (first | (exact ⟨_, rfl, true, rfl, fun h => Bool.noConfusion h, hS.sp⟩) | (have h1 : l.length ≤ 20 := (by omega); exact ⟨_, rfl, false, rfl, fun _ => ⟨h1, Q3o (l := l) hd (by omega)⟩, hS.sp⟩))
end Go.Proofs.YteflkifmgnpbhaaGreat
namespace Go.Proofs.YteflkifmgnpbhaaGreat
open Go.Lir
set_option maxHeartbeats 1000000
attribute [local irreducible] LC.wp Q0 QF QE retQ Q16 LO.wp Qf Calls
set_option linter.unusedSimpArgs false
set_option linter.unusedVariables false
variable {cx : Cx} {w : World} {L : List Res} {m : Module} {inp : List Int}
theorem Q9P {l m : List Int} {v v2 : Value} (hl : intR.sl cx v l) (hm : intR.sl cx v2 m) (hS : St cx w L) : Rets Tryz.prog Q9n [v, v2] w fun u w' => u = .bool (decide (l = m)) ∧ St cx w' L := by
 have hlen := hl.len
 all_goals refine lgo tyD Tryz.func78 ?_
 all_goals (refine Zbk ?_; refine zL ?_; refine zm ?_; refine zL ?_)
 all_goals (first | (refine QC ?_) | (refine QJ ?_) | (refine Qj rfl rfl (fun hc => ?_) (fun hc => ?_)))
 all_goals (refine zn ?_)
 all_goals
  first
  | (refine zct ?_
     all_goals (refine Zaq ?_)
     all_goals (refine ⟨_, rfl, ?_, hS.sp⟩; rw [decide_eq_false]; exact fun e => absurd (congrArg List.length e) (by omega); done))
  | (refine zcf ?_
     all_goals refine zsk ?_)
 all_goals (refine Zbr ?_)
 refine zoL hS [0, 1] (fun A LL ρ' w' => ∃ (j : Nat), Has ρ' A ∧ Has ρ' [(5, .int .i64 j)] ∧ (j ≤ l.length) ∧ (l.length = m.length) ∧ (l = m ↔ l.drop j = m.drop j) ∧ St cx w' (LL)) (fun ρ' _ => (l.length - iv (ρ' 5)).toNat) ?_ ?_
 · exact ⟨0, zh, zh, (by omega), (by omega), by simp, hS.sp⟩
 rintro ρ w1 ⟨j, hA, hρ, hj, hlm, hd, hS⟩; obtain ⟨ρ, rfl⟩ := env2 hA hρ
 all_goals (refine ZbK ?_; refine zL ?_; refine Zau ?_)
 refine Qt rfl (fun hc => ?_) (fun hc => ?_)
 · skip
   all_goals (refine ZbL ?_; refine zD (ci 9 [8]) ?_; have hS := hS.drew; refine ZaO ?_; refine zi ?_; intro b1 o1 cs1 x1 hat1 hx1 he1; obtain rfl := Q1z he1; (first | (refine zl hS ?_) | (refine zlk hS ?_)); refine ZaO ?_; refine zi ?_; intro b2 o2 cs2 x2 hat2 hx2 he2; obtain rfl := Q1z he2; (first | (refine zl hS ?_) | (refine zlk hS ?_)))
   all_goals (first | (refine QC ?_) | (refine QJ ?_) | (refine Qj rfl rfl (fun hc => ?_) (fun hc => ?_)))
   all_goals (refine zn ?_)
   all_goals
    first
    | (refine zct ?_
       all_goals (refine Zaq ?_)
       all_goals (first | (refine ⟨_, rfl, ?_, hS.sp⟩; rw [decide_eq_false]; exact fun e => absurd (congrArg List.length e) (by omega); done) | (refine ⟨_, rfl, ?_, hS.sp⟩; rw [decide_eq_false]; rw [hd, Q2 hx1, Q2 hx2]; simp [*]; done)))
    | (refine zcf ?_
       all_goals refine zsk ?_)
   all_goals (refine Zak ?_; refine zad ?_; refine Zac ?_; exact ⟨⟨j + 1, zh, zh, (by omega), (by omega), by rw [hd, Q2 hx1, Q2 hx2, show x1 = x2 by omega]; simp, hS.sp⟩, Qu (by omega)⟩)
 · skip
   all_goals (refine ZbC ?_; (first | (refine ⟨_, rfl, ?_, hS.sp⟩; rw [decide_eq_false]; exact fun e => absurd (congrArg List.length e) (by omega); done) | (refine ⟨_, rfl, ?_, hS.sp⟩; rw [decide_eq_false]; rw [hd, Q2 hx1, Q2 hx2]; simp [*]; done) | (refine ⟨_, rfl, ?_, hS.sp⟩; rw [decide_eq_true]; rw [hd, List.drop_of_length_le (by omega), List.drop_of_length_le (by omega)]; done)))
theorem Q33 {e e2 f f2 : Int} {xs ys xs2 ys2 : List Int} {v1 v2 v3 v4 : Value} (h1 : intR.sl cx v1 xs) (h2 : intR.sl cx v2 ys) (h3 : intR.sl cx v3 xs2) (h4 : intR.sl cx v4 ys2) (hS : St cx w L) :
 Rets Tryz.prog Q7N [.agg ⟨[.int .i64 e, v1, v2, .int .i64 f]⟩, .agg ⟨[.int .i64 e2, v3, v4, .int .i64 f2]⟩] w fun u w' => u = .bool (decide (e = e2 ∧ xs = xs2 ∧ ys = ys2 ∧ f = f2)) ∧ St cx w' L := by
 all_goals refine lgo tyD Tryz.func31 ?_
 all_goals (refine Zaz ?_; intro p2 w1 hS; refine zb hS ?_; intro p3 w1 hS; refine ZbB ?_; refine zf0 ?_; refine zl hS ?_; refine zf0 ?_; refine zl hS ?_)
 all_goals (first | (refine Qd ?_) | (refine Qh ?_) | (refine Q6 rfl rfl (fun hc => ?_) (fun hc => ?_)))
 all_goals (refine zm ?_; (first | refine zgn ?_ | (refine zgy ?_; refine zf0 ?_)); (first | refine zgn ?_ | (refine zgy ?_; refine zl hS ?_)); (first | refine zgn ?_ | (refine zgy ?_; refine zf0 ?_)); (first | refine zgn ?_ | (refine zgy ?_; refine zl hS ?_)))
 all_goals ((first | (refine zgn ?_) | (refine zgy ?_; refine zR2 (c := Q9P h1 h3 hS) (h := ?_); rintro v1 w1 ⟨rfl, hS⟩; (cases hdec : decide (xs = xs2)); have hg := of_decide_eq_false hdec; rotate_left; have hg := of_decide_eq_true hdec; all_goals skip)))
 all_goals (refine Zai ?_; (first | refine zgn ?_ | (refine zgy ?_; refine zf0 ?_)); (first | refine zgn ?_ | (refine zgy ?_; refine zl hS ?_)); (first | refine zgn ?_ | (refine zgy ?_; refine zf0 ?_)); (first | refine zgn ?_ | (refine zgy ?_; refine zl hS ?_)))
 all_goals ((first | (refine zgn ?_) | (refine zgy ?_; refine zR2 (c := Q9P h2 h4 hS) (h := ?_); rintro v1 w1 ⟨rfl, hS⟩; (cases hdec : decide (ys = ys2)); have hg := of_decide_eq_false hdec; rotate_left; have hg := of_decide_eq_true hdec; all_goals skip)))
 all_goals (refine Zai ?_; (first | refine zgn ?_ | (refine zgy ?_; refine zf0 ?_)); (first | refine zgn ?_ | (refine zgy ?_; refine zl hS ?_)); (first | refine zgn ?_ | (refine zgy ?_; refine zf0 ?_)); (first | refine zgn ?_ | (refine zgy ?_; refine zl hS ?_)))
 all_goals (first | refine zgn ?_ | (refine zgy ?_; (first | (refine Qd ?_) | (refine Qh ?_) | (refine Q6 rfl rfl (fun hc => ?_) (fun hc => ?_)))))
 all_goals (refine Zbf ?_; refine ⟨_, rfl, ?_, hS.sp⟩; (simp [*]); done)
theorem long_c {fuel : Int} {cs : List Value} (hx : modR.at cx cs m) (hS : St cx w L) : Rets Tryz.prog Law_long [.agg ⟨cs⟩, .int .i64 fuel] w fun u w' => ∃ b, u = .bool b ∧ (b = false → m.Few ∧ fuel ≤ 3000) ∧ St cx w' L := by
 have hx' := hx
 obtain ⟨vf, rfl, hf⟩ := Q1k hx
 all_goals refine lgo tyD Tryz.func14 ?_
 all_goals (refine Zaz ?_; intro p2 w1 hS; refine ZbB ?_; refine zv hS ?_)
 all_goals (refine zR1 (c := QaD hx' hS) (h := ?_); rintro v1 w1 ⟨b, rfl, hb, hS⟩; cases b)
 all_goals (refine zm ?_; (first | refine zgn ?_ | (refine Zam ?_)))
 all_goals (first | refine zgn ?_ | (refine zgy ?_; (first | (refine QG ?_) | (refine QL ?_) | (refine Qc rfl rfl (fun hc => ?_) (fun hc => ?_)))))
 all_goals (refine Zbf ?_)
 all_goals ((first | exact ⟨_, rfl, true, rfl, (fun h => by cases h), hS.sp⟩ | exact ⟨_, rfl, _, rfl, (fun h9 => ⟨hb rfl, by first | omega | (have := of_decide_eq_false h9; omega)⟩), hS.sp⟩))
end Go.Proofs.YteflkifmgnpbhaaGreat
namespace Go.Proofs.YteflkifmgnpbhaaGreat
open Go.Lir
set_option maxHeartbeats 1000000
attribute [local irreducible] LC.wp Q0 QF QE retQ Q16 LO.wp Qf Calls
set_option linter.unusedSimpArgs false
set_option linter.unusedVariables false
variable {cx : Cx} {w : World} {L : List Res} {i : Nat}
def toZ : To := ⟨0, [], []⟩
def fiveM : Module := ⟨[⟨0, [], [.mk 1 0 []], [⟨0, [], [⟨1, 0, 0, 0, 0, 5, [], []⟩], ⟨3, 0, toZ, toZ, [0]⟩⟩]⟩]⟩
def freeM : Module := ⟨[⟨0, [], [], [⟨0, [], [⟨3, 0, 0, 0, 0, 0, [], []⟩, ⟨1, 0, 0, 0, 0, 1, [], []⟩, ⟨4, 0, 0, 0, 0, 0, [], []⟩, ⟨4, 0, 0, 0, 0, 0, [], []⟩], ⟨3, 0, toZ, toZ, []⟩⟩]⟩]⟩
theorem QaH : Q1Y fiveM [] 9 0 = (0, 0) := by decide
theorem QaF : Q1Y freeM [] 9 0 = (0, 0) := by decide
theorem five_oc : (Run.all fiveM [] 9 0).oc = ⟨0, [5], [], 2⟩ := by rfl
theorem five_flt : (Run.all fiveM [] 9 0).flt = (0, 0) := by rfl
theorem free_flt : (Run.all freeM [] 9 0).flt = (20, 3) := by rfl
theorem QaI : fiveM.Short := by
 refine ⟨by decide, fun f hf => ?_⟩
 simp [fiveM] at hf; subst hf
 refine ⟨⟨by decide, by simp⟩, ⟨by decide, fun t ht => ?_⟩, by decide, fun b hb => ?_⟩
 · simp at ht; subst ht; exact .mk (by decide) (by simp)
 · simp at hb; subst hb
   refine ⟨⟨by decide, by simp⟩, by decide, fun i hi => ?_, ⟨by decide, by decide⟩, ⟨by decide, by decide⟩, by decide⟩
   simp at hi; subst hi; exact ⟨by decide, by decide⟩
theorem QaG : freeM.Short := by
 refine ⟨by decide, fun f hf => ?_⟩
 simp [freeM] at hf; subst hf
 refine ⟨⟨by decide, by simp⟩, ⟨by decide, by simp⟩, by decide, fun b hb => ?_⟩
 simp at hb; subst hb
 refine ⟨⟨by decide, by simp⟩, by decide, fun i hi => ?_, ⟨by decide, by decide⟩, ⟨by decide, by decide⟩, by decide⟩
 simp at hi; rcases hi with rfl | rfl | rfl <;> exact ⟨by decide, by decide⟩
theorem five_c (hS : St cx w L) : Rets Tryz.prog Law_five [] w fun u w' => ∃ c' vf, cx.Le c' ∧ u = .agg ⟨[vf]⟩ ∧ modR.at c' [vf] fiveM ∧ St c' w' L := by
 have n0 : ∀ c : Cx, tyR.sl c (.slice none 0 0) [] := fun c => Rep.SR.nil _ _ _
 have n1 : ∀ c : Cx, intR.sl c (.slice none 0 0) [] := fun c => Rep.SR.nil _ _ _
 all_goals refine lgo tyD Tryz.func50 ?_
 all_goals (refine Zbh ?_; intro p0 w1 hS; refine ZaS ?_; refine zR0 (c := Qc9 hS) (h := ?_); rintro v1 w1 ⟨la, lb, rfl, hS⟩; simp only [Q37] at hS; refine Qg hS ?_; intro p1 w1 hS; refine zsn hS ?_; intro w1 hS; have hS := hS.ns; refine ZaS ?_; refine zf0 ?_; refine zl hS ?_; refine zb1 [_, _, _] ?_; refine Q2H (cs := [_, _, _]) vw (by rfl) ?_; intro q1 w1 hb1 hf1 _ hk1; have hS := hS.laid hb1 hf1 hk1; refine Q7i rfl rfl (by decide) (by decide) ?_; refine zf0 ?_; refine zst hS ?_; intro w1 hS; have hS := hS.ns; refine ZaS ?_; refine zf0 ?_; refine zl hS ?_; refine Q7i rfl rfl (by decide) (by decide) ?_; refine zf0 ?_; refine zl hS ?_; refine zb2 [_, _, _, _, _, _, _, _] ?_; refine Q2H (cs := [_, _, _, _, _, _, _, _]) vw (by rfl) ?_; intro q2 w1 hb1 hf1 _ hk1; have hS := hS.laid hb1 hf1 hk1; refine Q7i rfl rfl (by decide) (by decide) ?_; refine zf0 ?_; refine zst hS ?_; intro w1 hS; have hS := hS.ns)
 all_goals (refine ZaS ?_; refine zf0 ?_; refine zl hS ?_; refine Q7i rfl rfl (by decide) (by decide) ?_; refine zf0 ?_; refine zl hS ?_; refine Q2H (cs := [_]) vw (by rfl) ?_; intro q3 w1 hb1 hf1 _ hk1; have hS := hS.laid hb1 hf1 hk1; refine Q7i rfl rfl (by decide) (by decide) ?_; refine zf0 ?_; (first | refine zf0 ?_ | refine zfd ?_); refine zst hS ?_; intro w1 hS; have hS := hS.ns; refine ZaS ?_; refine zv hS ?_; refine zsn hS ?_; intro w1 hS; have hS := hS.ns; refine ZaX ?_; refine Q19 vw (Q4 (n := 1) (by kernel_rfl) (by kernel_rfl) (hS.blkAt fd) (by rfl) (by rfl)) ?_; have hS : St cx _ (blk q1 115 [.int .i64 1, .int .i64 0, .slice none 0 0] :: blk q2 84 [.int .i64 1, .int .i64 0, .int .i64 0, .int .i64 0, .int .i64 0, .int .i64 5, .slice none 0 0, .slice none 0 0] :: blk q3 3 [.int .i64 0] :: blk lb 92 [.int .i64 0, .slice none 0 0, .slice (some ⟨q2, 0, none⟩) 1 1, .int .i64 3, .int .i64 0, .int .i64 0, .slice none 0 0, .slice none 0 0, .int .i64 0, .slice none 0 0, .slice none 0 0, .slice (some ⟨q3, 0, none⟩) 1 1] :: blk la 95 [.int .i64 0, .slice none 0 0, .slice (some ⟨q1, 0, none⟩) 1 1, .slice (some ⟨lb, 0, none⟩) 1 1] :: L) := hS.sp; obtain ⟨c1, hle1, hS, h1⟩ := St.freeze1 (r := tyR) (x := .mk 1 0 []) hS (Qbe (n0 _)); obtain ⟨c2, hle2, hS, h2⟩ := St.freeze1 (r := insR) (x := ⟨1, 0, 0, 0, 0, 5, [], []⟩) hS ⟨_, _, rfl, n1 _, n1 _⟩; obtain ⟨c3, hle3, hS, h3⟩ := St.freeze1 (r := intR) (x := 0) hS rfl; obtain ⟨c4, hle4, hS, h4⟩ := St.freeze1 (r := blockR) (x := ⟨0, [], [⟨1, 0, 0, 0, 0, 5, [], []⟩], ⟨3, 0, toZ, toZ, [0]⟩⟩) hS (Q4X (x := ⟨0, [], [⟨1, 0, 0, 0, 0, 5, [], []⟩], ⟨3, 0, toZ, toZ, [0]⟩⟩) (n0 _) (Rep.SR.up h2 hle3) (n1 _) (n1 _) (n1 _) (n1 _) h3); obtain ⟨c5, hle5, hS, h5⟩ := St.freeze1 (r := funcR) (x := ⟨0, [], [.mk 1 0 []], [⟨0, [], [⟨1, 0, 0, 0, 0, 5, [], []⟩], ⟨3, 0, toZ, toZ, [0]⟩⟩]⟩) hS ⟨_, _, _, rfl, n0 _, Rep.SR.up h1 (hle2.trans (hle3.trans hle4)), h4⟩; exact ⟨_, rfl, c5, _, hle1.trans (hle2.trans (hle3.trans (hle4.trans hle5))), rfl, ⟨_, rfl, h5⟩, hS⟩)
theorem RunS.ok {m : Module} {inp : List Int} {fuel pages : Int} {u : Value} (hz : Q1Y m inp fuel pages = (0, 0)) (hs : RunS m inp fuel pages cx L u w) : ∃ c' v1 v2, cx.Le c' ∧ u = .tuple #[ocV (Run.all m inp fuel.toNat pages).oc v1 v2, fltV (Run.all m inp fuel.toNat pages).flt] ∧ intR.sl c' v1 (Run.all m inp fuel.toNat pages).oc.back ∧ intR.sl c' v2 (Run.all m inp fuel.toNat pages).oc.out ∧ St c' w L := by
 rcases hs with ⟨h1, _⟩ | ⟨_, h1⟩
 · rw [hz] at h1; exact absurd rfl h1
 · exact h1
theorem fiver_c {vf : Value} (hx : modR.at cx [vf] fiveM) (hS : St cx w L) : Rets Tryz.prog Q3K [.agg ⟨[vf]⟩, .slice none 0 0, .int .i64 9, .int .i64 0] w fun u w' => ∃ c' u1 u2, cx.Le c' ∧ u = .tuple #[.agg ⟨[.int .i64 0, u1, u2, .int .i64 2]⟩, .agg ⟨[.int .i64 0, .int .i64 0]⟩] ∧ intR.sl c' u1 [5] ∧ intR.sl c' u2 [] ∧ St c' w' L := by
 refine (run_c (m := fiveM) (inp := []) QaI hx (Rep.SR.nil _ _ _) hS).mono fun u w' hs => ?_
 obtain ⟨c', v1, v2, h1, h2, h3, h4, h5⟩ := RunS.ok QaH hs
 rw [show (9 : Int).toNat = 9 from rfl, five_oc] at h2 h3 h4
 rw [five_flt] at h2
 exact ⟨c', v1, v2, h1, h2, h3, h4, h5⟩
theorem freer_c {vf : Value} (hx : modR.at cx [vf] freeM) (hS : St cx w L) : Rets Tryz.prog Q3K [.agg ⟨[vf]⟩, .slice none 0 0, .int .i64 9, .int .i64 0] w fun u w' => ∃ c' a1 x1 y1 a2 x2 y2 e f, cx.Le c' ∧ u = .tuple #[.agg ⟨[.int .i64 e, .slice a1 x1 y1, .slice a2 x2 y2, .int .i64 f]⟩, .agg ⟨[.int .i64 20, .int .i64 3]⟩] ∧ St c' w' L := by
 refine (run_c (m := freeM) (inp := []) QaG hx (Rep.SR.nil _ _ _) hS).mono fun u w' hs => ?_
 obtain ⟨c', v1, v2, h1, h2, h3, h4, h5⟩ := RunS.ok QaF hs
 rw [show (9 : Int).toNat = 9 from rfl, free_flt] at h2
 obtain ⟨a1, y1, rfl⟩ := Rep.SR.shape h3
 obtain ⟨a2, y2, rfl⟩ := Rep.SR.shape h4
 exact ⟨c', _, _, _, _, _, _, _, _, h1, h2, h5⟩
theorem Q8d (hS : St cx w L) : Rets Tryz.prog Q6R [] w fun u w' => u = .bool true ∧ St cx w' L := by
 have n0 : ∀ c : Cx, tyR.sl c (.slice none 0 0) [] := fun c => Rep.SR.nil _ _ _
 have n1 : ∀ c : Cx, intR.sl c (.slice none 0 0) [] := fun c => Rep.SR.nil _ _ _
 all_goals refine lgo tyD Tryz.func13 ?_
 all_goals (refine Zaa ?_; refine ZbB ?_; refine zR0 (c := five_c hS) (h := ?_); rintro v1 w1 ⟨c1, vf, hle1, rfl, hx1, hS⟩; refine zR4 (c := fiver_c hx1 hS) (h := ?_); rintro v1 w1 ⟨c2, u1, u2, hle2, rfl, k1, k2, hS⟩; obtain ⟨a1, m1, rfl⟩ := Rep.SR.shape k1; obtain ⟨a2, m2, rfl⟩ := Rep.SR.shape k2; refine ZbE ?_; intro p1 w1 hS; refine Qg hS ?_; intro p2 w1 hS; refine zsn hS ?_; intro w1 hS; have hS := hS.ns; refine zsn hS ?_; intro w1 hS; have hS := hS.ns; refine ZaS ?_; refine zR0 (c := Qc9 hS) (h := ?_); rintro v1 w1 ⟨la, lb, rfl, hS⟩; simp only [Q37] at hS; refine Qg hS ?_; intro p3 w1 hS; refine zsn hS ?_; intro w1 hS; have hS := hS.ns; refine ZaS ?_; refine zf0 ?_; refine zl hS ?_; refine Q7i rfl rfl (by decide) (by decide) ?_; refine zf0 ?_; refine zl hS ?_; refine zb1 [_, _, _, _, _, _, _, _] ?_; refine zb2 [_, _, _, _, _, _, _, _] ?_; refine zb1 [_, _, _, _, _, _, _, _] ?_)
 all_goals (refine zb1 [_, _, _, _, _, _, _, _] ?_; refine zB4 hS [_, _, _, _, _, _, _, _, _, _, _, _, _, _, _, _, _, _, _, _, _, _, _, _, _, _, _, _, _, _, _, _] ?_; intro cb w1 hS; refine Q7i rfl rfl (by decide) (by decide) ?_; refine zf0 ?_; refine zst hS ?_; intro w1 hS; have hS := hS.ns; refine ZaS ?_; refine zv hS ?_; have hS : St c2 _ (blk cb 84 [.int .i64 3, .int .i64 0, .int .i64 0, .int .i64 0, .int .i64 0, .int .i64 0, .slice none 0 0, .slice none 0 0, .int .i64 1, .int .i64 0, .int .i64 0, .int .i64 0, .int .i64 0, .int .i64 1, .slice none 0 0, .slice none 0 0, .int .i64 4, .int .i64 0, .int .i64 0, .int .i64 0, .int .i64 0, .int .i64 0, .slice none 0 0, .slice none 0 0, .int .i64 4, .int .i64 0, .int .i64 0, .int .i64 0, .int .i64 0, .int .i64 0, .slice none 0 0, .slice none 0 0] :: blk la 95 [.int .i64 0, .slice none 0 0, .slice none 0 0, .slice (some ⟨lb, 0, none⟩) 1 1] :: blk lb 92 (Q37 (.slice (some ⟨cb, 0, none⟩) 4 4)) :: blk p1 33 [.int .i64 0, .slice a1 [5].length m1, .slice a2 ([] : List Int).length m2, .int .i64 2] :: blk p2 29 [.int .i64 0, .int .i64 0] :: blk p3 24 [.slice (some ⟨la, 0, none⟩) 1 1] :: L) := hS.sp; have hS := St.slOf (es := 8) (css := [[.int .i64 3, .int .i64 0, .int .i64 0, .int .i64 0, .int .i64 0, .int .i64 0, .slice none 0 0, .slice none 0 0], [.int .i64 1, .int .i64 0, .int .i64 0, .int .i64 0, .int .i64 0, .int .i64 1, .slice none 0 0, .slice none 0 0], [.int .i64 4, .int .i64 0, .int .i64 0, .int .i64 0, .int .i64 0, .int .i64 0, .slice none 0 0, .slice none 0 0], [.int .i64 4, .int .i64 0, .int .i64 0, .int .i64 0, .int .i64 0, .int .i64 0, .slice none 0 0, .slice none 0 0]]) hS rfl (by simp) rfl; obtain ⟨c3, hle3, hS, hk⟩ := St.freezeL (r := insR) (l := [⟨3, 0, 0, 0, 0, 0, [], []⟩, ⟨1, 0, 0, 0, 0, 1, [], []⟩, ⟨4, 0, 0, 0, 0, 0, [], []⟩, ⟨4, 0, 0, 0, 0, 0, [], []⟩]) hS ((((((Rep.LR.nil insR _ _).push ⟨_, _, rfl, n1 _, n1 _⟩).push ⟨_, _, rfl, n1 _, n1 _⟩).push ⟨_, _, rfl, n1 _, n1 _⟩).push ⟨_, _, rfl, n1 _, n1 _⟩)) rfl (by decide); obtain ⟨c4, hle4, hS, hm2⟩ := least_fz hk hS; refine zR4 (c := freer_c hm2 hS) (h := ?_); rintro v1 w1 ⟨c5, a3, x3, y3, a4, x4, y4, e5, f5, hle5, rfl, hS⟩)
 all_goals (refine ZbE ?_; intro p4 w1 hS; refine Qg hS ?_; intro p5 w1 hS; refine zsn hS ?_; intro w1 hS; have hS := hS.ns; refine zsn hS ?_; intro w1 hS; have hS := hS.ns; refine ZaS ?_; refine zf0 ?_; refine zl hS ?_)
 all_goals (refine Qd ?_)
 all_goals (refine zm ?_; (first | refine zgn ?_ | (refine zgy ?_; refine zv hS ?_)); (first | (refine zgn ?_) | (refine zgy ?_; refine Q2H (cs := [_]) vw (by rfl) ?_; intro q3 w1 hb1 hf1 _ hk1; have hS := hS.laid hb1 hf1 hk1)); (first | refine zgn ?_ | (refine zgy ?_; refine zb2 [_, _, _, _] ?_)); (first | (refine zgn ?_) | (refine zgy ?_; obtain ⟨c6, hle6, hS, h6⟩ := St.freeze1 (r := intR) (x := 5) hS rfl; refine zR2 (c := Q33 (Rep.SR.up k1 (hle3.trans (hle4.trans (hle5.trans hle6)))) (Rep.SR.up k2 (hle3.trans (hle4.trans (hle5.trans hle6)))) h6 (n1 _) hS) (h := ?_); rintro v1 w1 ⟨rfl, hS⟩; rw [show decide ((0 : Int) = 0 ∧ [(5 : Int)] = [5] ∧ ([] : List Int) = [] ∧ (2 : Int) = 2) = true by decide])); refine zpt ?_; refine zm ?_; (first | refine zgn ?_ | (refine zgy ?_; refine zv hS ?_)); (first | refine zgn ?_ | (refine zgy ?_; refine zb2 [_, _] ?_)); (first | (refine zgn ?_) | (refine zgy ?_; refine Q8S (a := (20, 3)) Q23 rfl rfl ?_)); refine zpt ?_; refine Zah ?_; exact ⟨_, rfl, rfl, St.weak hS.sp (hle1.trans (hle2.trans (hle3.trans (hle4.trans (hle5.trans hle6)))))⟩)
end Go.Proofs.YteflkifmgnpbhaaGreat
namespace Go.Proofs.YteflkifmgnpbhaaGreat
open Go.Lir
set_option maxHeartbeats 1000000
attribute [local irreducible] LC.wp Q0 QF QE retQ Q16 LO.wp Qf Calls
set_option linter.unusedSimpArgs false
set_option linter.unusedVariables false
def H1 : HT := ⟨182, 278, 131, 46⟩
structure GZ where
 fn : Value
 fv : Value
 iv : Value
 e : Int
 bv : Value
 ov : Value
 fu : Int
 mo : Int
 dn : Bool
 c : Int
 a : Int
@[reducible] def gBlk (z : GZ) (b : Nat) (lv : Value) (left : Int) : Res := blk b 49 [z.fn, lv, .int .i64 left, z.fv, z.iv, .int .i64 z.e, z.bv, z.ov, .int .i64 z.fu, .int .i64 z.mo, .bool z.dn, .int .i64 z.c, .int .i64 z.a]
abbrev Q49 (z : GZ) (b : Nat) (lv : Value) (left : Int) (rv : List RgnV) (L : List Res) : List Res := gBlk z b lv left :: sl 131 4 lv (rv.map RgnV.cells) :: big (RgnV.res H1) rv :: L
def Q1D (z : GZ) (N : Nat) (h : Value) (s : HpS) : Res := Res.ex fun x : Nat × Value × List RgnV => Res.pure (h = .pointer (some ⟨x.1, 1, none⟩) ∧ HpO N s x.2.2) (Q4y [gBlk z x.1 x.2.1 s.left, sl 131 4 x.2.1 (x.2.2.map RgnV.cells), big (RgnV.res H1) x.2.2])
variable {z : GZ} {cx : Cx} {w : World} {L : List Res} {i : Nat} {N : Nat} {h : Value} {s : HpS}
theorem Q4k (hS : St cx w (Q1D z N h s :: L)) : ∃ b lv rv, h = .pointer (some ⟨b, 1, none⟩) ∧ HpO N s rv ∧ St cx w (Q49 z b lv s.left rv L) := by
 obtain ⟨⟨b, lv, rv⟩, h⟩ := hS.ex
 obtain ⟨⟨h0, h1⟩, h2⟩ := h.pure
 exact ⟨b, lv, rv, h0, h1, h2.list⟩
theorem Qk {b : Nat} {lv : Value} {rv : List RgnV} (ho : HpO N s rv) (hS : St cx w (Q49 z b lv s.left rv L)) : St cx w (Q1D z N (.pointer (some ⟨b, 1, none⟩)) s :: L) :=
 St.ex' (b, lv, rv) (St.pure' ⟨rfl, ho⟩ (St.list' hS))
theorem Q2F (hS : St cx w L) {b : Nat} (hi : nth L i = some (Q1D z N (.pointer (some ⟨b, 1, none⟩)) s)) : ∃ lv rv, HpO N s rv ∧ St cx w (Q49 z b lv s.left rv (L.eraseIdx i)) := by
 obtain ⟨b', lv, rv, he, ho, h⟩ := Q4k (hS.out hi)
 cases he
 exact ⟨lv, rv, ho, h⟩
theorem Q1T (hS : St cx w L) (hi : nth L i = some (Q1D z N h s)) : s.Ok N ∧ ∃ b, h = .pointer (some ⟨b, 1, none⟩) := by
 obtain ⟨b, lv, rv, he, ho, _⟩ := Q4k (hS.out hi); exact ⟨ho.ok, b, he⟩

variable {b : Nat} {lv : Value} {left : Int} {rv : List RgnV}
theorem Q4p (k : Int) (ho : HpO N s rv) (hS : St cx w (Q49 z b lv left rv L)) : Rets Tryz.prog Q8q [.pointer (some ⟨b, 1, none⟩), .int .i64 k] w fun v w' => v = .bool (s.has k) ∧ St cx w' (Q49 z b lv left rv L) := by
 rcases (show (k < 0 ∨ (rv.length : Int) ≤ k) ∨ ∃ m : Nat, k = m ∧ m < rv.length by (by_cases h : k < 0 ∨ (rv.length : Int) ≤ k; (exact .inl h); exact .inr ⟨k.toNat, by omega, by omega⟩)) with hk | ⟨m, rfl, hm⟩
 · have e0 := ho.out hk
   all_goals refine lgo tyD Tryz.func222 ?_
   all_goals (refine Zbb ?_)
   all_goals (first | (refine Q2l ?_) | (refine Q2U ?_) | (refine Q1M rfl rfl (fun hc => ?_) (fun hc => ?_)))
   all_goals (refine zm ?_; (first | refine zgn ?_ | (refine Zam ?_)); (first | refine zgn ?_ | (refine Zam ?_)); (first | refine zgn ?_ | (refine ZaQ ?_)); (first | refine zgn ?_ | (refine Zaj ?_)); (first | refine zgn ?_ | (refine zgy ?_; refine zl hS ?_)); (first | refine zgn ?_ | (refine ZaM ?_)))
   all_goals (first | refine zgn ?_ | (refine ZbG ?_))
   all_goals (refine Zai ?_; refine zgn ?_; refine zgn ?_; refine zgn ?_; refine zgn ?_; refine zgn ?_; refine zgn ?_; refine zgn ?_; refine zgn ?_; refine Zbf ?_; exact ⟨_, rfl, by rw [e0], hS⟩)
 · obtain ⟨r, hr, hrs, _⟩ := ho.at_ hm
   have e0 : s.has m = r.there := by unfold HpS.has; rw [hrs]; rfl
   all_goals refine lgo tyD Tryz.func222 ?_
   all_goals (refine Zbb ?_)
   all_goals (refine Q2l ?_)
   all_goals (refine zm ?_; (first | refine zgn ?_ | (refine Zam ?_)); (first | refine zgn ?_ | (refine Zam ?_)); (first | refine zgn ?_ | (refine ZaQ ?_)); (first | refine zgn ?_ | (refine Zaj ?_)); (first | refine zgn ?_ | (refine zgy ?_; (first | (refine Q1 hS (by assumption) rfl fd (by exact List.length_map _) (Qp hr) rfl ?_) | (refine zl hS ?_)))); (first | refine zgn ?_ | (refine ZaM ?_)))
   all_goals (first | refine zgn ?_ | (refine zgy ?_; refine Q1c ?_))
   all_goals (refine zpt ?_; refine zm ?_; (first | refine zgn ?_ | (refine Zam ?_)); (first | refine zgn ?_ | (refine ZaQ ?_)); (first | refine zgn ?_ | (refine Zaj ?_)); (first | refine zgn ?_ | (refine zgy ?_; (first | (refine Q1 hS (by assumption) rfl fd (by exact List.length_map _) (Qp hr) rfl ?_) | (refine zl hS ?_)))); (first | refine zgn ?_ | (refine Zam ?_)); (first | refine zgn ?_ | (refine zgy ?_; (first | ((first | refine zi ?_ | refine zj ?_); intro b1 o1 cs1 x1 hat1 hx1 he1; obtain ⟨vp1, vr1, vb1, rfl, hp1, hr1, hb1⟩ := Qv he1) | (refine zie hS ?_; intro b1 o1 hel1)))); (first | refine zgn ?_ | (refine Zaj ?_)); (first | refine zgn ?_ | (refine zgy ?_; refine Q1 hS (by assumption) rfl fd (by first | exact List.length_map _ | rfl) (Qp hr) rfl ?_)); refine zpt ?_; refine Zah ?_; exact ⟨_, rfl, by rw [e0], hS⟩)
theorem Q9L (v : Val) (ho : HpO N s rv) (hS : St cx w (Q49 z b lv left rv L)) : Rets Tryz.prog Q6O [.pointer (some ⟨b, 1, none⟩), v.v] w fun u w' => St cx w' (Q49 z b lv left rv L) ∧ (s.at_ v = none ∧ u = .pointer none ∨ ∃ k t th, s.at_ v = some (k, t) ∧ ThgAt rv k t th u) := by
 by_cases hv : v.kind = 3 ∨ v.kind = 4
 · cases hh : s.has v.region with
   | false =>
     have e0 : s.at_ v = none := by unfold HpS.at_; rw [if_neg (by rw [hh]; simp)]
     all_goals refine lgo tyD Tryz.func224 ?_
     all_goals (refine Zaa ?_; refine QZ hS vw (by rfl) ?_; intro b3 w1 hS; simp only [Val.cells] at hS; refine ZbA ?_; refine zD (ci 35 [12, 34]) ?_; have hS := hS.drew; refine zf0 ?_; refine zl hS ?_)
     all_goals (first | (refine QC ?_) | (refine QJ ?_) | (refine Qj rfl rfl (fun hc => ?_) (fun hc => ?_)))
     all_goals (refine zm ?_; (first | refine zgn ?_ | (refine zgy ?_; refine zf0 ?_)); (first | refine zgn ?_ | (refine zgy ?_; refine zl hS ?_)))
     all_goals (first | refine zgn ?_ | (refine ZaL ?_))
     all_goals (refine Zai ?_; (first | refine zgn ?_ | (refine Zam ?_)); (first | refine zgn ?_ | (refine zgy ?_; refine zf0 ?_)); (first | refine zgn ?_ | (refine zgy ?_; refine zl hS ?_)); (first | refine zgn ?_ | (refine zgy ?_; refine zR2 (c := Q4p _ ho (St.rot1 hS)) (h := ?_); rintro v1 w1 ⟨rfl, hS⟩; rw [hh])); (first | refine zgn ?_ | (refine ZaP ?_)); refine Zai ?_; refine zgn ?_; refine zgn ?_)
     all_goals (refine zgn ?_)
     all_goals (refine zpt ?_; refine zm ?_; refine zgn ?_; refine zgn ?_; refine zgn ?_; refine zgn ?_; refine zgn ?_; refine zgn ?_; refine zgn ?_; refine zgn ?_; refine zgn ?_; refine zgn ?_)
     all_goals (refine zgn ?_; refine zgn ?_)
     all_goals (refine zgn ?_)
     all_goals (refine zpt ?_; refine zn ?_)
     all_goals refine zct ?_
     all_goals (refine Zaq ?_; exact ⟨_, rfl, hS.sp, .inl ⟨e0, rfl⟩⟩)
   | true =>
     obtain ⟨vk, vr, vt, vn⟩ := v
     have hv' : vk = 3 ∨ vk = 4 := hv
     obtain ⟨m, rfl, hm⟩ := ho.has_in hh
     obtain ⟨r, hr, hrs, _⟩ := ho.at_ hm
     have hrl : (s.reg (m : Int)).l.length = r.l.length := by rw [hrs]; exact List.length_map _
     have hrn := (ho.rng hr).1
     have hmt : (m : Int).toNat = m := by omega
     by_cases ht : 0 ≤ vt ∧ vt < r.l.length
     · obtain ⟨t, rfl⟩ := Int.eq_ofNat_of_zero_le ht.1
       have htt : (t : Int).toNat = t := by omega
       obtain ⟨th, hth⟩ : ∃ th, r.l[t]? = some th := ⟨_, List.getElem?_eq_getElem (by omega)⟩
       have hthg := ho.thg hr hth
       have e1 : s.at_ ⟨vk, m, t, vn⟩ = if th.array = decide (vk = 4) then some (m, t) else none := by
        unfold HpS.at_
        simp only [hmt, htt, hthg, hh, hrl]
        by_cases ha : th.array = decide (vk = 4)
        · rw [if_pos ⟨hv', trivial, ht.1, ht.2, ha⟩, if_pos ha]
        · rw [if_neg (fun h => ha h.2.2.2.2), if_neg ha]
       all_goals refine lgo tyD Tryz.func224 ?_
       all_goals (refine Zaa ?_; refine QZ hS vw (by rfl) ?_; intro b3 w1 hS; simp only [Val.cells] at hS; refine ZbA ?_; refine zD (ci 35 [12, 34]) ?_; have hS := hS.drew; refine zf0 ?_; (first | (refine Q1 hS (by assumption) rfl fd (by exact List.length_map _) (Qp hr) rfl ?_) | (refine Q1 (Qq (H := H1) hS hr) (by assumption) rfl nth0 (by exact List.length_map _) (Q1J hth) rfl ?_) | (refine zl hS ?_)))
       all_goals (first | (refine QC ?_) | (refine QJ ?_) | (refine Qj rfl rfl (fun hc => ?_) (fun hc => ?_)))
       all_goals (refine zm ?_; (first | refine zgn ?_ | (refine zgy ?_; refine zf0 ?_)); (first | refine zgn ?_ | (refine zgy ?_; (first | (refine Q1 hS (by assumption) rfl fd (by exact List.length_map _) (Qp hr) rfl ?_) | (refine Q1 (Qq (H := H1) hS hr) (by assumption) rfl nth0 (by exact List.length_map _) (Q1J hth) rfl ?_) | (refine zl hS ?_)))))
       all_goals (first | refine zgn ?_ | (refine ZaL ?_))
       all_goals (refine Zai ?_; (first | refine zgn ?_ | (refine Zam ?_)); (first | refine zgn ?_ | (refine zgy ?_; refine zf0 ?_)); (first | refine zgn ?_ | (refine zgy ?_; (first | (refine Q1 hS (by assumption) rfl fd (by exact List.length_map _) (Qp hr) rfl ?_) | (refine Q1 (Qq (H := H1) hS hr) (by assumption) rfl nth0 (by exact List.length_map _) (Q1J hth) rfl ?_) | (refine zl hS ?_)))); (first | refine zgn ?_ | (refine zgy ?_; refine zR2 (c := Q4p _ ho (St.rot1 hS)) (h := ?_); rintro v1 w1 ⟨rfl, hS⟩; rw [hh])); (first | refine zgn ?_ | (refine ZaP ?_)); refine Zai ?_; (first | refine zgn ?_ | (refine zgy ?_; refine zf0 ?_)); (first | refine zgn ?_ | (refine zgy ?_; (first | (refine Q1 hS (by assumption) rfl fd (by exact List.length_map _) (Qp hr) rfl ?_) | (refine Q1 (Qq (H := H1) hS hr) (by assumption) rfl nth0 (by exact List.length_map _) (Q1J hth) rfl ?_) | (refine zl hS ?_)))))
       all_goals (first | refine zgn ?_ | (refine ZbG ?_))
       all_goals (refine Zai ?_; (first | refine zgn ?_ | (refine zgy ?_; refine zf0 ?_)); (first | refine zgn ?_ | (refine zgy ?_; (first | (refine Q1 hS (by assumption) rfl fd (by exact List.length_map _) (Qp hr) rfl ?_) | (refine Q1 (Qq (H := H1) hS hr) (by assumption) rfl nth0 (by exact List.length_map _) (Q1J hth) rfl ?_) | (refine zl hS ?_)))); (first | refine zgn ?_ | (refine Zam ?_)); (first | refine zgn ?_ | (refine ZaQ ?_)); (first | refine zgn ?_ | (refine Zaj ?_)); (first | refine zgn ?_ | (refine zgy ?_; (first | (refine Q1 hS (by assumption) rfl fd (by exact List.length_map _) (Qp hr) rfl ?_) | (refine Q1 (Qq (H := H1) hS hr) (by assumption) rfl nth0 (by exact List.length_map _) (Q1J hth) rfl ?_) | (refine zl hS ?_)))); (first | refine zgn ?_ | (refine zgy ?_; refine zf0 ?_)); (first | refine zgn ?_ | (refine zgy ?_; (first | (refine Q1 hS (by assumption) rfl fd (by exact List.length_map _) (Qp hr) rfl ?_) | (refine Q1 (Qq (H := H1) hS hr) (by assumption) rfl nth0 (by exact List.length_map _) (Q1J hth) rfl ?_) | (refine zl hS ?_)))))
       all_goals ((first | refine zgn ?_ | (refine zgy ?_; (first | (refine Q29 (Qq (H := H1) hS hr) vw rfl nth0 (by first | omega | (simp only [List.length_map, List.length_append, List.length_cons, List.length_nil, List.length_set, List.length_replicate]; omega) | (simp; done) | (simp; omega)) ?_; rw [List.length_map]; intro b5 o5 hel5) | ((first | refine zi ?_ | refine zj ?_); intro b1 o1 cs1 x1 hat1 hx1 he1; obtain ⟨vp1, vr1, vb1, rfl, hp1, hr1, hb1⟩ := Qv he1) | (refine zie hS ?_; intro b1 o1 hel1)))); (first | refine zgn ?_ | (refine Zaj ?_)); (first | refine zgn ?_ | (refine zgy ?_; refine Q1 hS (by assumption) rfl fd (by first | exact List.length_map _ | rfl) (Qp hr) rfl ?_)); (first | (refine zgn ?_) | (refine zgy ?_; refine QY (Qq (H := H1) hS hr) vw nth0 (by exact List.length_map _) ?_)))
       all_goals (first | refine zgn ?_ | (refine zgy ?_; (first | (refine Q2l ?_) | (refine Q2U ?_))))
       all_goals (refine Zaf ?_)
       all_goals
        first
        | (refine zct ?_
           all_goals (refine Zaq ?_)
           all_goals (exact ⟨_, rfl, hS.sp, .inl ⟨by rw [e1]; simp [hta, hk4], rfl⟩⟩))
        | (refine zcf ?_
           all_goals refine zsk ?_)
       all_goals (refine Qb ?_; have hS : St cx _ (Q49 z b lv left rv _) := (by exact hS); refine zD (ci 13 [12]) ?_; have hS := hS.drew; refine ZaW ?_; (first | (refine Q1 hS (by assumption) rfl fd (by exact List.length_map _) (Qp hr) rfl ?_) | (refine Q1 (Qq (H := H1) hS hr) (by assumption) rfl nth0 (by exact List.length_map _) (Q1J hth) rfl ?_) | (refine zl hS ?_)); refine zf0 ?_; (first | (refine Q1 hS (by assumption) rfl fd (by first | exact List.length_map _ | rfl) (Qp hr) rfl ?_) | (refine Q1 (Qq (H := H1) hS hr) (by assumption) rfl nth0 (by exact List.length_map _) (Q1J hth) rfl ?_) | (refine zl hS ?_)); (first | (refine Q29 (Qq (H := H1) hS hr) vw rfl nth0 (by first | omega | (simp only [List.length_map, List.length_append, List.length_cons, List.length_nil, List.length_set, List.length_replicate]; omega) | (simp; done) | (simp; omega)) ?_; rw [List.length_map]; intro b5 o5 hel5) | ((first | refine zi ?_ | refine zj ?_); intro b2 o2 cs2 x2 hat2 hx2 he2; obtain ⟨vp2, vr2, vb2, rfl, hp2, hr2, hb2⟩ := Qv he2) | (refine zie hS ?_; intro b2 o2 hel2)); (first | refine zf0 ?_ | refine zfd ?_); refine Q1 hS (by assumption) rfl fd (by first | exact List.length_map _ | rfl) (Qp hr) rfl ?_)
       all_goals (refine zf0 ?_; (first | (refine Q1 hS (by assumption) rfl fd (by first | exact List.length_map _ | rfl) (Qp hr) rfl ?_) | (refine Q1 (Qq (H := H1) hS hr) (by assumption) rfl nth0 (by exact List.length_map _) (Q1J hth) rfl ?_) | (refine zl hS ?_)); refine Q29 (Qq (H := H1) hS hr) vw rfl nth0 (by first | omega | (simp only [List.length_map, List.length_append, List.length_cons, List.length_nil, List.length_set, List.length_replicate]; omega)) ?_; rw [List.length_map]; intro b5 o5 hel5; refine ZbA ?_; refine zD (ci 8 [7]) ?_; have hS := hS.drew; refine ZaW ?_; (first | (refine Q1 hS (by assumption) rfl fd (by exact List.length_map _) (Qp hr) rfl ?_) | (refine Q1 (Qq (H := H1) hS hr) (by assumption) rfl nth0 (by exact List.length_map _) (Q1J hth) rfl ?_)); refine zf0 ?_; (first | (refine Q1 hS (by assumption) rfl fd (by first | exact List.length_map _ | rfl) (Qp hr) rfl ?_) | (refine Q1 (Qq (H := H1) hS hr) (by assumption) rfl nth0 (by exact List.length_map _) (Q1J hth) rfl ?_) | (refine zl hS ?_)))
       all_goals (cases hta : th.array <;> by_cases hk4 : vk = 4 <;> first | (refine Q14 rfl rfl hk4 ?_) | (refine Q15 rfl rfl hk4 ?_))
       all_goals ((first | refine Q8T (by kernel_rfl) rfl rfl rfl ?_ | refine s_bne (by kernel_rfl) rfl rfl ?_); refine zn ?_)
       all_goals
        first
        | (refine zct ?_
           all_goals (refine Zaq ?_)
           all_goals (exact ⟨_, rfl, hS.sp, .inl ⟨by rw [e1]; simp [hta, hk4], rfl⟩⟩))
        | (refine zcf ?_
           all_goals refine zsk ?_)
       all_goals (refine Zbt ?_; (first | exact ⟨_, rfl, hS.sp, .inl ⟨by rw [e1]; simp [hta, hk4], rfl⟩⟩ | exact ⟨_, rfl, hS.sp, .inr ⟨m, t, th, by rw [e1]; simp [hta, hk4], r, b5, o5, hr, hth, rfl, hel5⟩⟩))
     · have e0 : s.at_ ⟨vk, m, vt, vn⟩ = none := by unfold HpS.at_; rw [if_neg fun h => ht ⟨h.2.2.1, by have := h.2.2.2.1; simp only [hrl] at this; exact this⟩]
       all_goals refine lgo tyD Tryz.func224 ?_
       all_goals (refine Zaa ?_; refine QZ hS vw (by rfl) ?_; intro b3 w1 hS; simp only [Val.cells] at hS; refine ZbA ?_; refine zD (ci 35 [12, 34]) ?_; have hS := hS.drew; refine zf0 ?_; (first | (refine Q1 hS (by assumption) rfl fd (by exact List.length_map _) (Qp hr) rfl ?_) | (refine zl hS ?_)))
       all_goals (first | (refine QC ?_) | (refine QJ ?_) | (refine Qj rfl rfl (fun hc => ?_) (fun hc => ?_)))
       all_goals (refine zm ?_; (first | refine zgn ?_ | (refine zgy ?_; refine zf0 ?_)); (first | refine zgn ?_ | (refine zgy ?_; (first | (refine Q1 hS (by assumption) rfl fd (by exact List.length_map _) (Qp hr) rfl ?_) | (refine zl hS ?_)))))
       all_goals (first | refine zgn ?_ | (refine ZaL ?_))
       all_goals (refine Zai ?_; (first | refine zgn ?_ | (refine Zam ?_)); (first | refine zgn ?_ | (refine zgy ?_; refine zf0 ?_)); (first | refine zgn ?_ | (refine zgy ?_; (first | (refine Q1 hS (by assumption) rfl fd (by exact List.length_map _) (Qp hr) rfl ?_) | (refine zl hS ?_)))); (first | refine zgn ?_ | (refine zgy ?_; refine zR2 (c := Q4p _ ho (St.rot1 hS)) (h := ?_); rintro v1 w1 ⟨rfl, hS⟩; rw [hh])); (first | refine zgn ?_ | (refine ZaP ?_)); refine Zai ?_; (first | refine zgn ?_ | (refine zgy ?_; refine zf0 ?_)); (first | refine zgn ?_ | (refine zgy ?_; (first | (refine Q1 hS (by assumption) rfl fd (by exact List.length_map _) (Qp hr) rfl ?_) | (refine zl hS ?_)))))
       all_goals (first | refine zgn ?_ | (refine zgy ?_; (first | (refine Q1c ?_) | (refine Q1l ?_) | (refine QB rfl rfl (fun hc => ?_) (fun hc => ?_)))))
       all_goals (refine Zai ?_; (first | refine zgn ?_ | (refine zgy ?_; refine zf0 ?_)); (first | refine zgn ?_ | (refine zgy ?_; (first | (refine Q1 hS (by assumption) rfl fd (by exact List.length_map _) (Qp hr) rfl ?_) | (refine zl hS ?_)))); (first | refine zgn ?_ | (refine Zam ?_)); (first | refine zgn ?_ | (refine ZaQ ?_)); (first | refine zgn ?_ | (refine Zaj ?_)); (first | refine zgn ?_ | (refine zgy ?_; (first | (refine Q1 hS (by assumption) rfl fd (by exact List.length_map _) (Qp hr) rfl ?_) | (refine zl hS ?_)))); (first | refine zgn ?_ | (refine zgy ?_; refine zf0 ?_)); (first | refine zgn ?_ | (refine zgy ?_; (first | (refine Q1 hS (by assumption) rfl fd (by exact List.length_map _) (Qp hr) rfl ?_) | (refine zl hS ?_)))); (first | refine zgn ?_ | (refine zgy ?_; (first | ((first | refine zi ?_ | refine zj ?_); intro b1 o1 cs1 x1 hat1 hx1 he1; obtain ⟨vp1, vr1, vb1, rfl, hp1, hr1, hb1⟩ := Qv he1) | (refine zie hS ?_; intro b1 o1 hel1)))))
       all_goals ((first | refine zgn ?_ | (refine Zaj ?_)); (first | refine zgn ?_ | (refine zgy ?_; refine Q1 hS (by assumption) rfl fd (by first | exact List.length_map _ | rfl) (Qp hr) rfl ?_)); (first | refine zgn ?_ | (refine zgy ?_; refine QY (Qq (H := H1) hS hr) vw nth0 (by exact List.length_map _) ?_)))
       all_goals (first | refine zgn ?_ | (refine zgy ?_; refine Q2l ?_))
       all_goals (refine Zaf ?_)
       all_goals refine zct ?_
       all_goals (refine Zaq ?_; exact ⟨_, rfl, hS.sp, .inl ⟨e0, rfl⟩⟩)
 · have e0 : s.at_ v = none := by unfold HpS.at_; rw [if_neg fun h => hv h.1]
   all_goals refine lgo tyD Tryz.func224 ?_
   all_goals (refine Zaa ?_; refine QZ hS vw (by rfl) ?_; intro b3 w1 hS; simp only [Val.cells] at hS; refine ZbA ?_; refine zD (ci 35 [12, 34]) ?_; have hS := hS.drew; refine zf0 ?_; refine zl hS ?_)
   all_goals (refine QC ?_)
   all_goals (refine zm ?_; (first | refine zgn ?_ | (refine zgy ?_; refine zf0 ?_)); (first | refine zgn ?_ | (refine zgy ?_; refine zl hS ?_)))
   all_goals (first | refine zgn ?_ | (refine zgy ?_; refine QC ?_))
   all_goals (refine zpt ?_; refine zm ?_; refine zgn ?_; refine zgn ?_; refine zgn ?_; refine zgn ?_; refine zgn ?_; refine zpt ?_; refine zm ?_; refine zgn ?_; refine zgn ?_)
   all_goals (refine zgn ?_)
   all_goals (refine zpt ?_; refine zm ?_; refine zgn ?_; refine zgn ?_; refine zgn ?_; refine zgn ?_; refine zgn ?_; refine zgn ?_; refine zgn ?_; refine zgn ?_; refine zgn ?_; refine zgn ?_)
   all_goals (refine zgn ?_; refine zgn ?_)
   all_goals (refine zgn ?_)
   all_goals (refine zpt ?_; refine zn ?_)
   all_goals refine zct ?_
   all_goals (refine Zaq ?_; exact ⟨_, rfl, hS.sp, .inl ⟨e0, rfl⟩⟩)
end Go.Proofs.YteflkifmgnpbhaaGreat
namespace Go.Proofs.YteflkifmgnpbhaaGreat
open Go.Lir
set_option maxHeartbeats 1000000
attribute [local irreducible] LC.wp Q0 QF QE retQ Q16 LO.wp Qf Calls
set_option linter.unusedSimpArgs false
set_option linter.unusedVariables false
variable {z : GZ} {cx : Cx} {w : World} {L : List Res} {i : Nat} {N : Nat} {h : Value} {s : HpS}
theorem Qco : Q1Q Tryz.prog 129 = some (278, 2, 32, [.bool false, .slice none 0 0]) := by kernel_rfl
theorem Qcp : Q1Q Tryz.prog 44 = some (131, 4, 48, [.bool false, .slice none 0 0, .int .i64 0, .int .i64 0]) := by kernel_rfl
theorem Q7A : Q1Q Tryz.prog 117 = some (182, 4, 32, [.int .i64 0, .int .i64 0, .int .i64 0, .int .i64 0]) := by kernel_rfl
theorem Qba : ∃ e2, Tryz.prog.underlying 129 = some (.slice e2) := ⟨278, by kernel_rfl⟩
theorem Qbb : ∃ e2, Tryz.prog.underlying 44 = some (.slice e2) := ⟨131, by kernel_rfl⟩
theorem Q7c : ∃ e2, Tryz.prog.underlying 117 = some (.slice e2) := ⟨182, by kernel_rfl⟩
theorem Qc7 {l : List Rgn} {j : Nat} (h : j < l.length) : (l.take (j + 1)).countP (fun r => r.there) = (l.take j).countP (fun r => r.there) + if (l.getD j Rgn.none).there then 1 else 0 := by
 rw [Q6C Rgn.none h, List.countP_append, List.countP_singleton]
theorem Q7m {b : Nat} {lv : Value} {left : Int} {rv : List RgnV} (ho : HpO N s rv) (hN : N ≤ 100000) (hS : St cx w (Q49 z b lv left rv L)) : Rets Tryz.prog Q7M [.pointer (some ⟨b, 1, none⟩)] w fun u w' => u = .int .i64 s.live ∧ St cx w' (Q49 z b lv left rv L) := by
 have hlen := ho.len
 have hsl := ho.ok.len
 all_goals refine lgo tyD Tryz.func28 ?_
 all_goals (refine Zaa ?_; refine ZbB ?_; refine ZbU ?_)
 refine zo [] (fun A ρ' w' => ∃ (j n : Nat), Has ρ' A ∧ Has ρ' [(0, .pointer (some ⟨b, 1, none⟩)), (3, .int .i64 n), (4, .int .i64 j)] ∧ (j ≤ rv.length) ∧ (n = (s.l.take j).countP (fun r => r.there)) ∧ St cx w' (Q49 z b lv left rv L)) (fun ρ' _ => (rv.length - iv (ρ' 4)).toNat) ?_ ?_
 · exact ⟨0, 0, zh, zh, (by omega), (by first | omega | assumption | rfl), hS.sp⟩
 rintro ρ w1 ⟨j, n, hA, hρ, hj, hn, hS⟩; obtain ⟨ρ, rfl⟩ := env2 hA hρ; have hcl := List.countP_le_length (p := fun r : Rgn => r.there) (l := s.l.take j); have htl := List.length_take_le j s.l
 all_goals (refine ZaA ?_; refine ZaW ?_; (first | (refine Q1 hS (by assumption) rfl fd (by exact List.length_map _) (Qp hr) rfl ?_) | (refine zl hS ?_)); (first | (refine zL ?_) | (refine zLe hS ?_)); refine Zau ?_)
 refine Qt rfl (fun hc => ?_) (fun hc => ?_)
 · skip
   all_goals (refine ZbL ?_; obtain ⟨r, hr, hrs, hsl2⟩ := ho.at_ (k := j) (by omega); have hcs := Qc7 (l := s.l) (j := j) (by omega); have hrg : s.l.getD j Rgn.none = r.abs := (by rw [List.getD_eq_getElem?_getD, hsl2]; rfl); rw [hrg] at hcs; refine Zak ?_; refine Zag ?_; (first | (refine Q1 hS (by assumption) rfl fd (by exact List.length_map _) (Qp hr) rfl ?_) | (refine zl hS ?_)); refine zm ?_; (first | ((first | refine zi ?_ | refine zj ?_); intro b1 o1 cs1 x1 hat1 hx1 he1; obtain ⟨vp1, vr1, vb1, rfl, hp1, hr1, hb1⟩ := Qv he1) | (refine zie hS ?_; intro b1 o1 hel1)); (first | refine zf0 ?_ | refine zfd ?_); refine Q1 hS (by assumption) rfl fd (by first | exact List.length_map _ | rfl) (Qp hr) rfl ?_; refine zn ?_)
   refine QbA rfl (fun hc => ?_) (fun hc => ?_)
   · skip
     all_goals (refine Zak ?_; refine zad ?_; refine Zac ?_; refine Zak ?_; refine zad ?_; refine Zac ?_; exact ⟨⟨j + 1, n + 1, zh, zh, (by omega), (by rw [hcs, hn, if_pos (show r.abs.there = true from hc)]), hS.sp⟩, Qu (by omega)⟩)
   · skip
     all_goals (refine zsk ?_; refine Zak ?_; refine zad ?_; refine Zac ?_; (first | (exact ⟨⟨j + 1, n + 1, zh, zh, (by omega), (by rw [hcs, hn, if_pos (show r.abs.there = true from hc)]), hS.sp⟩, Qu (by omega)⟩) | (exact ⟨⟨j + 1, n, zh, zh, (by omega), (by rw [hcs, hn, if_neg (show ¬ r.abs.there = true from by rw [show r.abs.there = false from hc]; simp)]; rfl), hS.sp⟩, Qu (by omega)⟩)))
 · skip
   all_goals (refine zex ?_; refine Zbt ?_; have hn' : n = s.live := (by unfold HpS.live; rw [hn, List.take_of_length_le (by omega)]); exact ⟨_, rfl, by rw [hn'], hS⟩)
theorem rtopen_c (hN : N ≤ 100000) (hS : St cx w L) (hi : nth L i = some (Q1D z N h s)) : Rets Tryz.prog Q7L [h] w fun u w' => u = .tuple #[s.openV.v, .bool (!s.full)] ∧ St cx w' (L.set i (Q1D z (N + 1) h s.open)) := by
 obtain ⟨hok, b, rfl⟩ := Q1T hS hi
 obtain ⟨lv, rv, ho, hS⟩ := Q2F hS hi
 have hlv := hok.live
 have hlen := ho.len
 have hsl := hok.len
 cases hf : s.full with
 | true =>
   have h16 : s.live = 16 := of_decide_eq_true hf
   have e1 : s.open = s := by unfold HpS.open; rw [hf]; rfl
   have e2 : s.openV = Val.zero := by unfold HpS.openV; rw [hf]; rfl
   rw [e1, e2]
   all_goals refine lgo tyD Tryz.func123 ?_
   all_goals (refine Zbh ?_; intro p2 w1 hS; refine ZaG ?_; refine zR1 (c := Q7m ho hN (St.rot1 hS)) (h := ?_); rintro v1 w1 ⟨rfl, hS⟩)
   all_goals (refine Q2l ?_)
   all_goals (refine zn ?_)
   all_goals refine zct ?_
   all_goals (refine Zaa ?_; refine zb0 [_, _, _, _] ?_; refine zsn hS ?_; intro w1 hS; have hS := hS.ns; refine Zae ?_; refine QH vw (Q4 (n := 4) (by kernel_rfl) (by kernel_rfl) (hS.blkAt fd) (by rfl) (by rfl)) vw ?_; exact ⟨_, rfl, rfl, (Qk (⟨ho.hr, hok.mono (by omega)⟩ : HpO (N + 1) s rv) (L := L.eraseIdx i) hS.sp).back hi⟩)
 | false =>
   have h16 : s.live ≠ 16 := of_decide_eq_false hf
   have e1 : s.open = ⟨s.l ++ [⟨true, [], 0, 0⟩], s.left⟩ := by unfold HpS.open; rw [hf]; rfl
   have e2 : s.openV = ⟨2, s.l.length, 0, 0⟩ := by unfold HpS.openV; rw [hf]; rfl
   have ho2 : HpO (N + 1) s.open (rv ++ [⟨true, .slice none 0 0, [], 0, 0⟩]) := ⟨by rw [List.map_append, ho.hr, e1]; rfl, HpS.ok_open hok⟩
   all_goals refine lgo tyD Tryz.func123 ?_
   all_goals (refine Zbh ?_; intro p2 w1 hS; refine ZaG ?_; refine zR1 (c := Q7m ho hN (St.rot1 hS)) (h := ?_); rintro v1 w1 ⟨rfl, hS⟩)
   all_goals (first | (refine Q2l ?_) | (refine Q2U ?_))
   all_goals (refine zn ?_)
   all_goals refine zcf ?_
   all_goals (refine zsk ?_; refine Zad ?_; refine ZaW ?_; refine zl hS ?_; refine zb1 [_, _, _, _] ?_; refine zB1 hS [_, _, _, _] ?_; intro b1 w1 hS; refine Q1x Qcp (.inl Qbb) hS vw vw fd (hS.srcB fd (by rfl) (by simp [oneC])) (by first | omega | (simp only [List.length_map, List.length_append, List.length_cons, List.length_nil, List.length_set, List.length_replicate]; omega)) ?_; intro v7 w7 hS; have hS := hS.ns; refine Zag ?_; refine zst hS ?_; intro w1 hS; have hS := hS.ns; refine Zbi ?_; refine Zag ?_; refine zl hS ?_; refine QY (n := rv.length + 1) hS vw fd (by simp) ?_; refine Q4e rfl rfl (by omega) (by omega) ?_; rw [show ((rv.length + 1 : Nat) : Int) - 1 = s.l.length by omega]; refine zb2 [_, _, _, _] ?_; refine zsn hS ?_; intro w1 hS; have hS := hS.ns)
   all_goals (refine Zae ?_; refine QH vw (Q4 (n := 4) (by kernel_rfl) (by kernel_rfl) (hS.blkAt fd) (by rfl) (by rfl)) vw ?_; rw [e2]; refine ⟨_, rfl, rfl, (Qk (lv := v7) ho2 (L := L.eraseIdx i) ?_).back hi⟩; have hS : St cx _ (big (RgnV.res H1) rv :: gBlk z b v7 s.left :: sl 131 4 v7 ((rv ++ [(⟨true, .slice none 0 0, [], 0, 0⟩ : RgnV)]).map RgnV.cells) :: L.eraseIdx i) := (by rw [List.map_append]; exact hS.sp); have hS := St.star' (St.nil (T := H1.Tt) (es := 2) (St.big_nil (ThgV.res H1) hS)); have hS := St.big_push (f := RgnV.res H1) (l := rv) (x := ⟨true, .slice none 0 0, [], 0, 0⟩) hS; rw [e1]; exact hS.sp)
theorem Qcz {rv : List RgnV} {k : Nat} (hk : k < rv.length) {x y : Res} (hS : St cx w (x :: y :: big (RgnV.res H1) (rv.eraseIdx k) :: L)) : St cx w (x :: y :: big (RgnV.res H1) (rv.set k RgnV.nil) :: L) :=
 Q62 (H := H1) (r := RgnV.nil) hk (St.nil (St.big_nil (ThgV.res H1) hS))
theorem rtshut_c (v : Val) (hS : St cx w L) (hi : nth L i = some (Q1D z N h s)) : Rets Tryz.prog Q7K [h, v.v] w fun u w' => u = .bool (s.can v) ∧ St cx w' (L.set i (Q1D z N h (s.shut v))) := by
 obtain ⟨hok, b, rfl⟩ := Q1T hS hi
 obtain ⟨lv, rv, ho, hS⟩ := Q2F hS hi
 by_cases hk : v.kind = 2
 · cases hh : s.has v.region with
   | false =>
     have hcan : s.can v = false := by unfold HpS.can; rw [hh, Bool.and_false]
     rw [Q7h hcan, hcan]
     all_goals refine lgo tyD Tryz.func186 ?_
     all_goals (refine Zaa ?_; refine QZ hS vw (by rfl) ?_; intro b6 w1 hS; simp only [Val.cells] at hS; refine ZaT ?_; refine zf0 ?_; refine zl hS ?_)
     all_goals (first | (refine QC ?_) | (refine QJ ?_))
     all_goals (refine zm ?_; (first | refine zgn ?_ | (refine Zam ?_)); (first | refine zgn ?_ | (refine zgy ?_; refine zf0 ?_)); (first | refine zgn ?_ | (refine zgy ?_; refine zl hS ?_)); (first | refine zgn ?_ | (refine zgy ?_; refine zR2 (c := Q4p _ ho (St.rot1 hS)) (h := ?_); rintro v1 w1 ⟨rfl, hS⟩; rw [hh])); (first | refine zgn ?_ | (refine ZaP ?_)); refine Zaf ?_)
     all_goals refine zct ?_
     all_goals (refine Zaq ?_; exact ⟨_, rfl, rfl, (Qk ho (L := L.eraseIdx i) hS.sp).back hi⟩)
   | true =>
     obtain ⟨vk, vr, vt, vn⟩ := v
     obtain rfl : vk = 2 := hk
     obtain ⟨m, rfl, hm⟩ := ho.has_in hh
     replace hh : s.has (m : Int) = true := hh
     obtain ⟨r, hr, hrs, hsl⟩ := ho.at_ hm
     have hcan : s.can ⟨2, m, vt, vn⟩ = true := by unfold HpS.can; rw [hh]; rfl
     have hrn := ho.rng hr
     have hpg := hok.pages
     have hpr' : r.pages + s.left ≤ 1000 := hpg.2 r.abs (List.mem_of_getElem? hsl)
     have hl0 := hok.left
     have hlm : (rv.map RgnV.cells).length = rv.length := List.length_map _
     have e1 : s.shut ⟨2, m, vt, vn⟩ = ⟨s.l.set m Rgn.none, s.left + r.pages⟩ := by unfold HpS.shut; rw [if_pos hcan]; simp only [hrs, Int.toNat_natCast]; rfl
     have ho2 : HpO N (s.shut ⟨2, m, vt, vn⟩) (rv.set m RgnV.nil) := ⟨by rw [List.map_set, ho.hr, e1]; rfl, by rw [e1]; exact HpS.ok_shut hok hsl⟩
     rw [hcan]
     all_goals refine lgo tyD Tryz.func186 ?_
     all_goals (refine Zaa ?_; refine QZ hS vw (by rfl) ?_; intro b6 w1 hS; simp only [Val.cells] at hS; refine ZaT ?_; refine zf0 ?_; (first | (refine Q1 hS hel rfl fd hlm (Qp hr) rfl ?_) | (refine zl hS ?_)))
     all_goals (first | (refine QC ?_) | (refine QJ ?_))
     all_goals (refine zm ?_; (first | refine zgn ?_ | (refine Zam ?_)); (first | refine zgn ?_ | (refine zgy ?_; refine zf0 ?_)); (first | refine zgn ?_ | (refine zgy ?_; (first | (refine Q1 hS hel rfl fd hlm (Qp hr) rfl ?_) | (refine zl hS ?_)))); (first | refine zgn ?_ | (refine zgy ?_; refine zR2 (c := Q4p _ ho (St.rot1 hS)) (h := ?_); rintro v1 w1 ⟨rfl, hS⟩; rw [hh])); (first | refine zgn ?_ | (refine ZaP ?_)); refine Zaf ?_)
     all_goals refine zcf ?_
     all_goals (refine zsk ?_; refine Qb ?_; refine zD (ci 17 [16]) ?_; have hS := hS.drew; refine ZaW ?_; (first | (refine Q1 hS hel rfl fd hlm (Qp hr) rfl ?_) | (refine zl hS ?_)); refine ZaW ?_; (first | (refine Q1 hS hel rfl fd hlm (Qp hr) rfl ?_) | (refine zl hS ?_)); refine zf0 ?_; (first | (refine Q1 hS hel rfl fd hlm (Qp hr) rfl ?_) | (refine zl hS ?_)); refine Q29 hS vw rfl fd (by omega) ?_; rw [hlm]; intro b12 o12 hel; (first | refine zf0 ?_ | refine zfd ?_); refine Q1 hS hel rfl fd hlm (Qp hr) rfl ?_)
     all_goals (refine zad ?_; refine Zag ?_; refine zst hS ?_; intro w1 hS; have hS := hS.ns; refine ZaZ ?_; refine zD (ci 9 [8]) ?_; have hS := hS.drew; refine ZaW ?_; (first | (refine Q1 hS hel rfl fd hlm (Qp hr) rfl ?_) | (refine zl hS ?_)); refine zf0 ?_; (first | (refine Q1 hS hel rfl fd hlm (Qp hr) rfl ?_) | (refine zl hS ?_)); refine zb0 [_, _, _, _] ?_; refine Q29 hS vw rfl fd (by omega) ?_; rw [hlm]; intro b12 o12 hel; refine Q31 hS hel rfl rfl (by rfl) fd hlm (Qp hr) rfl (by simp [oneC]) (rcset (r' := RgnV.nil)) ?_; intro w8 hS; have hS := hS.ns; have hS := Qcz hm ((Qq (H := H1) hS hr).drop.drop))
     all_goals (refine zn ?_; refine Zaq ?_; exact ⟨_, rfl, rfl, (Qk ho2 (L := L.eraseIdx i) (by rw [e1]; exact hS.sp)).back hi⟩)
 · have hcan : s.can v = false := by unfold HpS.can; rw [decide_eq_false hk, Bool.false_and]
   rw [Q7h hcan, hcan]
   all_goals refine lgo tyD Tryz.func186 ?_
   all_goals (refine Zaa ?_; refine QZ hS vw (by rfl) ?_; intro b6 w1 hS; simp only [Val.cells] at hS; refine ZaT ?_; refine zf0 ?_; refine zl hS ?_)
   all_goals (refine QC ?_)
   all_goals (refine zm ?_; refine zgn ?_; refine zgn ?_; refine zgn ?_; refine zgn ?_; refine zgn ?_; refine zpt ?_; refine zn ?_)
   all_goals refine zct ?_
   all_goals (refine Zaq ?_; exact ⟨_, rfl, rfl, (Qk ho (L := L.eraseIdx i) hS.sp).back hi⟩)
theorem rtlen_c (v : Val) (hS : St cx w L) (hi : nth L i = some (Q1D z N h s)) : Rets Tryz.prog Q8t [h, v.v] w fun u w' => u = .tuple #[.int .i64 (s.len v).1, .int .i64 (s.len v).2] ∧ St cx w' L := by
 obtain ⟨hok, b, rfl⟩ := Q1T hS hi
 obtain ⟨lv, rv, ho, hS⟩ := Q2F hS hi
 all_goals refine lgo tyD Tryz.func193 ?_
 all_goals (refine Zaa ?_; refine QZ hS vw (by rfl) ?_; intro b6 w1 hS; refine zm ?_; refine ZaE ?_; refine zv hS ?_)
 all_goals (refine zR2 (c := Q9L v ho (St.rot1 hS)) (h := ?_); rintro v1 w1 ⟨hS, (⟨e0, rfl⟩ | ⟨k, t, th, e0, r, b7, o7, hr, hth, rfl, hel⟩)⟩)
 all_goals (refine ZaG ?_; (first | refine Q3X (e := 278) (by kernel_rfl) rfl rfl ?_ | refine Q3Y (e := 278) (by kernel_rfl) rfl rfl ?_); refine zn ?_)
 all_goals
  first
  | (refine zct ?_
     all_goals (refine Zad ?_; refine Zae ?_; refine zf2 ?_)
     all_goals ((first | exact ⟨_, rfl, by unfold HpS.len; rw [e0]; simp only [ho.thg hr hth]; rfl, (Qk ho (L := L.eraseIdx i) hS.sp).back0 hi⟩ | exact ⟨_, rfl, by unfold HpS.len; rw [e0], (Qk ho (L := L.eraseIdx i) hS.sp).back0 hi⟩)))
  | (refine zcf ?_
     all_goals refine zsk ?_)
 all_goals (refine Zad ?_; refine Zag ?_; refine Q1 (Qq (H := H1) hS hr) hel rfl nth0 (List.length_map _) (Q1J hth) rfl ?_; refine QY (Q2v (H := H1) (Qq (H := H1) hS hr) hth) vw nth0 (by exact List.length_map _) ?_; refine zm ?_; refine Zae ?_; refine zf2 ?_; exact ⟨_, rfl, by unfold HpS.len; rw [e0]; simp only [ho.thg hr hth]; rfl, (Qk ho (L := L.eraseIdx i) hS.sp).back0 hi⟩)
theorem Q7n (v : Val) (k : Int) (hS : St cx w L) (hi : nth L i = some (Q1D z N h s)) : Rets Tryz.prog Q8u [h, v.v, .int .i64 k] w fun u w' => u = .tuple #[(s.get v k).1.v, .int .i64 (s.get v k).2] ∧ St cx w' L := by
 obtain ⟨hok, b, rfl⟩ := Q1T hS hi
 obtain ⟨lv, rv, ho, hS⟩ := Q2F hS hi
 all_goals refine lgo tyD Tryz.func190 ?_
 all_goals (refine Zaa ?_; refine QZ hS vw (by rfl) ?_; intro b6 w1 hS; refine Qg hS ?_; intro b8 w1 hS; refine ZaE ?_; refine zv hS ?_)
 all_goals (refine zR2 (c := Q9L v ho (St.rot2 hS)) (h := ?_); rintro v1 w1 ⟨hS, (⟨e0, rfl⟩ | ⟨kr, t, th, e0, r, b7, o7, hr, hth, rfl, hel⟩)⟩)
 all_goals (refine ZaG ?_; (first | refine Q3X (e := 278) (by kernel_rfl) rfl rfl ?_ | refine Q3Y (e := 278) (by kernel_rfl) rfl rfl ?_); refine zn ?_)
 all_goals
  first
  | (refine zcf ?_
     all_goals refine zsk ?_)
  | (refine zct ?_
     all_goals (refine Zaa ?_; refine zb0 [_, _, _, _] ?_; refine zsn hS ?_; intro w1 hS; have hS := hS.ns; refine Zae ?_; refine QH vw (Q4 (n := 4) (by kernel_rfl) (by kernel_rfl) (hS.blkAt fd) (by rfl) (by rfl)) vw ?_)
     all_goals (have hge : s.get v k = (Val.zero, 20) := (by unfold HpS.get; rw [e0]; first | done | fail); rw [hge]; exact ⟨_, rfl, rfl, (Qk ho (L := L.eraseIdx i) hS.sp).back0 hi⟩))
 all_goals (refine Zbr ?_; have hge : s.get v k = (if 0 ≤ k ∧ k < th.l.length then (th.l.getD k.toNat Val.zero, 0) else (Val.zero, 1)) := (by unfold HpS.get; rw [e0]; simp only [ho.thg hr hth]; rfl); have hth1 := (ho.rng hr).2.1 th (List.mem_of_getElem? hth))
 refine zo [] (fun A ρ' w' => ∃ (j : Nat), Has ρ' A ∧ Has ρ' [(0, .pointer (some ⟨b, 1, none⟩)), (2, .int .i64 k), (6, .pointer (some ⟨b8, 0, none⟩)), (8, .pointer (some ⟨b7, o7, none⟩)), (9, .int .i64 j)] ∧ (j ≤ th.l.length) ∧ (¬ (0 ≤ k ∧ k < j)) ∧ St cx w' (Q49 z b lv s.left rv (blk b8 182 [.int .i64 0, .int .i64 0, .int .i64 0, .int .i64 0] :: L.eraseIdx i))) (fun ρ' _ => (th.l.length - iv (ρ' 9)).toNat) ?_ ?_
 · exact ⟨0, zh, zh, (by omega), (by omega), hS.sp⟩
 rintro ρ w1 ⟨j, hA, hρ, hj, hjk, hS⟩; obtain ⟨ρ, rfl⟩ := env2 hA hρ
 all_goals (refine ZaA ?_; refine ZaW ?_; refine Q1 (Qq (H := H1) hS hr) hel rfl nth0 (List.length_map _) (Q1J hth) rfl ?_; refine QY (Q2v (H := H1) (Qq (H := H1) hS hr) hth) vw nth0 (by exact List.length_map _) ?_; refine Zau ?_)
 refine Qt rfl (fun hc => ?_) (fun hc => ?_)
 · skip
   all_goals (refine ZaJ ?_; refine Zby ?_)
   all_goals (first | (refine Qd ?_) | (refine Qh ?_) | (refine Q6 rfl rfl (fun hc => ?_) (fun hc => ?_)))
   all_goals (refine zn ?_)
   all_goals
    first
    | (refine zct ?_
       all_goals (refine Zad ?_; refine Zag ?_; refine Q1 (Qq (H := H1) hS hr) hel rfl nth0 (List.length_map _) (Q1J hth) rfl ?_; refine zm ?_; refine Q29 (Q2v (H := H1) (Qq (H := H1) hS hr) hth) vw rfl nth0 (by first | omega | (simp only [List.length_map, List.length_append, List.length_cons, List.length_nil, List.length_set, List.length_replicate]; omega)) ?_; rw [List.length_map]; intro b9 o9 hel9; refine Q1i (Q2v (H := H1) (Qq (H := H1) hS hr) hth) hel9 rfl nth0 (List.length_map _) (vcget (by omega)) ?_; refine Q1n hS rfl rfl (by rfl) fd (by simp) (QQ _) (by rfl) ?_; intro w1 hS; have hS := hS.ns; refine Zae ?_; refine QH vw (Q4 (n := 4) (by kernel_rfl) (by kernel_rfl) (hS.blkAt fd) (by rfl) (by rfl)) vw ?_)
       all_goals ((first | (have hge : s.get v k = (Val.zero, 20) := (by unfold HpS.get; rw [e0]; first | done | fail); rw [hge]; exact ⟨_, rfl, rfl, (Qk ho (L := L.eraseIdx i) hS.sp).back0 hi⟩) | (rw [if_neg (by omega)] at hge; rw [hge]; exact ⟨_, rfl, rfl, (Qk ho (L := L.eraseIdx i) hS.sp).back0 hi⟩) | (obtain rfl : k = (j : Int) := (by omega); rw [if_pos (by omega), Int.toNat_natCast] at hge; rw [hge]; exact ⟨_, rfl, rfl, (Qk ho (L := L.eraseIdx i) hS.sp).back0 hi⟩))))
    | (refine zcf ?_
       all_goals refine zsk ?_)
   all_goals (refine Zak ?_; refine zad ?_; refine Zac ?_; exact ⟨⟨j + 1, zh, zh, (by omega), (by omega), hS.sp⟩, Qu (by omega)⟩)
 · skip
   all_goals (refine zex ?_; refine Zaa ?_; refine zb0 [_, _, _, _] ?_; refine zsn hS ?_; intro w1 hS; have hS := hS.ns; refine Zae ?_; refine QH vw (Q4 (n := 4) (by kernel_rfl) (by kernel_rfl) (hS.blkAt fd) (by rfl) (by rfl)) vw ?_; (first | (have hge : s.get v k = (Val.zero, 20) := (by unfold HpS.get; rw [e0]; first | done | fail); rw [hge]; exact ⟨_, rfl, rfl, (Qk ho (L := L.eraseIdx i) hS.sp).back0 hi⟩) | (rw [if_neg (by omega)] at hge; rw [hge]; exact ⟨_, rfl, rfl, (Qk ho (L := L.eraseIdx i) hS.sp).back0 hi⟩)))
theorem QbH (v : Val) (k : Int) (x : Val) (hS : St cx w L) (hi : nth L i = some (Q1D z N h s)) : Rets Tryz.prog Q8r [h, v.v, .int .i64 k, x.v] w fun u w' => u = .int .i64 (s.setC v k x) ∧ St cx w' (L.set i (Q1D z N h (s.set v k x))) := by
 obtain ⟨hok, b, rfl⟩ := Q1T hS hi
 obtain ⟨lv, rv, ho, hS⟩ := Q2F hS hi
 cases e0 : s.at_ v with
 | none =>
   have hc1 : s.setC v k x = 20 := by unfold HpS.setC; rw [e0]
   rw [Q2A (by omega), hc1]
   all_goals refine lgo tyD Tryz.func191 ?_
   all_goals (refine Zaa ?_; refine QZ hS vw (by rfl) ?_; intro b6 w1 hS; refine QZ hS vw (by rfl) ?_; intro b8 w1 hS; refine ZaE ?_; refine zv hS ?_)
   all_goals (refine zR2 (c := Q9L v ho (St.rot2 hS)) (h := ?_); rintro v1 w1 ⟨hS, hx⟩; obtain ⟨_, rfl⟩ := hx.resolve_right (fun ⟨_, _, _, e1, _⟩ => by rw [e0] at e1; cases e1))
   all_goals (refine ZaG ?_; refine Q3X (e := 278) (by kernel_rfl) rfl rfl ?_; refine zm ?_; refine zgn ?_; refine zgn ?_; refine zgn ?_; refine zgn ?_; refine zgn ?_; refine zgn ?_; refine zgn ?_)
   all_goals (refine zgn ?_)
   all_goals (refine zgn ?_; refine zpt ?_; refine zn ?_)
   all_goals refine zct ?_
   all_goals (refine Zaq ?_; exact ⟨_, rfl, rfl, (Qk ho (L := L.eraseIdx i) hS.sp).back hi⟩)
 | some p =>
   obtain ⟨kr, t⟩ := p
   all_goals refine lgo tyD Tryz.func191 ?_
   all_goals (refine Zaa ?_; refine QZ hS vw (by rfl) ?_; intro b6 w1 hS; refine QZ hS vw (by rfl) ?_; intro b8 w1 hS; simp only [Val.cells] at hS; refine ZaE ?_; refine zv hS ?_)
   all_goals (refine zR2 (c := Q9L v ho (St.rot2 hS)) (h := ?_); rintro v1 w1 ⟨hS, hx⟩; obtain ⟨kr', t', th, e1, r, b7, o7, hr, hth, rfl, hel⟩ := hx.resolve_left (fun h => by rw [e0] at h; cases h.1); rw [e0] at e1; cases e1; have hge : s.setC v k x = (if th.array = true ∧ x.kind ≠ 1 then 20 else if 0 ≤ k ∧ k < th.l.length then 0 else 1) := (by unfold HpS.setC; rw [e0]; simp only [ho.thg hr hth]; rfl); have hth1 := (ho.rng hr).2.1 th (List.mem_of_getElem? hth))
   all_goals (refine Zac ?_)
   refine zM [] (fun A ρ' w' => Has ρ' A ∧ Has ρ' [(0, .pointer (some ⟨b, 1, none⟩)), (2, .int .i64 k), (7, .pointer (some ⟨b8, 0, none⟩)), (9, .pointer (some ⟨b7, o7, none⟩))] ∧ (¬ (th.array = true ∧ x.kind ≠ 1)) ∧ St cx w' (Q49 z b lv s.left rv (blk b8 182 [.int .i64 x.kind, .int .i64 x.region, .int .i64 x.thing, .int .i64 x.n] :: L.eraseIdx i))) ?_ ?_
   · skip
     all_goals (refine Zad ?_; refine Q3Y (e := 278) (by kernel_rfl) rfl rfl ?_; refine zm ?_; (first | refine zgn ?_ | (refine Zam ?_)); (first | refine zgn ?_ | (refine ZaQ ?_)); (first | refine zgn ?_ | (refine Zaj ?_)))
     all_goals (refine zgy ?_; refine Q1 (j := 0) (u := .bool th.array) (Qq (H := H1) hS hr) hel rfl nth0 (List.length_map _) (Q1J hth) rfl ?_; cases hta : th.array <;> by_cases hx1 : x.kind = 1)
     all_goals ((first | refine zgn ?_ | (refine Zam ?_)); (first | refine zgn ?_ | (refine zgy ?_; refine zf0 ?_)); (first | refine zgn ?_ | (refine zgy ?_; (first | (refine Q1 (Qq (H := H1) hS hr) hel rfl nth0 (List.length_map _) (Q1J hth) rfl ?_) | (refine zl hS ?_)))))
     all_goals (first | refine zgn ?_ | (refine ZaL ?_))
     all_goals ((first | refine zgn ?_ | (refine ZaB ?_)); refine Zaf ?_)
     all_goals
      first
      | (refine zct ?_
         all_goals (refine Zaq ?_)
         all_goals (have hc1 : s.setC v k x = 20 := (by rw [hge, if_pos ⟨hta, hx1⟩]); rw [Q2A (by omega), hc1]; exact ⟨_, rfl, rfl, (Qk ho (L := L.eraseIdx i) hS.sp).back hi⟩))
      | (refine zcf ?_
         all_goals refine zsk ?_)
     all_goals (exact ⟨zh, zh, (by simp [hta, hx1]), hS.sp⟩)
   rintro ρ w1 ⟨hA, hρ, hta, hS⟩; obtain ⟨ρ, rfl⟩ := env2 hA hρ
   all_goals (refine Zbr ?_)
   refine zo [] (fun A ρ' w' => ∃ (j : Nat), Has ρ' A ∧ Has ρ' [(0, .pointer (some ⟨b, 1, none⟩)), (2, .int .i64 k), (7, .pointer (some ⟨b8, 0, none⟩)), (9, .pointer (some ⟨b7, o7, none⟩)), (10, .int .i64 j)] ∧ (j ≤ th.l.length) ∧ (¬ (0 ≤ k ∧ k < j)) ∧ St cx w' (Q49 z b lv s.left rv (blk b8 182 [.int .i64 x.kind, .int .i64 x.region, .int .i64 x.thing, .int .i64 x.n] :: L.eraseIdx i))) (fun ρ' _ => (th.l.length - iv (ρ' 10)).toNat) ?_ ?_
   · exact ⟨0, zh, zh, (by omega), (by omega), hS.sp⟩
   rintro ρ w1 ⟨j, hA, hρ, hj, hjk, hS⟩; obtain ⟨ρ, rfl⟩ := env2 hA hρ
   all_goals (refine ZaA ?_; refine ZaW ?_; refine Q1 (Qq (H := H1) hS hr) hel rfl nth0 (List.length_map _) (Q1J hth) rfl ?_; refine QY (Q2v (H := H1) (Qq (H := H1) hS hr) hth) vw nth0 (by exact List.length_map _) ?_; refine Zau ?_)
   refine Qt rfl (fun hc => ?_) (fun hc => ?_)
   · skip
     all_goals (refine ZaJ ?_; refine Zby ?_)
     all_goals (first | (refine Qd ?_) | (refine Qh ?_) | (refine Q6 rfl rfl (fun hc => ?_) (fun hc => ?_)))
     all_goals (refine zn ?_)
     all_goals
      first
      | (refine zct ?_
         all_goals (refine Qb ?_; have hS := Q2v (H := H1) (Qq (H := H1) hS hr) hth; refine zD (ci 8 [7]) ?_; have hS := hS.drew; refine ZaW ?_; refine Q1 hS hel rfl fd (List.length_map _) (Q1J hth) rfl ?_; refine zm ?_; refine zv hS ?_; refine Q29 hS vw rfl nth0 (by first | omega | (simp only [List.length_map, List.length_append, List.length_cons, List.length_nil, List.length_set, List.length_replicate]; omega)) ?_; rw [List.length_map]; intro b9 o9 hel9; refine Q31 hS hel9 rfl rfl (by rfl) nth0 (List.length_map _) (vcget (by omega)) rfl (QQ x) vcset ?_; intro w8 hS; have hS := hS.ns; have hS := thg_in (H := H1) (l := r.l) (k := t) (t := ⟨th.array, th.lv, th.l.set j x⟩) (List.getElem?_eq_some_iff.1 hth).1 hS; refine zn ?_; refine Zaq ?_)
         all_goals ((first | (have hc1 : s.setC v k x = 20 := (by rw [hge, if_pos ⟨hta, hx1⟩]); rw [Q2A (by omega), hc1]; exact ⟨_, rfl, rfl, (Qk ho (L := L.eraseIdx i) hS.sp).back hi⟩) | (have hc1 : s.setC v k x = 1 := (by rw [hge, if_neg hta, if_neg (by omega)]); rw [Q2A (by omega), hc1]; exact ⟨_, rfl, rfl, (Qk ho (L := L.eraseIdx i) hS.sp).back hi⟩) | (obtain rfl : k = (j : Int) := (by omega); have hc1 : s.setC v (j : Int) x = 0 := (by rw [hge, if_neg hta, if_pos (by omega)]); obtain ⟨e1, e2, ho2⟩ := Qbi ho hr hth e0 hc1 (by omega); rw [hc1]; rw [Int.toNat_natCast] at ho2 e1; have htc : ((r.l.set t ⟨th.array, th.lv, th.l.set j x⟩).map ThgV.cells) = r.l.map ThgV.cells := (by rw [List.map_set]; exact Q3W (by rw [List.getElem?_map, hth]; rfl)); rw [← htc] at hS; have hS := Q62 (H := H1) (rv := rv) (k := kr) (r := upd2 r t th j x) (List.getElem?_eq_some_iff.1 hr).1 (L := L.eraseIdx i) (by unfold upd2; exact hS.sp); refine ⟨_, rfl, rfl, (Qk (lv := lv) ho2 (L := L.eraseIdx i) ?_).back hi⟩; have hbc : ((rv.set kr (upd2 r t th j x)).map RgnV.cells) = rv.map RgnV.cells := (by rw [List.map_set]; exact Q3W (by rw [List.getElem?_map, hr]; rfl)); unfold Q49; rw [hbc, e1]; exact hS))))
      | (refine zcf ?_
         all_goals refine zsk ?_)
     all_goals (refine Zak ?_; refine zad ?_; refine Zac ?_; exact ⟨⟨j + 1, zh, zh, (by omega), (by omega), hS.sp⟩, Qu (by omega)⟩)
   · skip
     all_goals (refine ZbC ?_; (first | (have hc1 : s.setC v k x = 20 := (by rw [hge, if_pos ⟨hta, hx1⟩]); rw [Q2A (by omega), hc1]; exact ⟨_, rfl, rfl, (Qk ho (L := L.eraseIdx i) hS.sp).back hi⟩) | (have hc1 : s.setC v k x = 1 := (by rw [hge, if_neg hta, if_neg (by omega)]); rw [Q2A (by omega), hc1]; exact ⟨_, rfl, rfl, (Qk ho (L := L.eraseIdx i) hS.sp).back hi⟩)))
theorem QbI (v : Val) (n : Int) (arr : Bool) (tlv : Value) (tl : List Val) (hn : 1 ≤ n ∧ n ≤ 1000) (hN : N ≤ 100000) (htl : tl.length ≤ 1000) (h1 : oneC tlv = true) (hS : St cx w (sl H1.Tv 4 tlv (tl.map Val.cells) :: L)) (hi : nth L i = some (Q1D z N h s)) :
 Rets Tryz.prog Q8s [h, v.v, .agg ⟨[.bool arr, tlv]⟩, .int .i64 n] w fun u w' => u = .tuple #[(s.putV v (if arr then 4 else 3) n).v, .int .i64 (s.code v n)] ∧ St cx w' (L.set i (Q1D z (N + 1) h (s.put v n ⟨arr, tl⟩))) := by
 obtain ⟨hok, b, rfl⟩ := Q1T hS.drop hi
 obtain ⟨lv, rv, ho, hS⟩ := Q2F hS (i := i + 1) hi
 simp only [List.eraseIdx_cons_succ] at hS
 have ho1 : HpO (N + 1) s rv := ⟨ho.hr, hok.mono (by omega)⟩
 by_cases hk : v.kind = 2
 · cases hh : s.has v.region with
   | false =>
     have hcan : s.can v = false := by unfold HpS.can; rw [hh, Bool.and_false]
     have hc := Q7E (n := n) hcan
     obtain ⟨e1, e2⟩ := Q4B (s := s) (v := v) (n := n) (by omega) (if arr then 4 else 3) ⟨arr, tl⟩
     rw [e1, e2, hc]
     all_goals refine lgo tyD Tryz.func223 ?_
     all_goals (refine Zaa ?_; refine QZ hS vw (by rfl) ?_; intro b6 w1 hS; simp only [Val.cells] at hS; refine QZ hS vw (by rfl) ?_; intro b9 w1 hS; refine Qg hS ?_; intro b10 w1 hS; refine ZaT ?_; refine zf0 ?_; refine zl hS ?_)
     all_goals (first | (refine QC ?_) | (refine QJ ?_))
     all_goals (refine zm ?_; (first | refine zgn ?_ | (refine Zam ?_)); (first | refine zgn ?_ | (refine zgy ?_; refine zf0 ?_)); (first | refine zgn ?_ | (refine zgy ?_; refine zl hS ?_)); (first | refine zgn ?_ | (refine zgy ?_; refine zR2 (c := Q4p _ ho (St.rot3 hS)) (h := ?_); rintro v1 w1 ⟨rfl, hS⟩; rw [hh])); (first | refine zgn ?_ | (refine ZaP ?_)); refine Zaf ?_)
     all_goals refine zct ?_
     all_goals (refine Zaa ?_; refine zb0 [_, _, _, _] ?_; refine zsn hS ?_; intro w1 hS; have hS := hS.ns; refine Zae ?_; refine QH vw (Q4 (n := 4) (by kernel_rfl) (by kernel_rfl) (hS.blkAt fd) (by rfl) (by rfl)) vw ?_; exact ⟨_, rfl, rfl, (Qk ho1 (L := L.eraseIdx i) hS.sp).back hi⟩)
   | true =>
     obtain ⟨vk, vr, vt, vn⟩ := v
     obtain rfl : vk = 2 := hk
     obtain ⟨m, rfl, hm⟩ := ho.has_in hh
     replace hh : s.has (m : Int) = true := hh
     obtain ⟨r, hr, hrs, hsl⟩ := ho.at_ hm
     have hcan : s.can ⟨2, m, vt, vn⟩ = true := by unfold HpS.can; rw [hh]; rfl
     have hrn := ho.rng hr
     have hpg := hok.pages
     have hpr' : r.pages + s.left ≤ 1000 := hpg.2 r.abs (List.mem_of_getElem? hsl)
     have hl0 := hok.left
     have hlm : (rv.map RgnV.cells).length = rv.length := List.length_map _
     have hls : ∀ r', ((rv.set m r').map RgnV.cells).length = rv.length := fun r' => by rw [List.length_map, List.length_set]
     have hcd : s.code ⟨2, m, vt, vn⟩ n = if r.abs.more n = true ∧ s.left = 0 then 14 else 0 := by unfold HpS.code; rw [hcan]; simp only [Bool.not_true, Bool.false_eq_true, if_false, hrs]
     have hmi : r.abs.more n = true ↔ (r.pages = 0 ∨ 16 < r.used + n) := RgnV.more_iff
     obtain ⟨e3, e4, e5⟩ := roomV_abs (r := r) (n := n)
     all_goals refine lgo tyD Tryz.func223 ?_
     all_goals (refine Zaa ?_; refine QZ hS vw (by rfl) ?_; intro b6 w1 hS; simp only [Val.cells] at hS; refine QZ hS vw (by rfl) ?_; intro b9 w1 hS; refine Qg hS ?_; intro b10 w1 hS; refine ZaT ?_; refine zf0 ?_; (first | (refine Q1 hS hel rfl fd hlm (Qp hr) rfl ?_) | (refine Q1 hS hel rfl fd (hls _) (Qp (QN (by omega))) rfl ?_) | (refine zl hS ?_)))
     all_goals (first | (refine QC ?_) | (refine QJ ?_))
     all_goals (refine zm ?_; (first | refine zgn ?_ | (refine Zam ?_)); (first | refine zgn ?_ | (refine zgy ?_; refine zf0 ?_)); (first | refine zgn ?_ | (refine zgy ?_; (first | (refine Q1 hS hel rfl fd hlm (Qp hr) rfl ?_) | (refine Q1 hS hel rfl fd (hls _) (Qp (QN (by omega))) rfl ?_) | (refine zl hS ?_)))); (first | refine zgn ?_ | (refine zgy ?_; refine zR2 (c := Q4p _ ho (St.rot3 hS)) (h := ?_); rintro v1 w1 ⟨rfl, hS⟩; rw [hh])); (first | refine zgn ?_ | (refine ZaP ?_)); refine Zaf ?_)
     all_goals refine zcf ?_
     all_goals (refine zsk ?_; refine Qb ?_; refine zD (ci 8 [7]) ?_; have hS := hS.drew; refine ZaW ?_; (first | (refine Q1 hS hel rfl fd hlm (Qp hr) rfl ?_) | (refine Q1 hS hel rfl fd (hls _) (Qp (QN (by omega))) rfl ?_) | (refine zl hS ?_)); refine zf0 ?_; (first | (refine Q1 hS hel rfl fd hlm (Qp hr) rfl ?_) | (refine Q1 hS hel rfl fd (hls _) (Qp (QN (by omega))) rfl ?_) | (refine zl hS ?_)); refine Q29 hS vw rfl fd (by omega) ?_; rw [hlm]; intro b12 o12 hel; refine Zac ?_)
     refine zM [] (fun A ρ' w' => ∃ (r1 : RgnV) (lf : Int), Has ρ' A ∧ Has ρ' [(0, .pointer (some ⟨b, 1, none⟩)), (3, .int .i64 n), (5, .pointer (some ⟨b6, 0, none⟩)), (6, .pointer (some ⟨b9, 0, none⟩)), (8, .pointer (some ⟨b10, 0, none⟩)), (10, .pointer (some ⟨b12, o12, none⟩))] ∧ (s.code ⟨2, m, vt, vn⟩ n = 0) ∧ ((⟨r1.there, r1.lv, r1.l, r1.pages, r1.used + n⟩ : RgnV) = r.roomV n) ∧ (lf = (if r.abs.more n then s.left - 1 else s.left)) ∧ (0 ≤ r1.used ∧ r1.used ≤ 1000) ∧ St cx w' (gBlk z b lv lf :: sl 131 4 lv ((rv.set m r1).map RgnV.cells) :: big (RgnV.res H1) rv :: blk b10 182 [.int .i64 0, .int .i64 0, .int .i64 0, .int .i64 0] :: blk b9 278 [.bool arr, tlv] :: blk b6 182 [.int .i64 2, .int .i64 m, .int .i64 vt, .int .i64 vn] :: sl H1.Tv 4 tlv (tl.map Val.cells) :: L.eraseIdx i)) ?_ ?_
     · skip
       all_goals (refine Zad ?_; refine Zag ?_; refine Q1 hS hel rfl fd hlm (Qp hr) rfl ?_)
       all_goals (first | (refine Qd ?_) | (refine Qh ?_) | (refine Q6 rfl rfl (fun hc => ?_) (fun hc => ?_)))
       all_goals (refine zm ?_; (first | refine zgn ?_ | (refine Zam ?_)); (first | refine zgn ?_ | (refine Zam ?_)); (first | refine zgn ?_ | (refine ZaQ ?_)); (first | refine zgn ?_ | (refine Zaj ?_)); (first | refine zgn ?_ | (refine zgy ?_; refine Q1 hS hel rfl fd hlm (Qp hr) rfl ?_)); (first | refine zgn ?_ | (refine zgy ?_; refine zsu ?_)))
       all_goals (first | refine zgn ?_ | (refine zgy ?_; (first | (refine QG ?_) | (refine QL ?_) | (refine Qc rfl rfl (fun hc => ?_) (fun hc => ?_)))))
       all_goals (refine Zaf ?_)
       all_goals
        first
        | (refine zcf ?_
           all_goals (have hmo : ¬ r.abs.more n = true := (by rw [hmi]; omega))
           all_goals refine zsk ?_)
        | (refine zct ?_
           all_goals (have hmo : r.abs.more n = true := hmi.2 (by omega); refine ZaA ?_; refine Zag ?_; (first | (refine Q1 hS hel rfl fd hlm (Qp hr) rfl ?_) | (refine Q1 hS hel rfl fd (hls _) (Qp (QN (by omega))) rfl ?_) | (refine zl hS ?_)))
           all_goals (first | (refine Qd ?_) | (refine Qh ?_) | (refine Q6 rfl rfl (fun hc => ?_) (fun hc => ?_)))
           all_goals (refine zn ?_)
           all_goals
            first
            | (refine zcf ?_
               all_goals (rw [if_neg (by omega)] at hcd)
               all_goals refine zsk ?_)
            | (refine zct ?_
               all_goals (rw [if_pos ⟨hmo, by omega⟩] at hcd; refine Zaa ?_; refine zb0 [_, _, _, _] ?_; refine zsn hS ?_; intro w1 hS; have hS := hS.ns; refine Zae ?_; refine QH vw (Q4 (n := 4) (by kernel_rfl) (by kernel_rfl) (hS.blkAt fd) (by rfl) (by rfl)) vw ?_)
               all_goals (obtain ⟨e1, e2⟩ := Q4B (s := s) (v := ⟨2, m, vt, vn⟩) (n := n) (by omega) (if arr then 4 else 3) ⟨arr, tl⟩; rw [e1, e2, hcd]; exact ⟨_, rfl, rfl, (Qk ho1 (L := L.eraseIdx i) hS.sp).back hi⟩))
           all_goals (refine Zad ?_; refine Zag ?_; (first | (refine Q1 hS hel rfl fd hlm (Qp hr) rfl ?_) | (refine Q1 hS hel rfl fd (hls _) (Qp (QN (by omega))) rfl ?_) | (refine zl hS ?_)); refine zsu ?_; refine Zag ?_; refine zst hS ?_; intro w1 hS; have hS := hS.ns; refine Zbi ?_; refine Zag ?_; refine Q1 hS hel rfl fd hlm (Qp hr) rfl ?_; refine zad ?_; refine Zag ?_; refine QM hS hel rfl vw fd hlm (Qp hr) (by omega) (by rfl) (Q4A (r' := ⟨r.there, r.lv, r.l, r.pages + 1, r.used⟩) rfl) ?_; intro w8 hS; have hS := hS.ns; refine Zbd ?_; refine Zag ?_)
           all_goals (refine QM hS hel rfl vw fd (hls _) (Qp (QN (r := ⟨r.there, r.lv, r.l, r.pages + 1, r.used⟩) (by omega))) (by omega) (by rfl) (Q4A (r' := ⟨r.there, r.lv, r.l, r.pages + 1, 0⟩) rfl) ?_; intro w8 hS; have hS := hS.ns; rw [List.set_set] at hS)
           all_goals refine zn ?_)
       all_goals (first | (exact ⟨r, s.left, zh, zh, (by rw [hcd, if_neg (fun h => hmo h.1)]), (by unfold RgnV.roomV; rw [if_neg hmo]), (by rw [if_neg hmo]), (by omega), by rw [Q3W hr]; exact hS.sp⟩) | (exact ⟨⟨r.there, r.lv, r.l, r.pages + 1, 0⟩, s.left - 1, zh, zh, hcd, (by unfold RgnV.roomV; rw [if_pos hmo, Int.zero_add]), (by rw [if_pos hmo]), (by simp), hS.sp⟩))
     rintro ρ w1 ⟨r1, lf, hA, hρ, hcd, hr1, hlf, hu1, hS⟩; obtain ⟨ρ, rfl⟩ := env2 hA hρ
     all_goals (refine Zad ?_; refine Zag ?_; refine Q1 hS hel rfl fd (hls _) (Qp (QN (r := r1) (by omega))) rfl ?_; refine zm ?_; refine zad ?_; refine Zag ?_; refine QM hS hel rfl vw fd (hls _) (Qp (QN (r := r1) (by omega))) (by omega) (by rfl) (Q4A (r' := ⟨r1.there, r1.lv, r1.l, r1.pages, r1.used + n⟩) rfl) ?_; intro w8 hS; have hS := hS.ns; rw [List.set_set, hr1] at hS; have hbig : big (RgnV.res H1) rv = big (RgnV.res H1) (rv.set m (r.roomV n)) := (Qa9 hr (by unfold RgnV.res; rw [e4, e5])).symm; rw [hbig] at hS; have hS := Qq (H := H1) hS (QN (by omega)); have hrl := hrn.1; rw [← e5] at hrl; refine ZaZ ?_; refine zC [(0, none), (1, none), (2, none), (3, none), (4, none), (5, none), (6, some (some [4])), (7, some (some [])), (8, none), (9, none), (10, some none)] ?_; have hS := hS.drew; refine Zbs ?_; refine Zbx ?_; (first | (refine Q1 hS hel rfl fd hlm (Qp hr) rfl ?_) | (refine Q1 hS hel rfl fd (hls _) (Qp (QN (by omega))) rfl ?_)))
     all_goals (refine Zab ?_; refine zv hS ?_; refine Zar ?_; refine zB1 hS [_, _] ?_; intro b1 w1 hS; refine zt ?_; refine ⟨List.forall_mem_cons.2 ⟨(by (exact QA hS hel rfl fd (hls _) (Qp (QN (by omega))) rfl)), fun _ h => (List.not_mem_nil h).elim⟩, ?_⟩; refine Q4n ?_; refine Q1x Qco (.inl Qba) hS vw vw fd (hS.srcB fd (by rfl) (one2 rfl h1)) (by first | omega | (simp only [List.length_map, List.length_append, List.length_cons, List.length_nil, List.length_set, List.length_replicate]; omega)) ?_; intro v7 w7 hS; have hS := hS.ns; have hS := hS.drop; refine zt ?_; refine ⟨fun _ h => (List.not_mem_nil h).elim, ?_⟩; refine s_cq ?_; refine znc ?_; refine ZbP ?_; refine QM hS hel rfl vw fd (hls (r.roomV n)) (Qp (QN (r := r.roomV n) (by omega))) (by omega) (by first | rfl | assumption | exact hS.oneC fd) (Q4A (r' := Q4b (r.roomV n) v7 ⟨arr, tlv, tl⟩) rfl) ?_; intro w8 hS; have hS := hS.ns; rw [List.set_set] at hS; refine Zaw ?_; refine Zaa ?_; refine Zan ?_)
     all_goals (refine Zaa ?_; refine zf0 ?_; (first | (refine Q1 hS hel rfl fd hlm (Qp hr) rfl ?_) | (refine Q1 hS hel rfl fd (hls _) (Qp (QN (by omega))) rfl ?_) | (refine zl hS ?_)); refine zn ?_)
     refine QbA rfl (fun hc => ?_) (fun hc => ?_)
     · skip
       all_goals (refine Qn ?_; refine Zan ?_; refine zD (ci 12 [10, 11]) ?_; have hS := hS.drew; refine zm ?_; refine zf0 ?_; (first | (refine Q1 hS hel rfl fd hlm (Qp hr) rfl ?_) | (refine Q1 hS hel rfl fd (hls _) (Qp (QN (by omega))) rfl ?_) | (refine zl hS ?_)); refine ZaW ?_; refine Q1 (j := 1) (u := v7) hS hel rfl fd (hls _) (Qp (QN (r := Q4b (r.roomV n) v7 ⟨arr, tlv, tl⟩) (by omega))) rfl ?_; refine QY (n := r.l.length + 1) hS vw fd (by simp [e5]) ?_; refine Q4e rfl rfl (by omega) (by omega) ?_; rw [show ((r.l.length + 1 : Nat) : Int) - 1 = r.l.length by omega]; refine zb3 [_, _, _, _] ?_; refine zsn hS ?_; intro w1 hS; have hS := hS.ns; refine Zae ?_; refine QH vw (Q4 (n := 4) (by kernel_rfl) (by kernel_rfl) (hS.blkAt fd) (by rfl) (by rfl)) vw ?_; (first | (obtain ⟨e1, e2⟩ := Q4B (s := s) (v := ⟨2, m, vt, vn⟩) (n := n) (by omega) (if arr then 4 else 3) ⟨arr, tl⟩; rw [e1, e2, hcd]; exact ⟨_, rfl, rfl, (Qk ho1 (L := L.eraseIdx i) hS.sp).back hi⟩) | (have hS : St cx _ (ThgV.res H1 ⟨arr, tlv, tl⟩ :: big (ThgV.res H1) (r.roomV n).l :: sl H1.Tt 2 v7 (((r.roomV n).l ++ [(⟨arr, tlv, tl⟩ : ThgV)]).map ThgV.cells) :: gBlk z b lv lf :: sl 131 4 lv ((rv.set m (Q4b (r.roomV n) v7 ⟨arr, tlv, tl⟩)).map RgnV.cells) :: big (RgnV.res H1) ((rv.set m (r.roomV n)).eraseIdx m) :: L.eraseIdx i) := (by rw [List.map_append]; exact hS.sp); have hS := Q62 (H := H1) (rv := rv.set m (r.roomV n)) (k := m) (r := Q4b (r.roomV n) v7 ⟨arr, tlv, tl⟩) (by rw [List.length_set]; omega) (St.big_push hS).mv1; rw [List.set_set] at hS; obtain ⟨e6, e7, e8⟩ := Q90 (t := ⟨arr, tl⟩) (kind := if arr then 4 else 3) hcd hsl hrs; have ho2 : HpO (N + 1) (s.put ⟨2, m, vt, vn⟩ n ⟨arr, tl⟩) (rv.set m (Q4b (r.roomV n) v7 ⟨arr, tlv, tl⟩)) := ⟨by rw [List.map_set, Q64, e3, ho.hr, e6]; rfl, HpS.ok_put hok hn htl⟩; rw [e8, hcd]; exact ⟨_, rfl, by rw [Q9j, hc]; rfl, (Qk ho2 (by rw [e6]; rw [← hlf]; exact hS)).back hi⟩)))
     · skip
       all_goals (refine zsk ?_; refine Qb ?_; refine zD (ci 12 [10, 11]) ?_; have hS := hS.drew; refine zm ?_; refine zf0 ?_; (first | (refine Q1 hS hel rfl fd hlm (Qp hr) rfl ?_) | (refine Q1 hS hel rfl fd (hls _) (Qp (QN (by omega))) rfl ?_) | (refine zl hS ?_)); refine ZaW ?_; refine Q1 (j := 1) (u := v7) hS hel rfl fd (hls _) (Qp (QN (r := Q4b (r.roomV n) v7 ⟨arr, tlv, tl⟩) (by omega))) rfl ?_; refine QY (n := r.l.length + 1) hS vw fd (by simp [e5]) ?_; refine Q4e rfl rfl (by omega) (by omega) ?_; rw [show ((r.l.length + 1 : Nat) : Int) - 1 = r.l.length by omega]; refine zb3 [_, _, _, _] ?_; refine zsn hS ?_; intro w1 hS; have hS := hS.ns; refine Zae ?_; refine QH vw (Q4 (n := 4) (by kernel_rfl) (by kernel_rfl) (hS.blkAt fd) (by rfl) (by rfl)) vw ?_; (first | (obtain ⟨e1, e2⟩ := Q4B (s := s) (v := ⟨2, m, vt, vn⟩) (n := n) (by omega) (if arr then 4 else 3) ⟨arr, tl⟩; rw [e1, e2, hcd]; exact ⟨_, rfl, rfl, (Qk ho1 (L := L.eraseIdx i) hS.sp).back hi⟩) | (have hS : St cx _ (ThgV.res H1 ⟨arr, tlv, tl⟩ :: big (ThgV.res H1) (r.roomV n).l :: sl H1.Tt 2 v7 (((r.roomV n).l ++ [(⟨arr, tlv, tl⟩ : ThgV)]).map ThgV.cells) :: gBlk z b lv lf :: sl 131 4 lv ((rv.set m (Q4b (r.roomV n) v7 ⟨arr, tlv, tl⟩)).map RgnV.cells) :: big (RgnV.res H1) ((rv.set m (r.roomV n)).eraseIdx m) :: L.eraseIdx i) := (by rw [List.map_append]; exact hS.sp); have hS := Q62 (H := H1) (rv := rv.set m (r.roomV n)) (k := m) (r := Q4b (r.roomV n) v7 ⟨arr, tlv, tl⟩) (by rw [List.length_set]; omega) (St.big_push hS).mv1; rw [List.set_set] at hS; obtain ⟨e6, e7, e8⟩ := Q90 (t := ⟨arr, tl⟩) (kind := if arr then 4 else 3) hcd hsl hrs; have ho2 : HpO (N + 1) (s.put ⟨2, m, vt, vn⟩ n ⟨arr, tl⟩) (rv.set m (Q4b (r.roomV n) v7 ⟨arr, tlv, tl⟩)) := ⟨by rw [List.map_set, Q64, e3, ho.hr, e6]; rfl, HpS.ok_put hok hn htl⟩; rw [e8, hcd]; exact ⟨_, rfl, by rw [Q9j, hc]; rfl, (Qk ho2 (by rw [e6]; rw [← hlf]; exact hS)).back hi⟩)))
 · have hcan : s.can v = false := by unfold HpS.can; rw [decide_eq_false hk, Bool.false_and]
   have hc := Q7E (n := n) hcan
   obtain ⟨e1, e2⟩ := Q4B (s := s) (v := v) (n := n) (by omega) (if arr then 4 else 3) ⟨arr, tl⟩
   rw [e1, e2, hc]
   all_goals refine lgo tyD Tryz.func223 ?_
   all_goals (refine Zaa ?_; refine QZ hS vw (by rfl) ?_; intro b6 w1 hS; simp only [Val.cells] at hS; refine QZ hS vw (by rfl) ?_; intro b9 w1 hS; refine Qg hS ?_; intro b10 w1 hS; refine ZaT ?_; refine zf0 ?_; refine zl hS ?_)
   all_goals (refine QC ?_)
   all_goals (refine zm ?_; refine zgn ?_; refine zgn ?_; refine zgn ?_; refine zgn ?_; refine zgn ?_; refine zpt ?_; refine zn ?_)
   all_goals refine zct ?_
   all_goals (refine Zaa ?_; refine zb0 [_, _, _, _] ?_; refine zsn hS ?_; intro w1 hS; have hS := hS.ns; refine Zae ?_; refine QH vw (Q4 (n := 4) (by kernel_rfl) (by kernel_rfl) (hS.blkAt fd) (by rfl) (by rfl)) vw ?_; exact ⟨_, rfl, rfl, (Qk ho1 (L := L.eraseIdx i) hS.sp).back hi⟩)
theorem QbG (v : Val) (vl : Value) (l : List Val) {j : Nat} (hN : N ≤ 100000) (hl : l.length ≤ 1000) (hS : St cx w L) (hi : nth L i = some (Q1D z N h s)) (hj : nth L j = some (sl H1.Tv 4 vl (l.map Val.cells))) :
 Rets Tryz.prog Q6P [h, v.v, vl] w fun u w' => u = .tuple #[(s.putV v 3 (Q1U l)).v, .int .i64 (s.code v (Q1U l))] ∧ St cx w' (L.set i (Q1D z (N + 1) h (s.tuple v l))) := by
 have hlen : (l.map Val.cells).length = l.length := List.length_map _
 all_goals refine lgo tyD Tryz.func188 ?_
 all_goals (refine Zaa ?_; refine QZ hS vw (by rfl) ?_; intro b4 w1 hS; simp only [Val.cells] at hS; refine Qg hS ?_; intro b6 w1 hS; refine Zac ?_; refine Zbb ?_; refine QY hS vw (show nth (_ :: _ :: L) (j + 2) = _ from hj) hlen ?_; refine Zac ?_)
 refine zM [] (fun A ρ' w' => ∃ (wn : Int), Has ρ' A ∧ Has ρ' [(0, h), (2, vl), (4, .pointer (some ⟨b4, 0, none⟩)), (6, .pointer (some ⟨b6, 0, none⟩)), (8, .slice none 0 0), (9, .int .i64 wn)] ∧ (wn = Q1U l) ∧ St cx w' (blk b6 182 [.int .i64 0, .int .i64 0, .int .i64 0, .int .i64 0] :: blk b4 182 [.int .i64 v.kind, .int .i64 v.region, .int .i64 v.thing, .int .i64 v.n] :: L)) ?_ ?_
 · skip
   all_goals (refine Zad ?_)
   all_goals (first | (refine Qd ?_) | (refine Qh ?_) | (refine Q6 rfl rfl (fun hc => ?_) (fun hc => ?_)))
   all_goals (refine zn ?_)
   all_goals
    first
    | (refine zct ?_
       all_goals (refine Zak ?_)
       all_goals refine zn ?_)
    | (refine zcf ?_
       all_goals refine zsk ?_)
   all_goals ((first | (exact ⟨1, zh, zh, (by unfold Q1U; rw [if_pos (by omega)]), hS.sp⟩) | (exact ⟨(l.length : Int), zh, zh, (by unfold Q1U; rw [if_neg (by omega)]), hS.sp⟩)))
 rintro ρ w1 ⟨wn, hA, hρ, hw, hS⟩; obtain ⟨ρ, rfl⟩ := env2 hA hρ
 all_goals (refine Qb ?_; refine zC [(0, none), (1, none), (2, none), (3, none), (6, none), (4, some (some [1])), (5, none), (7, some none), (8, none), (9, none), (10, some none), (11, some none)] ?_; have hS := hS.drew; refine ZaF ?_; refine zv hS ?_; refine Zat ?_; refine Zal ?_; refine zm ?_; refine Zar ?_; have hS := hS.nil (T := H1.Tv) (es := 4); refine Q1x Q7A (.inl Q7c) hS vw vw nth0 (St.srcS (i := j + 3) (T := H1.Tv) (v := vl) (css := l.map Val.cells) hS hj (Q7b l)) (by rw [hlen, List.length_nil]; omega) ?_; intro v2 w2 hS; simp only [List.set_cons_zero, List.nil_append] at hS; have hone := hS.oneC nth0; obtain ⟨a_, c_, rfl⟩ := hS.shape nth0; subst hw; refine ZaI ?_; refine zb1 [_, _] ?_; refine Zax ?_; refine zR4 (c := QbI v (Q1U l) false _ l (Q7R hl) hN hl hone hS (show nth (_ :: _ :: L) (i + 2) = _ from hi)) (h := ?_); rintro v2 w2 ⟨rfl, hS⟩; have hS := hS.ns; refine Zab ?_; refine Zbl ?_)
 all_goals (refine zxt ?_; refine Zax ?_; refine Q1n hS rfl rfl (by rfl) fd (by simp) (QQ _) (by rfl) ?_; intro w1 hS; have hS := hS.ns; refine ZbD ?_; refine zr ?_; refine QH vw (Q4 (n := 4) (by kernel_rfl) (by kernel_rfl) (hS.blkAt fd) (by rfl) (by rfl)) vw ?_; exact ⟨_, rfl, rfl, hS.drop.drop⟩)
theorem QbK (v : Val) (n : Int) (hN : N ≤ 100000) (hS : St cx w L) (hi : nth L i = some (Q1D z N h s)) :
 Rets Tryz.prog Q5r [h, v.v, .int .i64 n] w fun u w' => u = .tuple #[(s.arrV v n).v, .int .i64 (s.arrC v n)] ∧ St cx w' (L.set i (Q1D z (N + 1) h (s.arr v n))) := by
 by_cases hn : n < 0 ∨ 15 < n
 · have e1 : s.arr v n = s := by unfold HpS.arr; rw [if_pos hn]
   have e2 : s.arrV v n = Val.zero := by unfold HpS.arrV; rw [if_pos hn]
   have e3 : s.arrC v n = 1 := by unfold HpS.arrC; rw [if_pos hn]
   rw [e1, e2, e3]
   obtain ⟨hok, b, rfl⟩ := Q1T hS hi
   all_goals refine lgo tyD Tryz.func189 ?_
   all_goals (refine Zaa ?_; refine QZ hS vw (by rfl) ?_; intro b4 w1 hS; simp only [Val.cells] at hS; refine Qg hS ?_; intro b6 w1 hS; refine ZaG ?_)
   all_goals (first | (refine Q1c ?_) | (refine Q1l ?_) | (refine QB rfl rfl (fun hc => ?_) (fun hc => ?_)))
   all_goals (refine zm ?_; (first | refine zgn ?_ | (refine Zam ?_)))
   all_goals (first | refine zgn ?_ | (refine zgy ?_; refine QG ?_))
   all_goals (refine Zaf ?_)
   all_goals refine zct ?_
   all_goals (refine Zaa ?_; refine zb0 [_, _, _, _] ?_; refine zsn hS ?_; intro w1 hS; have hS := hS.ns; refine Zae ?_; refine QH vw (Q4 (n := 4) (by kernel_rfl) (by kernel_rfl) (hS.blkAt fd) (by rfl) (by rfl)) vw ?_; refine ⟨_, rfl, rfl, ?_⟩; obtain ⟨lv, rv, ho, hS⟩ := Q2F hS.drop.drop hi; exact (Qk (⟨ho.hr, hok.mono (by omega)⟩ : HpO (N + 1) s rv) hS).back hi)
 · obtain ⟨m, rfl⟩ := Int.eq_ofNat_of_zero_le (show 0 ≤ n by omega)
   have e1 : s.arr v m = s.put v (m + 1) ⟨true, Q2y m⟩ := by unfold HpS.arr; rw [if_neg hn]
   have e2 : s.arrV v m = s.putV v 4 (m + 1) := by unfold HpS.arrV; rw [if_neg hn]
   have e3 : s.arrC v m = s.code v (m + 1) := by unfold HpS.arrC; rw [if_neg hn]
   rw [e1, e2, e3]
   all_goals refine lgo tyD Tryz.func189 ?_
   all_goals (refine Zaa ?_; refine QZ hS vw (by rfl) ?_; intro b4 w1 hS; simp only [Val.cells] at hS; refine Qg hS ?_; intro b6 w1 hS; refine ZaG ?_)
   all_goals (first | (refine Q1c ?_) | (refine Q1l ?_))
   all_goals (refine zm ?_; (first | refine zgn ?_ | (refine Zam ?_)))
   all_goals (first | refine zgn ?_ | (refine ZbR ?_))
   all_goals (refine Zaf ?_)
   all_goals refine zcf ?_
   all_goals (refine zsk ?_; refine Zaa ?_; refine zb1 [_, _] ?_; refine Qg hS ?_; intro b8 w1 hS; refine Q1n hS rfl rfl (by rfl) fd (by simp) (by first | exact QQ _ | exact one2 rfl rfl) (by rfl) ?_; intro w1 hS; have hS := hS.ns; refine zn ?_; refine Zbr ?_; have hS := hS.nil (T := H1.Tv) (es := 4))
   refine zo [] (fun A ρ' w' => ∃ (j : Nat) (va : Value), Has ρ' A ∧ Has ρ' [(0, h), (2, .int .i64 m), (4, .pointer (some ⟨b4, 0, none⟩)), (6, .pointer (some ⟨b6, 0, none⟩)), (8, .pointer (some ⟨b8, 0, none⟩)), (9, .int .i64 j)] ∧ (j ≤ m) ∧ St cx w' (sl H1.Tv 4 va ((Q2y j).map Val.cells) :: blk b8 278 [.bool true, va] :: blk b6 182 [.int .i64 0, .int .i64 0, .int .i64 0, .int .i64 0] :: blk b4 182 [.int .i64 v.kind, .int .i64 v.region, .int .i64 v.thing, .int .i64 v.n] :: L)) (fun ρ' _ => (m - iv (ρ' 9)).toNat) ?_ ?_
   · exact ⟨0, .slice none 0 0, zh, zh, (by omega), hS.sp⟩
   rintro ρ w1 ⟨j, va, hA, hρ, hj, hS⟩; obtain ⟨ρ, rfl⟩ := env2 hA hρ; have hnl := Q67 (n := j)
   all_goals (refine ZbK ?_; refine Zau ?_)
   refine Qt rfl (fun hc => ?_) (fun hc => ?_)
   · skip
     all_goals (refine ZaJ ?_; refine Qn ?_; refine zf0 ?_; refine zl hS ?_; refine zb1 [_, _, _, _] ?_; refine zB1 hS [_, _, _, _] ?_; intro b1 w1 hS; refine Q1x Q7A (.inl Q7c) hS vw vw fd (hS.srcB fd (by rfl) (by simp [oneC])) (by first | omega | (simp only [List.length_map, List.length_append, List.length_cons, List.length_nil, List.length_set, List.length_replicate]; omega)) ?_; intro v7 w7 hS; have hS := hS.ns; refine zf0 ?_; refine zst hS ?_; intro w1 hS; have hS := hS.ns; refine Zbd ?_; refine zad ?_; refine Zac ?_; exact ⟨⟨j + 1, _, zh, zh, (by omega), by rw [show ((j + 1 : Nat) : Int) = (j : Int) + 1 by omega, Q5v, List.map_append]; exact hS.sp⟩, Qu (by omega)⟩)
   · skip
     all_goals (refine zex ?_; obtain rfl : j = m := (by omega); have hone := hS.oneC nth0; refine Zad ?_; refine zv hS ?_; refine zv hS ?_; refine zm ?_; refine zad ?_; refine zR4 (c := QbI v (j + 1) true va (Q2y j) (by omega) hN (by omega) hone hS (show nth (_ :: _ :: _ :: L) (i + 3) = _ from hi)) (h := ?_); rintro v2 w2 ⟨rfl, hS⟩; have hS := hS.ns; refine ZaV ?_; refine Q1n hS rfl rfl (by rfl) fd (by simp) (by exact QQ _) (by rfl) ?_; intro w1 hS; have hS := hS.ns; refine Zae ?_; refine QH vw (Q4 (n := 4) (by kernel_rfl) (by kernel_rfl) (hS.blkAt fd) (by rfl) (by rfl)) vw ?_; exact ⟨_, rfl, rfl, hS.drop.drop.drop⟩)
end Go.Proofs.YteflkifmgnpbhaaGreat
namespace Go.Lir
theorem valf_y {g : Frm} {k : Int} {v : Val} (h0 : 0 ≤ k) (h : g.vals[k.toNat]? = some v) : g.val k = some v := by unfold Frm.val; rw [if_neg (by omega)]; exact h
theorem valf_n {g : Frm} {k : Int} (h : k < 0 ∨ (g.vals.length : Int) ≤ k) : g.val k = none := by
 unfold Frm.val
 by_cases h0 : k < 0
 · rw [if_pos h0]
 · rw [if_neg h0]; exact List.getElem?_eq_none (by omega)
theorem Q94 {g : Frm} {k n : Int} (h : g.num k = some n) : ∃ v ∈ g.vals, v.n = n := by
 unfold Frm.num Frm.val at h
 split at h
 · cases h
 · rename_i v hv
   split at hv
   · cases hv
   · split at h
     · exact ⟨v, List.mem_of_getElem? hv, Option.some.inj h⟩
     · cases h
end Go.Lir
namespace Go.Proofs.YteflkifmgnpbhaaGreat
open Go.Lir
set_option maxHeartbeats 1000000
attribute [local irreducible] LC.wp Q0 QF QE retQ Q16 LO.wp Qf Calls
set_option linter.unusedSimpArgs false
set_option linter.unusedVariables false
theorem Qcq : Q1Q Tryz.prog 47 = some (119, 5, 72, [.int .i64 0, .int .i64 0, .int .i64 0, .slice none 0 0, .slice none 0 0]) := by kernel_rfl
theorem Qbc : ∃ e2, Tryz.prog.underlying 47 = some (.slice e2) := ⟨119, by kernel_rfl⟩
def FrmV.res1 (x : FrmV) : Res := star (sl 182 4 x.vv (x.vals.map Val.cells)) (sl 3 1 x.rv (Q8 x.regs))
@[reducible] def gL (p : Nat) (z : GZ) (lv : Value) (left : Int) (fr : List FrmV) (g : FrmV) (L : List Res) : List Res := gBlk z p lv left :: sl 119 5 z.fv (Q1v fr g) :: sl 182 4 g.vv (g.vals.map Val.cells) :: sl 3 1 g.rv (Q8 g.regs) :: big FrmV.res1 fr :: L
@[reducible] def GZ.end (z : GZ) (e : Int) : GZ := ⟨z.fn, z.fv, z.iv, e, z.bv, z.ov, z.fu, z.mo, true, z.c, z.a⟩
variable {cx : Cx} {w : World} {L : List Res} {p : Nat} {z : GZ} {fr : List FrmV} {g : FrmV} {lv : Value} {left : Int}
theorem gends_c (e : Int) (hS : St cx w (gBlk z p lv left :: L)) : Rets Tryz.prog Q5C [.pointer (some ⟨p, 0, none⟩), .int .i64 e] w fun u w' => u = .int .i64 1 ∧ St cx w' (gBlk (z.end e) p lv left :: L) := by
 all_goals refine lgo tyD Tryz.func72 ?_
 all_goals (refine Zbb ?_; refine ZaO ?_; refine znc ?_; refine zf0 ?_; refine zst hS ?_; intro w1 hS; have hS := hS.ns; refine znc ?_; refine zf0 ?_; (first | refine zf0 ?_ | refine zfd ?_); refine zst hS ?_; intro w1 hS; have hS := hS.ns; refine zn ?_; refine Zaq ?_; exact ⟨_, rfl, rfl, hS.sp⟩)
theorem Q2P (hf : fr.length ≤ 1000) (hS : St cx w (gL p z lv left fr g L)) : Rets Tryz.prog Q9q [.pointer (some ⟨p, 0, none⟩)] w fun u w' => ∃ b o, u = .pointer (some ⟨b, o, none⟩) ∧ ElP z.fv (fr.length + 1) 5 fr.length b o ∧ St cx w' (gL p z lv left fr g L) := by
 all_goals refine lgo tyD Tryz.func73 ?_
 all_goals (refine Zaa ?_; refine Zan ?_; refine zD (ci 12 [11]) ?_; have hS := hS.drew; refine Zbe ?_; refine zf0 ?_; refine zl hS ?_; refine Zbe ?_; refine zf0 ?_; refine zl hS ?_; refine QY hS vw fd (Q5 fr g) ?_; refine Q4e rfl rfl (by omega) (by omega) ?_; rw [show ((fr.length + 1 : Nat) : Int) - 1 = fr.length by omega]; refine Q29 hS vw rfl fd (by rw [Q5]; omega) ?_; rw [Q5]; intro b1 o1 hel; refine Zah ?_; exact ⟨_, rfl, b1, o1, rfl, hel, hS.sp⟩)
attribute [local irreducible] Frm.val Frm.num Frm.args Frm.rgs Frm.reg
theorem Qch {l : List Int} {v1 : Value} (hl1 : l.length ≤ 100000) (hf : fr.length ≤ 1000) (hl : intR.sl cx v1 l) (hS : St cx w (gL p z lv left fr g L)) : Rets Tryz.prog Q3U [.pointer (some ⟨p, 0, none⟩), v1] w fun u w' =>
 (∃ (vs : List Val) (v : Value), g.abs.args l = some vs ∧ vs.length = l.length ∧ oneC v = true ∧ u = .tuple #[v, .bool true] ∧ St cx w' (gL p z lv left fr g (sl 182 4 v (vs.map Val.cells) :: L))) ∨ (g.abs.args l = none ∧ u = .tuple #[.slice none 0 0, .bool false] ∧ St cx w' (gL p z lv left fr g L)) := by
 have hlen := hl.len
 all_goals refine lgo tyD Tryz.func125 ?_
 all_goals (refine Zad ?_; refine Zac ?_; refine Zbb ?_; refine zR1 (c := Q2P hf hS) (h := ?_); rintro v1 w1 ⟨b9, o9, rfl, hel, hS⟩; refine Zag ?_; refine Q1 hS hel rfl fd (Q5 fr g) (Q7 fr g) rfl ?_; refine ZbU ?_; have hS : St cx _ (gL p z lv left fr g (sl 182 4 (.slice none 0 0) (([] : List Val).map Val.cells) :: L)) := (by have hS := hS.nil (T := 182) (es := 4); exact hS.sp))
 refine zo [1, 7] (fun A ρ' w' => ∃ (q : Nat) (vo : Value) (out : List Val), Has ρ' A ∧ Has ρ' [(6, vo), (8, .int .i64 q)] ∧ (q ≤ l.length) ∧ (out.length = q) ∧ (oneC vo = true) ∧ (g.abs.args l = (g.abs.args (l.drop q)).map fun r => out ++ r) ∧ St cx w' (gL p z lv left fr g (sl 182 4 vo (out.map Val.cells) :: L))) (fun ρ' _ => (l.length - iv (ρ' 8)).toNat) ?_ ?_
 · exact ⟨0, .slice none 0 0, [], zh, zh, (by omega), rfl, rfl, args_0, hS.sp⟩
 rintro ρ w1 ⟨q, vo, out, hA, hρ, hq, hol, hvo, hd, hS⟩; obtain ⟨ρ, rfl⟩ := env2 hA hρ
 all_goals (refine ZbK ?_; refine zL ?_; refine Zau ?_)
 refine Qt rfl (fun hc => ?_) (fun hc => ?_)
 · skip
   all_goals (refine ZaJ ?_; refine ZbK ?_; refine zi ?_; intro b1 o1 cs1 x1 hat1 hx1 he1; obtain rfl := Q1z he1; (first | (refine zl hS ?_) | (refine zlk hS ?_)))
   all_goals (first | (refine Q1c ?_) | (refine Q1l ?_) | (refine QB rfl rfl (fun hc => ?_) (fun hc => ?_)))
   all_goals (refine zm ?_; (first | refine zgn ?_ | (refine Zam ?_)); (first | refine zgn ?_ | (refine Zam ?_)); (first | refine zgn ?_ | (refine zgy ?_; refine zi ?_; intro b2 o2 cs2 x2 hat2 hx2 he2; obtain rfl := Q1z he2)); (first | refine zgn ?_ | (refine zgy ?_; (first | (refine zl hS ?_) | (refine zlk hS ?_)))); (first | refine zgn ?_ | (refine Zam ?_)); (first | refine zgn ?_ | (refine zgy ?_; refine QY hS vw fd (List.length_map _) ?_)))
   all_goals (first | refine zgn ?_ | (refine zgy ?_; (first | (refine Q2l ?_) | (refine Q2U ?_) | (refine Q1M rfl rfl (fun hc => ?_) (fun hc => ?_)))))
   all_goals (refine Zaf ?_)
   all_goals
    first
    | (refine zct ?_
       all_goals (refine Zad ?_; refine Zae ?_; refine zf2 ?_)
       all_goals (exact ⟨_, rfl, .inr ⟨Q7I hd hx1 (valf_n (by first | exact .inl (by omega) | (have hxx := Option.some.inj (hx1.symm.trans hx2); exact .inr (by show (g.vals.length : Int) ≤ x1; omega)))), rfl, hS.sp⟩⟩))
    | (refine zcf ?_
       all_goals refine zsk ?_)
   all_goals (have hxx := Option.some.inj (hx1.symm.trans hx2); obtain ⟨v9, hv9⟩ : ∃ v, g.vals[x1.toNat]? = some v := ⟨_, List.getElem?_eq_getElem (by omega)⟩; have hvg := valf_y (g := g.abs) (by omega) hv9; refine ZbN ?_; refine zm ?_; refine zi ?_; intro b3 o3 cs3 x3 hat3 hx3 he3; obtain rfl := Q1z he3; (first | (refine zl hS ?_) | (refine zlk hS ?_)); rw [← Option.some.inj (hx1.symm.trans hx3)]; refine QV hS vw rfl fd (by omega) (by rw [List.length_map]; omega) ?_; rw [List.length_map]; intro b4 o4 hel4; refine Q1i hS hel4 rfl fd (List.length_map _) (show (g.vals.map Val.cells)[x1.toNat]? = some v9.cells by rw [List.getElem?_map, hv9]; rfl) ?_; unfold Val.cells; refine zB1 hS [_, _, _, _] ?_; intro b1 w1 hS; refine Q1x Q7A (.inl Q7c) hS vw vw (i := 6) rfl (hS.srcB (i := 0) rfl (by rfl) (by simp [oneC])) (by rw [List.length_map]; simp only [List.length_cons, List.length_nil]; omega) ?_; intro v7 w7 hS; have hS := hS.ns; have ho7 := hS.oneC (i := 6) rfl)
   all_goals (refine Zac ?_; refine Zak ?_; refine zad ?_; refine Zac ?_; exact ⟨⟨q + 1, v7, out ++ [v9], zh, zh, (by omega), by rw [List.length_append, hol]; rfl, ho7, Q8n hd hx1 hvg, by rw [List.map_append]; exact hS.sp⟩, Qu (by omega)⟩)
 · skip
   all_goals (refine zex ?_; refine Zby ?_; refine Zae ?_; refine zf2 ?_; (first | (exact ⟨_, rfl, .inr ⟨Q7I hd hx1 (valf_n (by exact .inl (by omega))), rfl, hS.sp⟩⟩) | (exact ⟨_, rfl, .inl ⟨out, _, Qac hd (by omega), by omega, hvo, rfl, hS.sp⟩⟩)))
end Go.Proofs.YteflkifmgnpbhaaGreat
namespace Go.Lir
theorem Qau {vs : List Val} {q : Nat} {v : Val} (h : vs[q]? = some v) : (vs.take q).map Val.n ++ [v.n] = (vs.take (q + 1)).map Val.n := by
 obtain ⟨hq, rfl⟩ := List.getElem?_eq_some_iff.1 h
 rw [List.take_succ_eq_append_getElem hq, List.map_append]; rfl
theorem bk_0 {P : Prop} : false = true ↔ false = true ∧ P := by simp
theorem bk_t {P : Prop} (h : P) : true = true ↔ true = true ∧ P := by simp [h]
theorem bk_f {P : Prop} (h : ¬ P) : false = true ↔ true = true ∧ P := by simp [h]
theorem Q6x {vs : List Val} {q : Nat} {v : Val} {b : Bool} (hb : b = true ↔ ∀ x ∈ vs.take q, x.kind = 1) (h : vs[q]? = some v) : ∀ b', (b' = true ↔ b = true ∧ v.kind = 1) → (b' = true ↔ ∀ x ∈ vs.take (q + 1), x.kind = 1) := by
 intro b' hb'
 obtain ⟨hq, rfl⟩ := List.getElem?_eq_some_iff.1 h
 rw [hb', hb, List.take_succ_eq_append_getElem hq]
 simp only [List.forall_mem_append, List.mem_singleton, forall_eq]
end Go.Lir
namespace Go.Proofs.YteflkifmgnpbhaaGreat
open Go.Lir
set_option maxHeartbeats 1000000
attribute [local irreducible] LC.wp Q0 QF QE retQ Q16 LO.wp Qf Calls
set_option linter.unusedSimpArgs false
set_option linter.unusedVariables false
variable {cx : Cx} {w : World} {L : List Res} {p : Nat} {z : GZ} {fr : List FrmV} {g : FrmV} {lv : Value} {left : Int}
attribute [local irreducible] Frm.val Frm.num Frm.args Frm.rgs Frm.reg
theorem gregs_c {l : List Int} {v1 : Value} (hl1 : l.length ≤ 100000) (hf : fr.length ≤ 1000) (hl : intR.sl cx v1 l) (hS : St cx w (gL p z lv left fr g L)) : Rets Tryz.prog Q5A [.pointer (some ⟨p, 0, none⟩), v1] w fun u w' =>
 (∃ (vs : List Int) (v : Value), g.abs.rgs l = some vs ∧ vs.length = l.length ∧ oneC v = true ∧ u = .tuple #[v, .bool true] ∧ St cx w' (gL p z lv left fr g (sl 3 1 v (Q8 vs) :: L))) ∨ (g.abs.rgs l = none ∧ u = .tuple #[.slice none 0 0, .bool false] ∧ St cx w' (gL p z lv left fr g L)) := by
 have hlen := hl.len
 all_goals refine lgo tyD Tryz.func124 ?_
 all_goals (refine Zad ?_; refine Zac ?_; refine Zbb ?_; refine zR1 (c := Q2P hf hS) (h := ?_); rintro v1 w1 ⟨b9, o9, rfl, hel, hS⟩; refine Zag ?_; refine Q1 hS hel rfl fd (Q5 fr g) (Q7 fr g) rfl ?_; refine ZbU ?_; have hS : St cx _ (gL p z lv left fr g (sl 3 1 (.slice none 0 0) (Q8 []) :: L)) := (by have hS := hS.nil (T := 3) (es := 1); exact hS.sp))
 refine zo [1, 7] (fun A ρ' w' => ∃ (q : Nat) (vo : Value) (out : List Int), Has ρ' A ∧ Has ρ' [(6, vo), (8, .int .i64 q)] ∧ (q ≤ l.length) ∧ (out.length = q) ∧ (oneC vo = true) ∧ (g.abs.rgs l = (g.abs.rgs (l.drop q)).map fun r => out ++ r) ∧ St cx w' (gL p z lv left fr g (sl 3 1 vo (Q8 out) :: L))) (fun ρ' _ => (l.length - iv (ρ' 8)).toNat) ?_ ?_
 · exact ⟨0, .slice none 0 0, [], zh, zh, (by omega), rfl, rfl, rgs_0, hS.sp⟩
 rintro ρ w1 ⟨q, vo, out, hA, hρ, hq, hol, hvo, hd, hS⟩; obtain ⟨ρ, rfl⟩ := env2 hA hρ
 all_goals (refine ZbK ?_; refine zL ?_; refine Zau ?_)
 refine Qt rfl (fun hc => ?_) (fun hc => ?_)
 · skip
   all_goals (refine ZaJ ?_; refine ZbK ?_; refine zi ?_; intro b1 o1 cs1 x1 hat1 hx1 he1; obtain rfl := Q1z he1; (first | (refine zl hS ?_) | (refine zlk hS ?_)))
   all_goals (first | (refine Q1c ?_) | (refine Q1l ?_) | (refine QB rfl rfl (fun hc => ?_) (fun hc => ?_)))
   all_goals (refine zm ?_; (first | refine zgn ?_ | (refine Zam ?_)); (first | refine zgn ?_ | (refine Zam ?_)); (first | refine zgn ?_ | (refine zgy ?_; refine zi ?_; intro b2 o2 cs2 x2 hat2 hx2 he2; obtain rfl := Q1z he2)); (first | refine zgn ?_ | (refine zgy ?_; (first | (refine zl hS ?_) | (refine zlk hS ?_)))); (first | refine zgn ?_ | (refine Zam ?_)); (first | refine zgn ?_ | (refine zgy ?_; refine QY hS vw (i := 3) rfl (List.length_map _) ?_)))
   all_goals (first | refine zgn ?_ | (refine zgy ?_; (first | (refine Q2l ?_) | (refine Q2U ?_) | (refine Q1M rfl rfl (fun hc => ?_) (fun hc => ?_)))))
   all_goals (refine Zaf ?_)
   all_goals
    first
    | (refine zct ?_
       all_goals (refine Zad ?_; refine Zae ?_; refine zf2 ?_)
       all_goals (exact ⟨_, rfl, .inr ⟨Q8X hd hx1 (QbR (by first | exact .inl (by omega) | (have hxx := Option.some.inj (hx1.symm.trans hx2); exact .inr (by show (g.regs.length : Int) ≤ x1; omega)))), rfl, hS.sp⟩⟩))
    | (refine zcf ?_
       all_goals refine zsk ?_)
   all_goals (have hxx := Option.some.inj (hx1.symm.trans hx2); obtain ⟨v9, hv9⟩ : ∃ v, g.regs[x1.toNat]? = some v := ⟨_, List.getElem?_eq_getElem (by omega)⟩; have hvg := regf_y (g := g.abs) (by omega) hv9; refine ZbN ?_; refine zm ?_; refine zi ?_; intro b3 o3 cs3 x3 hat3 hx3 he3; obtain rfl := Q1z he3; (first | (refine zl hS ?_) | (refine zlk hS ?_)); rw [← Option.some.inj (hx1.symm.trans hx3)]; refine QV hS vw rfl (i := 3) rfl (by omega) (by rw [List.length_map]; omega) ?_; rw [List.length_map]; intro b4 o4 hel4; refine Q1f hS hel4 rfl (i := 3) rfl (List.length_map _) (show (Q8 g.regs)[x1.toNat]? = some [.int .i64 v9] by rw [List.getElem?_map, hv9]; rfl) rfl ?_; refine zB1 hS [_] ?_; intro b1 w1 hS; refine Q1x Q2R (.inl Q53) hS vw vw (i := 6) rfl (hS.srcB (i := 0) rfl (by rfl) (by simp [oneC])) (by rw [List.length_map]; simp only [List.length_cons, List.length_nil]; omega) ?_; intro v7 w7 hS; have hS := hS.ns; have ho7 := hS.oneC (i := 6) rfl)
   all_goals (refine Zac ?_; refine Zak ?_; refine zad ?_; refine Zac ?_; exact ⟨⟨q + 1, v7, out ++ [v9], zh, zh, (by omega), by rw [List.length_append, hol]; rfl, ho7, Q9Q hd hx1 hvg, by rw [Q8, List.map_append]; exact hS.sp⟩, Qu (by omega)⟩)
 · skip
   all_goals (refine zex ?_; refine Zby ?_; refine Zae ?_; refine zf2 ?_; (first | (exact ⟨_, rfl, .inr ⟨Q8X hd hx1 (QbR (by exact .inl (by omega))), rfl, hS.sp⟩⟩) | (exact ⟨_, rfl, .inl ⟨out, _, QbN hd (by omega), by omega, hvo, rfl, hS.sp⟩⟩)))
theorem gpush_c {j : Nat} {v2 : Value} {vs : List Val} (hf : fr.length ≤ 1000) (hn : g.vals.length + vs.length ≤ 1000000) (hS : St cx w (gL p z lv left fr g L)) (hj : nth L j = some (sl 182 4 v2 (vs.map Val.cells))) :
 Rets Tryz.prog Q5B [.pointer (some ⟨p, 0, none⟩), v2] w fun u w' => u = .int .i64 0 ∧ ∃ tv, St cx w' (gL p z lv left fr (g.push tv vs) L) := by
 all_goals refine lgo tyD Tryz.func120 ?_
 all_goals (refine Zbb ?_; refine zR1 (c := Q2P hf hS) (h := ?_); rintro v1 w1 ⟨b1, o1, rfl, hel1, hS⟩; refine zm ?_; refine zR1 (c := Q2P hf hS) (h := ?_); rintro v2 w1 ⟨b2, o2, rfl, hel2, hS⟩; refine Zag ?_; refine Q1 hS hel2 rfl fd (Q5 fr g) (Q7 fr g) rfl ?_; refine zm ?_; refine Q1x Q7A (.inl Q7c) hS vw vw (i := 2) rfl (hS.srcS (i := j + 5) hj (Q7b vs)) (by rw [List.length_map, List.length_map]; omega) ?_; intro v7 w7 hS; have hS := hS.ns; have ho7 := hS.oneC (i := 2) rfl; rw [← List.map_append] at hS; refine Zag ?_; refine QM hS hel1 rfl vw fd (Q5 fr g) (Q7 fr g) (by omega) ho7 (Q1O (g' := g.push v7 vs) rfl) ?_; intro w8 hS; have hS := hS.ns; refine zn ?_; refine Zaq ?_; exact ⟨_, rfl, rfl, v7, hS.sp⟩)
theorem gnums_c {l : List Int} {v1 : Value} (hl1 : l.length ≤ 100000) (hf : fr.length ≤ 1000) (hl : intR.sl cx v1 l) (hS : St cx w (gL p z lv left fr g L)) : Rets Tryz.prog Q2T [.pointer (some ⟨p, 0, none⟩), v1] w fun u w' =>
 (∃ (vs : List Val) (v : Value) (b : Bool), g.abs.args l = some vs ∧ vs.length = l.length ∧ oneC v = true ∧ (b = true ↔ ∀ x ∈ vs, x.kind = 1) ∧ u = .tuple #[v, .bool b] ∧ St cx w' (gL p z lv left fr g (sl 2 1 v (Q8 (vs.map Val.n)) :: L))) ∨ (g.abs.args l = none ∧ u = .tuple #[.slice none 0 0, .bool false] ∧ St cx w' (gL p z lv left fr g L)) := by
 have hlen := hl.len
 all_goals refine lgo tyD Tryz.func121 ?_
 all_goals (refine Zad ?_; refine Zac ?_)
 refine zM [] (fun A ρ' w' => ∃ (vs : List Val) (v3 : Value) (b : Bool), Has ρ' A ∧ Has ρ' [(6, v3), (7, .bool b)] ∧ (vs.length ≤ 100000) ∧ ((g.abs.args l = some vs ∧ vs.length = l.length ∧ b = true) ∨ (g.abs.args l = none ∧ vs = [] ∧ v3 = .slice none 0 0 ∧ b = false)) ∧ St cx w' (gL p z lv left fr g (sl 182 4 v3 (vs.map Val.cells) :: L))) ?_ ?_
 · skip
   all_goals (refine ZbX ?_)
   all_goals (refine zR2 (c := Qch hl1 hf hl hS) (h := ?_); rintro v9 w9 hv; rcases hv with ⟨vs, v3, hvs, hvl, ho3, rfl, hS⟩ | ⟨hvs, rfl, hS⟩)
   all_goals (refine Zbw ?_; refine Zac ?_; (first | (exact ⟨vs, v3, true, zh, zh, (by omega), .inl ⟨hvs, hvl, rfl⟩, hS.sp⟩) | (exact ⟨[], .slice none 0 0, false, zh, zh, (by simp), .inr ⟨hvs, rfl, rfl, rfl⟩, by have hS := hS.nil (T := 182) (es := 4); exact hS.sp⟩)))
 rintro ρ w1 ⟨vs, v3, b, hA, hρ, hvl, hvs, hS⟩; obtain ⟨ρ, rfl⟩ := env2 hA hρ
 all_goals (refine Zaa ?_; refine ZbU ?_; have hS : St cx _ (gL p z lv left fr g (sl 2 1 (.slice none 0 0) (Q8 []) :: sl 182 4 v3 (vs.map Val.cells) :: L)) := (by have hS := hS.nil (T := 2) (es := 1); exact hS.sp))
 refine zo [6] (fun A ρ' w' => ∃ (q : Nat) (vo : Value) (b1 : Bool), Has ρ' A ∧ Has ρ' [(7, .bool b1), (8, vo), (9, .int .i64 q)] ∧ (q ≤ vs.length) ∧ (oneC vo = true) ∧ (q = 0 → vo = .slice none 0 0 ∧ b1 = b) ∧ (0 < vs.length → (b1 = true ↔ ∀ x ∈ vs.take q, x.kind = 1)) ∧ St cx w' (gL p z lv left fr g (sl 2 1 vo (Q8 ((vs.take q).map Val.n)) :: sl 182 4 v3 (vs.map Val.cells) :: L))) (fun ρ' _ => (vs.length - iv (ρ' 9)).toNat) ?_ ?_
 · exact ⟨0, .slice none 0 0, b, zh, zh, (by omega), rfl, (fun _ => ⟨rfl, rfl⟩), (fun h0 => by rcases hvs with ⟨_, _, rfl⟩ | ⟨_, rfl, _⟩; (simp); simp at h0), hS.sp⟩
 rintro ρ w1 ⟨q, vo, b1, hA, hρ, hq, hvo, hv0, hb, hS⟩; obtain ⟨ρ, rfl⟩ := env2 hA hρ
 all_goals (refine ZbK ?_; refine QY hS vw (i := 6) rfl (List.length_map _) ?_; refine Zau ?_)
 refine Qt rfl (fun hc => ?_) (fun hc => ?_)
 · skip
   all_goals (refine ZaJ ?_)
   refine zM [6, 8, 9] (fun A ρ' w' => ∃ (b2 : Bool), Has ρ' A ∧ Has ρ' [(7, .bool b2)] ∧ (q < vs.length) ∧ (b2 = true ↔ ∀ x ∈ vs.take (q + 1), x.kind = 1) ∧ St cx w' (gL p z lv left fr g (sl 2 1 vo (Q8 ((vs.take q).map Val.n)) :: sl 182 4 v3 (vs.map Val.cells) :: L))) ?_ ?_
   · skip
     all_goals (obtain ⟨v9, hv9⟩ : ∃ v, vs[q]? = some v := ⟨_, List.getElem?_eq_getElem (by omega)⟩; have hrow : (vs.map Val.cells)[q]? = some v9.cells := (by rw [List.getElem?_map, hv9]; rfl); have hbq := hb (by omega); cases b1)
     all_goals (refine ZbX ?_; (first | refine zgn ?_ | (refine Zam ?_)); (first | refine zgn ?_ | (refine Zam ?_)); (first | refine zgn ?_ | (refine zgy ?_; refine Q29 hS vw rfl (i := 6) rfl (by rw [List.length_map]; omega) ?_; rw [List.length_map]; intro b4 o4 hel4)); (first | refine zgn ?_ | (refine Zaj ?_)); (first | refine zgn ?_ | (refine zgy ?_; refine Q1 hS hel4 rfl (i := 6) rfl (List.length_map _) hrow rfl ?_)))
     all_goals (first | refine zgn ?_ | (refine zgy ?_; (first | (refine Qd ?_) | (refine Qh ?_) | (refine Q6 rfl rfl (fun hc => ?_) (fun hc => ?_)))))
     all_goals ((first | (refine zpt ?_) | (refine zpf ?_)); refine Zac ?_; exact ⟨_, zh, zh, (by omega), (by first | exact Q6x hbq hv9 _ bk_0 | exact Q6x hbq hv9 _ (bk_t hc) | exact Q6x hbq hv9 _ (bk_f hc)), hS.sp⟩)
   rintro ρ w1 ⟨b2, hA, hρ, hq1, hb2, hS⟩; obtain ⟨ρ, rfl⟩ := env2 hA hρ; obtain ⟨v9, hv9⟩ : ∃ v, vs[q]? = some v := ⟨_, List.getElem?_eq_getElem hq1⟩; have hrow : (vs.map Val.cells)[q]? = some v9.cells := (by rw [List.getElem?_map, hv9]; rfl)
   all_goals (refine ZbN ?_; refine Q29 hS vw rfl (i := 6) rfl (by rw [List.length_map]; omega) ?_; rw [List.length_map]; intro b5 o5 hel5; (first | refine zf0 ?_ | refine zfd ?_); refine Q1 hS hel5 rfl (i := 6) rfl (List.length_map _) hrow rfl ?_; refine zB1 hS [_] ?_; intro b1 w1 hS; refine Q1x Q5x (.inl Q8E) hS vw vw (i := 6) rfl (hS.srcB (i := 0) rfl (by rfl) (by simp [oneC])) (by simp only [List.length_map, List.length_cons, List.length_nil, List.length_take]; omega) ?_; intro v7 w7 hS; have hS := hS.ns; have ho7 := hS.oneC (i := 6) rfl; refine Zac ?_; refine Zak ?_; refine zad ?_; refine Zac ?_)
   all_goals (exact ⟨⟨q + 1, v7, b2, zh, zh, (by omega), ho7, (fun h => absurd h (by omega)), (fun _ => hb2), by rw [← Qau hv9, Q8, List.map_append]; exact hS.sp⟩, Qu (by omega)⟩)
 · skip
   all_goals (refine zex ?_; refine Zad ?_; refine ZaO ?_; refine Zae ?_; refine zf2 ?_)
   all_goals (obtain rfl : q = vs.length := (by omega); rw [List.take_length] at hS hb; rcases hvs with ⟨h1, h2, h3⟩ | ⟨h1, rfl, h3, h4⟩; exact ⟨_, rfl, .inl ⟨vs, _, _, h1, h2, hvo, (by by_cases h0 : 0 < vs.length; exact hb h0; obtain ⟨_, e2⟩ := hv0 (by omega); rw [e2, h3, List.length_eq_zero_iff.1 (show vs.length = 0 by omega)]; simp), rfl, hS.sp⟩⟩; obtain ⟨e1, e2⟩ := hv0 rfl; rw [e1, e2, h4]; exact ⟨_, rfl, .inr ⟨h1, rfl, hS.sp⟩⟩)
end Go.Proofs.YteflkifmgnpbhaaGreat
namespace Go.Lir
theorem St.lent {c : Cx} {w : World} {L : List Res} {r : Res} (h : St c w (r :: L)) : ∃ c' F, c.Le c' ∧ St c' w L ∧ r.A c'.H0 F ∧ (∀ b, F b → c'.K b) ∧ ∀ {w' : World} {L' : List Res}, St c' w' L' → St c w' (r :: L') := by
 obtain ⟨ok, F, ⟨F1, F2, h1, h2, h3, h4⟩, hd⟩ := h
 have hle : c.Le ⟨c.base, fun b => c.K b ∨ F1 b, w.heap⟩ := ⟨rfl, fun b hb => ⟨.inl hb, ok.same b hb⟩, ok.size, ok.lt⟩
 refine ⟨⟨c.base, fun b => c.K b ∨ F1 b, w.heap⟩, F1, hle, ⟨⟨ok.os, ok.tape, ok.output, Nat.le_refl _, fun b hb => hb.elim (fun hb => Nat.lt_of_lt_of_le (ok.lt b hb) ok.size) (r.lt h1 b), fun b _ => rfl⟩, F2, h2, ?_⟩, h1, fun b hb => .inr hb, ?_⟩
 · rintro b hb (hk | hk)
   · exact hd b ((h4 b).2 (.inr hb)) hk
   · exact h3 b hk hb
 · intro w' L' hS
   have hw := hS.weak hle
   obtain ⟨ok', F', hF', hd'⟩ := hS
   refine ⟨hw.1, fun b => F1 b ∨ F' b, ⟨F1, F', r.loc h1 fun b hb _ => ok'.same b (.inr hb), hF', fun b hb hb' => hd' b hb' (.inr hb), fun b => Iff.rfl⟩, ?_⟩
   rintro b (hb | hb) hk
   · exact hd b ((h4 b).2 (.inl hb)) hk
   · exact hd' b hb (.inl hk)
theorem St.lend {α : Type} {r : Rep α} {c : Cx} {w : World} {L : List Res} {T : TypeId} {es : Nat} {v : Value} {css : List (List Value)} {l : List α} (h : St c w (sl T es v css :: L)) (hl : r.ls c css l) (hes : r.es = es) (hm : l.length ≤ 140737488355328) :
 ∃ c', c.Le c' ∧ St c' w L ∧ r.sl c' v l ∧ ∀ {w' : World} {L' : List Res}, St c' w' L' → St c w' (sl T es v css :: L') := by
 subst hes
 obtain ⟨c', F, h1, h2, h3, h4, h5⟩ := h.lent
 exact ⟨c', h1, h2, ⟨css, SlR.mono (Sl.toR h3) fun b _ hb => h4 b hb, hl.up h1, hm⟩, h5⟩
end Go.Lir
namespace Go.Lir
theorem Q7H {g : Frm} {k : Int} {vs : List Val} (h : g.args [k] = some vs) : ∃ v, g.val k = some v ∧ vs = [v] := by
 unfold Frm.args at h
 cases hv : g.val k with
 | none => rw [hv] at h; cases h
 | some v => rw [hv] at h; exact ⟨v, rfl, (Option.some.inj h).symm⟩
theorem Q5p {g : Frm} {k : Int} (h : g.args [k] = none) : g.val k = none := by
 unfold Frm.args at h
 cases hv : g.val k with
 | none => rfl
 | some v => rw [hv] at h; cases h
theorem args_two {g : Frm} {k j : Int} {vs : List Val} (h : g.args [k, j] = some vs) : ∃ v u, g.val k = some v ∧ g.val j = some u ∧ vs = [v, u] := by
 rw [Frm.args] at h
 cases hv : g.val k with
 | none => rw [hv] at h; cases h
 | some v =>
   rw [hv] at h
   cases ha : g.args [j] with
   | none => rw [ha] at h; cases h
   | some l =>
     rw [ha] at h
     obtain ⟨u, hu, rfl⟩ := Q7H ha
     exact ⟨v, u, rfl, hu, (Option.some.inj h).symm⟩
theorem QaU {g : Frm} {k j : Int} (h : g.args [k, j] = none) : g.val k = none ∨ g.val j = none := by
 rw [Frm.args] at h
 cases hv : g.val k with
 | none => exact .inl rfl
 | some v =>
   rw [hv] at h
   cases ha : g.args [j] with
   | none => exact .inr (Q5p ha)
   | some l => rw [ha] at h; cases h
end Go.Lir
namespace Go.Proofs.YteflkifmgnpbhaaGreat
open Go.Lir
set_option maxHeartbeats 1000000
attribute [local irreducible] LC.wp Q0 QF QE retQ Q16 LO.wp Qf Calls
set_option linter.unusedSimpArgs false
set_option linter.unusedVariables false
@[reducible] def gX (p : Nat) (z : GZ) (fr : List FrmV) (g : FrmV) (N : Nat) (h : HpS) (out : List Int) (L : List Res) : List Res := Q1D z N (.pointer (some ⟨p, 1, none⟩)) h :: sl 119 5 z.fv (Q1v fr g) :: sl 182 4 g.vv (g.vals.map Val.cells) :: sl 3 1 g.rv (Q8 g.regs) :: big FrmV.res1 fr :: sl 2 1 z.ov (Q8 out) :: L
variable {cx : Cx} {w : World} {L : List Res} {p N : Nat} {z : GZ} {fr : List FrmV} {g : FrmV} {h : HpS} {out : List Int}
theorem Q1F (hS : St cx w (gX p z fr g N h out L)) : ∃ lv rv, HpO N h rv ∧ St cx w (gL p z lv h.left fr g (sl 131 4 lv (rv.map RgnV.cells) :: big (RgnV.res H1) rv :: sl 2 1 z.ov (Q8 out) :: L)) := by
 obtain ⟨b, lv, rv, he, ho, hS⟩ := Q4k hS
 cases he
 exact ⟨lv, rv, ho, (hS.subP (by (repeat constructor); first | done | fail))⟩
theorem QK {lv : Value} {rv : List RgnV} (ho : HpO N h rv) (hS : St cx w (gL p z lv h.left fr g (sl 131 4 lv (rv.map RgnV.cells) :: big (RgnV.res H1) rv :: sl 2 1 z.ov (Q8 out) :: L))) : St cx w (gX p z fr g N h out L) :=
 Qk ho (hS.subP (by (repeat constructor); first | done | fail))
attribute [local irreducible] Frm.val Frm.num Frm.args Frm.rgs Frm.reg
theorem iC_ls {cx : Cx} {l : List Int} : intR.ls cx (Q8 l) l := ⟨by unfold Q8; simp, fun k x hx => ⟨[.int .i64 x], by unfold Q8; rw [List.getElem?_map, hx]; rfl, rfl⟩⟩
theorem gE_c (e : Int) (hS : St cx w (gX p z fr g N h out L)) : Rets Tryz.prog Q5C [.pointer (some ⟨p, 0, none⟩), .int .i64 e] w fun u w' => u = .int .i64 1 ∧ St cx w' (gX p (z.end e) fr g N h out L) := by
 obtain ⟨lv, rv, ho, hS⟩ := Q1F hS
 refine (gends_c e hS).mono ?_
 rintro u w' ⟨rfl, hS⟩
 exact ⟨rfl, QK (z := z.end e) ho hS⟩
theorem Qcj {l : List Int} {v1 : Value} (hl1 : l.length ≤ 100000) (hf : fr.length ≤ 1000) (hl : intR.sl cx v1 l) (hS : St cx w (gX p z fr g N h out L)) : Rets Tryz.prog Q3U [.pointer (some ⟨p, 0, none⟩), v1] w fun u w' =>
 (∃ (vs : List Val) (v : Value), g.abs.args l = some vs ∧ vs.length = l.length ∧ oneC v = true ∧ u = .tuple #[v, .bool true] ∧ St cx w' (gX p z fr g N h out (sl 182 4 v (vs.map Val.cells) :: L))) ∨ (g.abs.args l = none ∧ u = .tuple #[.slice none 0 0, .bool false] ∧ St cx w' (gX p z fr g N h out L)) := by
 obtain ⟨lv, rv, ho, hS⟩ := Q1F hS
 refine (Qch hl1 hf hl hS).mono ?_
 rintro u w' (⟨vs, v, h1, h2, h3, h4, hS⟩ | ⟨h1, h2, hS⟩)
 · exact .inl ⟨vs, v, h1, h2, h3, h4, QK ho (hS.subP (by (repeat constructor); first | done | fail))⟩
 · exact .inr ⟨h1, h2, QK ho (hS.subP (by (repeat constructor); first | done | fail))⟩
theorem gRs_c {l : List Int} {v1 : Value} (hl1 : l.length ≤ 100000) (hf : fr.length ≤ 1000) (hl : intR.sl cx v1 l) (hS : St cx w (gX p z fr g N h out L)) : Rets Tryz.prog Q5A [.pointer (some ⟨p, 0, none⟩), v1] w fun u w' =>
 (∃ (vs : List Int) (v : Value), g.abs.rgs l = some vs ∧ vs.length = l.length ∧ oneC v = true ∧ u = .tuple #[v, .bool true] ∧ St cx w' (gX p z fr g N h out (sl 3 1 v (Q8 vs) :: L))) ∨ (g.abs.rgs l = none ∧ u = .tuple #[.slice none 0 0, .bool false] ∧ St cx w' (gX p z fr g N h out L)) := by
 obtain ⟨lv, rv, ho, hS⟩ := Q1F hS
 refine (gregs_c hl1 hf hl hS).mono ?_
 rintro u w' (⟨vs, v, h1, h2, h3, h4, hS⟩ | ⟨h1, h2, hS⟩)
 · exact .inl ⟨vs, v, h1, h2, h3, h4, QK ho (hS.subP (by (repeat constructor); first | done | fail))⟩
 · exact .inr ⟨h1, h2, QK ho (hS.subP (by (repeat constructor); first | done | fail))⟩
theorem gNs_c {l : List Int} {v1 : Value} (hl1 : l.length ≤ 100000) (hf : fr.length ≤ 1000) (hl : intR.sl cx v1 l) (hS : St cx w (gX p z fr g N h out L)) : Rets Tryz.prog Q2T [.pointer (some ⟨p, 0, none⟩), v1] w fun u w' =>
 (∃ (vs : List Val) (v : Value) (b : Bool), g.abs.args l = some vs ∧ vs.length = l.length ∧ oneC v = true ∧ (b = true ↔ ∀ x ∈ vs, x.kind = 1) ∧ u = .tuple #[v, .bool b] ∧ St cx w' (gX p z fr g N h out (sl 2 1 v (Q8 (vs.map Val.n)) :: L))) ∨ (g.abs.args l = none ∧ u = .tuple #[.slice none 0 0, .bool false] ∧ St cx w' (gX p z fr g N h out L)) := by
 obtain ⟨lv, rv, ho, hS⟩ := Q1F hS
 refine (gnums_c hl1 hf hl hS).mono ?_
 rintro u w' (⟨vs, v, b, h1, h2, h3, h4, h5, hS⟩ | ⟨h1, h2, hS⟩)
 · exact .inl ⟨vs, v, b, h1, h2, h3, h4, h5, QK ho (hS.subP (by (repeat constructor); first | done | fail))⟩
 · exact .inr ⟨h1, h2, QK ho (hS.subP (by (repeat constructor); first | done | fail))⟩
theorem gV_c {k : Int} {v1 : Value} (hf : fr.length ≤ 1000) (hS : St cx w (sl 3 1 v1 (Q8 [k]) :: gX p z fr g N h out L)) : Rets Tryz.prog Q3U [.pointer (some ⟨p, 0, none⟩), v1] w fun u w' =>
 (∃ (v : Val) (sv : Value), g.abs.val k = some v ∧ oneC sv = true ∧ u = .tuple #[sv, .bool true] ∧ St cx w' (gX p z fr g N h out (sl 182 4 sv ([v].map Val.cells) :: L))) ∨ (g.abs.val k = none ∧ u = .tuple #[.slice none 0 0, .bool false] ∧ St cx w' (gX p z fr g N h out L)) := by
 obtain ⟨c', hle, hS, hsl, hback⟩ := St.lend (r := intR) (l := [k]) hS iC_ls rfl (by simp)
 refine (Qcj (by simp) hf hsl hS).mono ?_
 rintro u w' (⟨vs, v, h1, h2, h3, rfl, hS⟩ | ⟨h1, rfl, hS⟩)
 · obtain ⟨v0, h5, rfl⟩ := Q7H h1
   exact .inl ⟨v0, v, h5, h3, rfl, (hback hS).drop⟩
 · exact .inr ⟨Q5p h1, rfl, (hback hS).drop⟩
theorem gN_c {k : Int} {v1 : Value} (hf : fr.length ≤ 1000) (hS : St cx w (sl 3 1 v1 (Q8 [k]) :: gX p z fr g N h out L)) : Rets Tryz.prog Q2T [.pointer (some ⟨p, 0, none⟩), v1] w fun u w' =>
 (∃ (n : Int) (sv : Value), g.abs.num k = some n ∧ oneC sv = true ∧ u = .tuple #[sv, .bool true] ∧ St cx w' (gX p z fr g N h out (sl 2 1 sv (Q8 [n]) :: L))) ∨ (g.abs.num k = none ∧ ∃ sv, u = .tuple #[sv, .bool false] ∧ St cx w' (gX p z fr g N h out L)) := by
 obtain ⟨c', hle, hS, hsl, hback⟩ := St.lend (r := intR) (l := [k]) hS iC_ls rfl (by simp)
 refine (gNs_c (by simp) hf hsl hS).mono ?_
 rintro u w' (⟨vs, v, b, h1, h2, h3, h4, rfl, hS⟩ | ⟨h1, rfl, hS⟩)
 · obtain ⟨v0, h5, rfl⟩ := Q7H h1
   have hS := (hback hS).drop
   cases b with
   | true => exact .inl ⟨v0.n, v, num_y h5 (h4.1 rfl v0 (by simp)), h3, rfl, (hS.subP (by (repeat constructor); first | done | fail))⟩
   | false => exact .inr ⟨num_n h5 (fun h => absurd (h4.2 (by simpa using h)) (by decide)), _, rfl, (hS.subP (by (repeat constructor); first | done | fail))⟩
 · exact .inr ⟨num_0 (Q5p h1), _, rfl, (hback hS).drop⟩
theorem gNN_c {k j : Int} {v1 : Value} (hf : fr.length ≤ 1000) (hS : St cx w (sl 3 1 v1 (Q8 [k, j]) :: gX p z fr g N h out L)) : Rets Tryz.prog Q2T [.pointer (some ⟨p, 0, none⟩), v1] w fun u w' =>
 (∃ (n m : Int) (sv : Value), g.abs.num k = some n ∧ g.abs.num j = some m ∧ oneC sv = true ∧ u = .tuple #[sv, .bool true] ∧ St cx w' (gX p z fr g N h out (sl 2 1 sv (Q8 [n, m]) :: L))) ∨ ((g.abs.num k = none ∨ g.abs.num j = none) ∧ ∃ sv, u = .tuple #[sv, .bool false] ∧ St cx w' (gX p z fr g N h out L)) := by
 obtain ⟨c', hle, hS, hsl, hback⟩ := St.lend (r := intR) (l := [k, j]) hS iC_ls rfl (by simp)
 refine (gNs_c (by simp) hf hsl hS).mono ?_
 rintro u w' (⟨vs, v, b, h1, h2, h3, h4, rfl, hS⟩ | ⟨h1, rfl, hS⟩)
 · obtain ⟨v0, u0, h5, h6, rfl⟩ := args_two h1
   have hS := (hback hS).drop
   cases b with
   | true => exact .inl ⟨v0.n, u0.n, v, num_y h5 (h4.1 rfl v0 (by simp)), num_y h6 (h4.1 rfl u0 (by simp)), h3, rfl, (hS.subP (by (repeat constructor); first | done | fail))⟩
   | false =>
     refine .inr ⟨?_, _, rfl, (hS.subP (by (repeat constructor); first | done | fail))⟩
     by_cases h7 : v0.kind = 1
     · exact .inr (num_n h6 (fun h => absurd (h4.2 (by simpa using ⟨h7, h⟩)) (by decide)))
     · exact .inl (num_n h5 h7)
 · exact .inr ⟨(QaU h1).imp num_0 num_0, _, rfl, (hback hS).drop⟩
theorem gP_c {v2 : Value} {vs : List Val} (hf : fr.length ≤ 1000) (hn : g.vals.length + vs.length ≤ 1000000) (hS : St cx w (sl 182 4 v2 (vs.map Val.cells) :: gX p z fr g N h out L)) :
 Rets Tryz.prog Q5B [.pointer (some ⟨p, 0, none⟩), v2] w fun u w' => u = .int .i64 0 ∧ ∃ tv, St cx w' (gX p z fr (g.push tv vs) N h out L) := by
 obtain ⟨lv, rv, ho, hS⟩ := Q1F (L := sl 182 4 v2 (vs.map Val.cells) :: L) (hS.subP (by (repeat constructor); first | done | fail))
 refine (gpush_c (j := 3) hf hn hS rfl).mono ?_
 rintro u w' ⟨rfl, tv, hS⟩
 exact ⟨rfl, tv, QK ho (hS.subP (by (repeat constructor); first | done | fail))⟩
end Go.Proofs.YteflkifmgnpbhaaGreat
