/- Lemmas of the proof, part 4: what the functions of the program do (contracts), and what follows. -/
import Derived.Test.YtanlkfeogoganaaGreatZ2
import Derived.Test.YtanlkfeogoganaaGreatZ3
import Derived.Test.YtanlkfeogoganaaGreatZ1
namespace Go.Proofs.YtanlkfeogoganaaGreat
open Go.Lir
set_option maxHeartbeats 1000000
attribute [local irreducible] LC.wp Q5 QN Q11 retQ Q1T LO.wp Qr Calls
set_option linter.unusedSimpArgs false
set_option linter.unusedVariables false
variable {cx : Cx} {w : World} {L : List Res}
theorem Q6u (f : Nat) (hf : f ≤ 1000000) (hS : St cx w L) : Rets Tryz.prog Qtn [.int .i64 f] w fun u w' => u = .int .i64 (Q3m f) ∧ St cx w' L := by
  unfold Q3m
  all_goals refine QsN ?_
  all_goals (unfold R_AtFunc_lc; refine Q0 ?_; refine Q1 ?_; refine zm ?_; refine zn ?_; refine Q0 ?_; refine Q1 ?_; refine zm ?_; refine zmu ?_; refine zad ?_; refine zm ?_; refine zn ?_; refine zr ?_; refine zf ?_; refine ⟨_, rfl, ?_, hS.sp⟩; (first | rfl | (congr 1; omega)); done)
theorem Qv3 (f : Nat) (hf : f ≤ 1000000) (hS : St cx w L) : Rets Tryz.prog Qhd [.int .i64 f] w fun u w' => u = .int .i64 (Q3m f) ∧ St cx w' L := by
  unfold Q3m
  all_goals refine Qjy ?_
  all_goals (unfold code_FuncAt_lc; refine Q0 ?_; refine Q1 ?_; refine zm ?_; refine zn ?_; refine Q0 ?_; refine Q1 ?_; refine zm ?_; refine zmu ?_; refine zad ?_; refine zm ?_; refine zn ?_; refine zr ?_; refine zf ?_; refine ⟨_, rfl, ?_, hS.sp⟩; (rfl); done)
theorem Q7I (f b : Nat) (hf : f ≤ 1000000) (hb : b ≤ 1000000) (hS : St cx w L) : Rets Tryz.prog QrA [.int .i64 f, .int .i64 b] w fun u w' => u = .int .i64 (Q3t f b) ∧ St cx w' L := by
  unfold Q3t
  all_goals refine Qrz ?_
  all_goals (unfold R_AtBlock_lc; refine Q0 ?_; refine Q1 ?_; refine zm ?_; refine zn ?_; refine Q0 ?_; refine Q1 ?_; refine zm ?_; refine zmu ?_; refine zm ?_; refine zmu ?_; refine zad ?_; refine zad ?_; refine zm ?_; refine zn ?_; refine zr ?_; refine zf ?_; refine ⟨_, rfl, ?_, hS.sp⟩; (first | rfl | (congr 1; omega)); done)
theorem Qtx (f b : Nat) (hf : f ≤ 1000000) (hb : b ≤ 1000000) (hS : St cx w L) : Rets Tryz.prog QdK [.int .i64 f, .int .i64 b] w fun u w' => u = .int .i64 (Q3t f b) ∧ St cx w' L := by
  unfold Q3t
  all_goals refine Qhj ?_
  all_goals (unfold code_BlockAt_lc; refine Q0 ?_; refine Q1 ?_; refine zm ?_; refine zn ?_; refine Q0 ?_; refine Q1 ?_; refine zm ?_; refine zmu ?_; refine zm ?_; refine zmu ?_; refine zad ?_; refine zad ?_; refine zm ?_; refine zn ?_; refine zr ?_; refine zf ?_; refine ⟨_, rfl, ?_, hS.sp⟩; (rfl); done)
theorem rEndAt_c (f b : Nat) (hf : f ≤ 1000000) (hb : b ≤ 1000000) (hS : St cx w L) : Rets Tryz.prog QvI [.int .i64 f, .int .i64 b] w fun u w' => u = .int .i64 (QjL f b) ∧ St cx w' L := by
  unfold QjL
  all_goals refine Qub ?_
  all_goals (unfold R_AtEnd_lc; refine Q0 ?_; refine Q1 ?_; refine zm ?_; refine zn ?_; refine Q0 ?_; refine Q1 ?_; refine zm ?_; refine zmu ?_; refine zm ?_; refine zmu ?_; refine zad ?_; refine zad ?_; refine zm ?_; refine zn ?_; refine zr ?_; refine zf ?_; refine ⟨_, rfl, ?_, hS.sp⟩; (first | rfl | (congr 1; omega)); done)
theorem pEndAt_c (f b : Nat) (hf : f ≤ 1000000) (hb : b ≤ 1000000) (hS : St cx w L) : Rets Tryz.prog Qm8 [.int .i64 f, .int .i64 b] w fun u w' => u = .int .i64 (QjL f b) ∧ St cx w' L := by
  unfold QjL
  all_goals refine QmU ?_
  all_goals (unfold code_EndAt_lc; refine Q0 ?_; refine Q1 ?_; refine zm ?_; refine zn ?_; refine Q0 ?_; refine Q1 ?_; refine zm ?_; refine zmu ?_; refine zm ?_; refine zmu ?_; refine zad ?_; refine zad ?_; refine zm ?_; refine zn ?_; refine zr ?_; refine zf ?_; refine ⟨_, rfl, ?_, hS.sp⟩; (rfl); done)
theorem rInsAt_c (f b i : Nat) (hf : f ≤ 1000000) (hb : b ≤ 1000000) (hi : i ≤ 1000000) (hS : St cx w L) : Rets Tryz.prog QvH [.int .i64 f, .int .i64 b, .int .i64 i] w fun u w' => u = .int .i64 (Qhl f b i) ∧ St cx w' L := by
  unfold Qhl
  all_goals refine Qu8 ?_
  all_goals (unfold R_AtIns_lc; refine Q0 ?_; refine Q1 ?_; refine zm ?_; refine zn ?_; refine Q0 ?_; refine Q1 ?_; refine zm ?_; refine zmu ?_; refine zm ?_; refine zmu ?_; refine zad ?_; refine zm ?_; refine zad ?_; refine zm ?_; refine zn ?_; refine zr ?_; refine zf ?_; refine ⟨_, rfl, ?_, hS.sp⟩; (first | rfl | (congr 1; omega)); done)
theorem pInsAt_c (f b i : Nat) (hf : f ≤ 1000000) (hb : b ≤ 1000000) (hi : i ≤ 1000000) (hS : St cx w L) : Rets Tryz.prog Qm7 [.int .i64 f, .int .i64 b, .int .i64 i] w fun u w' => u = .int .i64 (Qhl f b i) ∧ St cx w' L := by
  unfold Qhl
  all_goals refine QmR ?_
  all_goals (unfold code_InsAt_lc; refine Q0 ?_; refine Q1 ?_; refine zm ?_; refine zn ?_; refine Q0 ?_; refine Q1 ?_; refine zm ?_; refine zmu ?_; refine zm ?_; refine zmu ?_; refine zad ?_; refine zm ?_; refine zad ?_; refine zm ?_; refine zn ?_; refine zr ?_; refine zf ?_; refine ⟨_, rfl, ?_, hS.sp⟩; (rfl); done)
theorem rF_c {c a : Int} (hS : St cx w L) : Rets Tryz.prog R_F [.int .i64 c, .int .i64 a] w fun u w' => u = .agg ⟨[.int .i64 c, .int .i64 a]⟩ ∧ St cx w' L := by
  all_goals refine R_F_in ?_
  all_goals (unfold R_F_lc; refine Q0 ?_; refine Q1 ?_; refine Qb hS ?_; intro p4 w1 hS; refine zn ?_; refine Q0 ?_; refine Q1 ?_; refine zm ?_; refine zm ?_; refine zb2 [_, _] ?_; refine zsn hS ?_; intro w1 hS; have hS := hS.ns; refine zn ?_; refine zr ?_; refine Q20 vw (Q9 (n := 2) (by kernel_rfl) (by kernel_rfl) (hS.blkAt fd) (by rfl) (by rfl)) ?_; refine ⟨_, rfl, ?_, hS.sp⟩; (rfl); done)
theorem QrP {l : List Ty} {regs : Int} {v : Value} (hl : tyR.sl cx v l) (hS : St cx w L) : Rets Tryz.prog Q3Z [v, .int .i64 regs] w fun u w' => u = .int .i64 (QA l regs) ∧ St cx w' L := by
  have hlen := hl.len
  unfold QA
  all_goals refine Qnt ?_
  all_goals (unfold R_listForm_lc; refine Q0 ?_; refine Q1 ?_; refine zm ?_; refine zn ?_; refine Q0 ?_; refine Q0 ?_; refine Q1 ?_; refine zm ?_; refine zL ?_)
  all_goals (first | (refine QK ?_) | (refine QM ?_) | (refine Qi rfl rfl (fun hc => ?_) (fun hc => ?_)))
  all_goals (refine zn ?_)
  all_goals
    first
    | (refine Q3 rfl ?_ -- Q3Z c0
       all_goals (refine Q0 ?_; refine Q1 ?_; refine zm ?_; refine zn ?_; refine zr ?_; refine zf ?_)
       all_goals (refine ⟨_, rfl, ?_, hS.sp⟩; rw [if_pos (by omega)]; done))
    | (refine Q4 rfl ?_ -- Q3Z c0
       all_goals refine zsk ?_)
  all_goals (refine Q0 ?_; refine Q0 ?_; refine Q1 ?_; refine zm ?_; refine zn ?_; refine Q8 ?_)
  refine zoL hS [0, 1] (fun A LL ρ' w' => ∃ (j : Nat), Has ρ' A ∧ Has ρ' [(5, .int .i64 j)] ∧ (j ≤ l.length) ∧ (Q3o regs l = Q3o regs (l.drop j)) ∧ St cx w' (LL)) (fun ρ' _ => (l.length - iv (ρ' 5)).toNat) ?_ ?_
  · exact ⟨0, zh, zh, (by omega), by simp, hS.sp⟩
  rintro ρ w1 ⟨j, hA, hρ, hj, hd, hS⟩; obtain ⟨ρ, rfl⟩ := env2 hA hρ
  unfold Qbt
  all_goals (refine Q0 ?_; refine Q0 ?_; refine Q1 ?_; refine zm ?_; refine zm ?_; refine zL ?_; refine Qt rfl rfl ?_; refine zn ?_)
  refine Qm rfl (fun hc => ?_) (fun hc => ?_)
  · skip
    all_goals (refine zsk ?_; refine Q0 ?_; refine Q8 ?_; refine Q0 ?_; refine Q1 ?_; refine zm ?_; refine zm ?_; refine zi ?_; intro b1 o1 cs1 x1 hat1 hx1 he1; obtain ⟨vl1, rfl, hl1⟩ := QX he1; (first | (refine zv hS ?_) | (refine zvk hS ?_)); refine zm ?_; refine zR2 (c := QuH (by assumption) hS) (h := ?_); rintro v1 w1 ⟨rfl, hS⟩; refine zm ?_; refine zn ?_; refine Q0 ?_; refine Q1 ?_; refine zm ?_)
    all_goals (first | (refine Q1c ?_) | (refine Q1d ?_) | (refine Qp rfl rfl (fun hc => ?_) (fun hc => ?_)))
    all_goals (refine zn ?_)
    all_goals
      first
      | (refine Q3 rfl ?_ -- Q3Z c2
         all_goals (refine Q0 ?_; refine Q1 ?_; refine zm ?_; refine zm ?_; refine zn ?_; refine zr ?_; refine zf ?_)
         all_goals (first | (refine ⟨_, rfl, ?_, hS.sp⟩; rw [if_pos (by omega)]; done) | (refine ⟨_, rfl, ?_, hS.sp⟩; rw [if_neg (by omega), hd, Q7 hx1, Q3o, Q6y (by assumption)]; done)))
      | (refine Q4 rfl ?_ -- Q3Z c2
         all_goals refine zsk ?_)
    all_goals (refine Q1 ?_; refine zm ?_; refine zad ?_; refine zm ?_; refine zn ?_; exact ⟨⟨j + 1, zh, zh, (by omega), by rw [hd, Q7 hx1, Q3o, show x1.fault regs = 0 by omega, Q5Q], hS.sp⟩, Qh (by omega)⟩)
  · skip
    all_goals (refine zex ?_; refine Q0 ?_; refine Q1 ?_; refine zm ?_; refine zn ?_; refine zr ?_; refine zf ?_; (first | (refine ⟨_, rfl, ?_, hS.sp⟩; rw [if_pos (by omega)]; done) | (refine ⟨_, rfl, ?_, hS.sp⟩; rw [if_neg (by omega), hd, Q7 hx1, Q3o, Q6y (by assumption)]; done) | (refine ⟨_, rfl, ?_, hS.sp⟩; rw [if_neg (by omega), hd, List.drop_of_length_le (by omega), Q3o]; done)))
theorem QmF {op : Int} (hS : St cx w L) : Rets Tryz.prog Qd [.int .i64 op] w fun u w' => u = .tuple #[.agg ⟨[.bool (fA op), .bool (fB op), .bool (fC op), .bool (fK op), .bool (fN op), .bool (fG op), .bool (fR op)]⟩, .bool (decide (1 ≤ op ∧ op ≤ 14))] ∧ St cx w' L := by
  have hbad : (op < 1 ∨ 14 < op) → fA op = false ∧ fB op = false ∧ fC op = false ∧ fK op = false ∧ fN op = false ∧ fG op = false ∧ fR op = false ∧ decide (1 ≤ op ∧ op ≤ 14) = false := by
    intro h
    refine ⟨?_, ?_, ?_, ?_, ?_, ?_, ?_, ?_⟩ <;> (first | unfold fA | unfold fB | unfold fC | unfold fK | unfold fN | unfold fG | unfold fR | skip) <;> rw [decide_eq_false_iff_not] <;> omega
  by_cases hb : op < 1 ∨ 14 < op
  · obtain ⟨h1, h2, h3, h4, h5, h6, h7, h8⟩ := hbad hb
    rw [h1, h2, h3, h4, h5, h6, h7, h8]
    clear hbad h1 h2 h3 h4 h5 h6 h7 h8
    all_goals refine Qbx ?_
    all_goals (unfold R_FieldsOf_lc; refine Q0 ?_; refine Q1 ?_; refine Qb hS ?_; intro p2 w1 hS; refine zm ?_; refine zn ?_; refine Q0 ?_; refine Q0 ?_; refine Q1 ?_; refine zm ?_; refine zn ?_; refine Q8 ?_; refine Q0 ?_; refine Q1 ?_)
    all_goals (first | (refine Qy ?_) | (refine QC ?_))
    all_goals (refine zm ?_; refine zn ?_)
    all_goals
      first
      | (refine Q3 rfl ?_ -- Qd c0
         all_goals (refine Q0 ?_; refine Q1 ?_; refine zb1 [_, _, _, _, _, _, _] ?_; refine zsn hS ?_; intro w1 hS; have hS := hS.ns; refine zm ?_; refine zn ?_; refine zr ?_; refine Q29 vw (Q9 (n := 7) (by kernel_rfl) (by kernel_rfl) (hS.blkAt fd) (by rfl) (by rfl)) vw ?_)
         all_goals (refine ⟨_, rfl, ?_, hS.sp⟩; (rfl); done))
      | (refine Q4 rfl ?_ -- Qd c0
         all_goals (refine Q0 ?_; refine Q0 ?_; refine Q1 ?_)
         all_goals (first | (refine Qy ?_) | (refine QC ?_))
         all_goals (refine zm ?_; refine zn ?_)
         all_goals
           first
           | (refine Q3 rfl ?_ -- Qd c1
              all_goals refine zsk ?_)
           | (refine Q4 rfl ?_ -- Qd c1
              all_goals (refine Q1 ?_)
              all_goals (first | (refine Qy ?_) | (refine QC ?_))
              all_goals (refine zm ?_)
              all_goals refine zn ?_)
         all_goals
           first
           | (refine Q3 rfl ?_ -- Qd c2
              all_goals (refine Q0 ?_; refine Q1 ?_; refine zb3 [_, _, _, _, _, _, _] ?_; refine zsn hS ?_; intro w1 hS; have hS := hS.ns; refine zm ?_; refine zn ?_; refine zr ?_; refine Q29 vw (Q9 (n := 7) (by kernel_rfl) (by kernel_rfl) (hS.blkAt fd) (by rfl) (by rfl)) vw ?_)
              all_goals (refine ⟨_, rfl, ?_, hS.sp⟩; (rfl); done))
           | (refine Q4 rfl ?_ -- Qd c2
              all_goals (refine Q0 ?_; refine Q0 ?_; refine Q1 ?_)
              all_goals (first | (refine Qy ?_) | (refine QC ?_))
              all_goals (refine zm ?_; refine zn ?_)
              all_goals
                first
                | (refine Q3 rfl ?_ -- Qd c3
                   all_goals refine zsk ?_)
                | (refine Q4 rfl ?_ -- Qd c3
                   all_goals (refine Q1 ?_)
                   all_goals (first | (refine Qy ?_) | (refine QC ?_))
                   all_goals (refine zm ?_)
                   all_goals refine zn ?_)
              all_goals
                first
                | (refine Q3 rfl ?_ -- Qd c4
                   all_goals (refine Q0 ?_; refine Q1 ?_; refine zb0 [_, _, _, _, _, _, _] ?_; refine zsn hS ?_; intro w1 hS; have hS := hS.ns; refine zm ?_; refine zn ?_; refine zr ?_; refine Q29 vw (Q9 (n := 7) (by kernel_rfl) (by kernel_rfl) (hS.blkAt fd) (by rfl) (by rfl)) vw ?_)
                   all_goals (refine ⟨_, rfl, ?_, hS.sp⟩; (rfl); done))
                | (refine Q4 rfl ?_ -- Qd c4
                   all_goals (refine Q0 ?_; refine Q0 ?_; refine Q1 ?_)
                   all_goals (first | (refine Qy ?_) | (refine QC ?_))
                   all_goals (refine zm ?_; refine zn ?_)
                   all_goals
                     first
                     | (refine Q3 rfl ?_ -- Qd c5
                        all_goals refine zsk ?_)
                     | (refine Q4 rfl ?_ -- Qd c5
                        all_goals (refine Q0 ?_; refine Q1 ?_)
                        all_goals (first | (refine Qy ?_) | (refine QC ?_))
                        all_goals (refine zm ?_; refine zn ?_)
                        all_goals
                          first
                          | (refine Q3 rfl ?_ -- Qd c6
                             all_goals refine zsk ?_)
                          | (refine Q4 rfl ?_ -- Qd c6
                             all_goals (refine Q1 ?_)
                             all_goals (first | (refine Qy ?_) | (refine QC ?_))
                             all_goals (refine zm ?_)
                             all_goals refine zn ?_))
                   all_goals
                     first
                     | (refine Q3 rfl ?_ -- Qd c7
                        all_goals (refine Q0 ?_; refine Q1 ?_; refine zb1 [_, _, _, _, _, _, _] ?_; refine zsn hS ?_; intro w1 hS; have hS := hS.ns; refine zm ?_; refine zn ?_; refine zr ?_; refine Q29 vw (Q9 (n := 7) (by kernel_rfl) (by kernel_rfl) (hS.blkAt fd) (by rfl) (by rfl)) vw ?_)
                        all_goals (refine ⟨_, rfl, ?_, hS.sp⟩; (rfl); done))
                     | (refine Q4 rfl ?_ -- Qd c7
                        all_goals (refine Q0 ?_; refine Q1 ?_)
                        all_goals (first | (refine Qy ?_) | (refine QC ?_))
                        all_goals (refine zm ?_; refine zn ?_)
                        all_goals
                          first
                          | (refine Q3 rfl ?_ -- Qd c8
                             all_goals (refine Q0 ?_; refine Q1 ?_; refine zb2 [_, _, _, _, _, _, _] ?_; refine zsn hS ?_; intro w1 hS; have hS := hS.ns; refine zm ?_; refine zn ?_; refine zr ?_; refine Q29 vw (Q9 (n := 7) (by kernel_rfl) (by kernel_rfl) (hS.blkAt fd) (by rfl) (by rfl)) vw ?_)
                             all_goals (refine ⟨_, rfl, ?_, hS.sp⟩; (rfl); done))
                          | (refine Q4 rfl ?_ -- Qd c8
                             all_goals (refine Q0 ?_; refine Q1 ?_)
                             all_goals (first | (refine Qy ?_) | (refine QC ?_))
                             all_goals (refine zm ?_; refine zn ?_)
                             all_goals
                               first
                               | (refine Q3 rfl ?_ -- Qd c9
                                  all_goals (refine Q0 ?_; refine Q1 ?_; refine zb2 [_, _, _, _, _, _, _] ?_; refine zsn hS ?_; intro w1 hS; have hS := hS.ns; refine zm ?_; refine zn ?_; refine zr ?_; refine Q29 vw (Q9 (n := 7) (by kernel_rfl) (by kernel_rfl) (hS.blkAt fd) (by rfl) (by rfl)) vw ?_)
                                  all_goals (refine ⟨_, rfl, ?_, hS.sp⟩; (rfl); done))
                               | (refine Q4 rfl ?_ -- Qd c9
                                  all_goals (refine Q0 ?_; refine Q0 ?_; refine Q1 ?_)
                                  all_goals (first | (refine Qy ?_) | (refine QC ?_))
                                  all_goals (refine zm ?_; refine zn ?_)
                                  all_goals
                                    first
                                    | (refine Q3 rfl ?_ -- Qd c10
                                       all_goals refine zsk ?_)
                                    | (refine Q4 rfl ?_ -- Qd c10
                                       all_goals (refine Q1 ?_)
                                       all_goals (first | (refine Qy ?_) | (refine QC ?_))
                                       all_goals (refine zm ?_)
                                       all_goals refine zn ?_)
                                  all_goals
                                    first
                                    | (refine Q3 rfl ?_ -- Qd c11
                                       all_goals (refine Q0 ?_; refine Q1 ?_; refine zb2 [_, _, _, _, _, _, _] ?_; refine zsn hS ?_; intro w1 hS; have hS := hS.ns; refine zm ?_; refine zn ?_; refine zr ?_; refine Q29 vw (Q9 (n := 7) (by kernel_rfl) (by kernel_rfl) (hS.blkAt fd) (by rfl) (by rfl)) vw ?_)
                                       all_goals (refine ⟨_, rfl, ?_, hS.sp⟩; (rfl); done))
                                    | (refine Q4 rfl ?_ -- Qd c11
                                       all_goals (refine Q0 ?_; refine Q1 ?_)
                                       all_goals (first | (refine Qy ?_) | (refine QC ?_))
                                       all_goals (refine zm ?_; refine zn ?_)
                                       all_goals
                                         first
                                         | (refine Q3 rfl ?_ -- Qd c12
                                            all_goals (refine Q0 ?_; refine Q1 ?_; refine zb3 [_, _, _, _, _, _, _] ?_; refine zsn hS ?_; intro w1 hS; have hS := hS.ns; refine zm ?_; refine zn ?_; refine zr ?_; refine Q29 vw (Q9 (n := 7) (by kernel_rfl) (by kernel_rfl) (hS.blkAt fd) (by rfl) (by rfl)) vw ?_)
                                            all_goals (refine ⟨_, rfl, ?_, hS.sp⟩; (rfl); done))
                                         | (refine Q4 rfl ?_ -- Qd c12
                                            all_goals (refine Q0 ?_; refine Q1 ?_)
                                            all_goals (first | (refine Qy ?_) | (refine QC ?_))
                                            all_goals (refine zm ?_; refine zn ?_)
                                            all_goals
                                              first
                                              | (refine Q3 rfl ?_ -- Qd c13
                                                 all_goals (refine Q0 ?_; refine Q1 ?_; refine zb3 [_, _, _, _, _, _, _] ?_; refine zsn hS ?_; intro w1 hS; have hS := hS.ns; refine zm ?_; refine zn ?_; refine zr ?_; refine Q29 vw (Q9 (n := 7) (by kernel_rfl) (by kernel_rfl) (hS.blkAt fd) (by rfl) (by rfl)) vw ?_)
                                                 all_goals (refine ⟨_, rfl, ?_, hS.sp⟩; (rfl); done))
                                              | (refine Q4 rfl ?_ -- Qd c13
                                                 all_goals refine zsk ?_)))))))))
    all_goals (refine Q0 ?_; refine Q1 ?_; refine zb0 [_, _, _, _, _, _, _] ?_; refine zsn hS ?_; intro w1 hS; have hS := hS.ns; refine zm ?_; refine zn ?_; refine zr ?_; refine Q29 vw (Q9 (n := 7) (by kernel_rfl) (by kernel_rfl) (hS.blkAt fd) (by rfl) (by rfl)) vw ?_; refine ⟨_, rfl, ?_, hS.sp⟩; (rfl); done)
  · clear hbad
    rcases op_cases (op := op) (by omega) (by omega) with rfl | rfl | rfl | rfl | rfl | rfl | rfl | rfl | rfl | rfl | rfl | rfl | rfl | rfl
    all_goals clear hb
    all_goals refine Qbx ?_
    all_goals (unfold R_FieldsOf_lc; skip; refine Q0 ?_; refine Q1 ?_; refine Qb hS ?_; intro p2 w1 hS; refine zm ?_; refine zn ?_; refine Q0 ?_; refine Q0 ?_; refine Q1 ?_; refine zm ?_; refine zn ?_; refine Q8 ?_; refine Q0 ?_; refine Q1 ?_)
    all_goals (first | (refine Qy ?_) | (refine QC ?_))
    all_goals (refine zm ?_; refine zn ?_)
    all_goals
      first
      | (refine Q3 rfl ?_ -- Qd c0
         all_goals (refine Q0 ?_; refine Q1 ?_; refine zb1 [_, _, _, _, _, _, _] ?_; refine zsn hS ?_; intro w1 hS; have hS := hS.ns; refine zm ?_; refine zn ?_; refine zr ?_; refine Q29 vw (Q9 (n := 7) (by kernel_rfl) (by kernel_rfl) (hS.blkAt fd) (by rfl) (by rfl)) vw ?_)
         all_goals (refine ⟨_, rfl, ?_, hS.sp⟩; (rfl); done))
      | (refine Q4 rfl ?_ -- Qd c0
         all_goals (refine Q0 ?_; refine Q0 ?_; refine Q1 ?_)
         all_goals (first | (refine Qy ?_) | (refine QC ?_))
         all_goals (refine zm ?_; refine zn ?_)
         all_goals
           first
           | (refine Q3 rfl ?_ -- Qd c1
              all_goals refine zsk ?_)
           | (refine Q4 rfl ?_ -- Qd c1
              all_goals (refine Q1 ?_)
              all_goals (first | (refine Qy ?_) | (refine QC ?_))
              all_goals (refine zm ?_)
              all_goals refine zn ?_)
         all_goals
           first
           | (refine Q3 rfl ?_ -- Qd c2
              all_goals (refine Q0 ?_; refine Q1 ?_; refine zb3 [_, _, _, _, _, _, _] ?_; refine zsn hS ?_; intro w1 hS; have hS := hS.ns; refine zm ?_; refine zn ?_; refine zr ?_; refine Q29 vw (Q9 (n := 7) (by kernel_rfl) (by kernel_rfl) (hS.blkAt fd) (by rfl) (by rfl)) vw ?_)
              all_goals (refine ⟨_, rfl, ?_, hS.sp⟩; (rfl); done))
           | (refine Q4 rfl ?_ -- Qd c2
              all_goals (refine Q0 ?_; refine Q0 ?_; refine Q1 ?_)
              all_goals (first | (refine Qy ?_) | (refine QC ?_))
              all_goals (refine zm ?_; refine zn ?_)
              all_goals
                first
                | (refine Q3 rfl ?_ -- Qd c3
                   all_goals refine zsk ?_)
                | (refine Q4 rfl ?_ -- Qd c3
                   all_goals (refine Q1 ?_)
                   all_goals (first | (refine Qy ?_) | (refine QC ?_))
                   all_goals (refine zm ?_)
                   all_goals refine zn ?_)
              all_goals
                first
                | (refine Q3 rfl ?_ -- Qd c4
                   all_goals (refine Q0 ?_; refine Q1 ?_; refine zb0 [_, _, _, _, _, _, _] ?_; refine zsn hS ?_; intro w1 hS; have hS := hS.ns; refine zm ?_; refine zn ?_; refine zr ?_; refine Q29 vw (Q9 (n := 7) (by kernel_rfl) (by kernel_rfl) (hS.blkAt fd) (by rfl) (by rfl)) vw ?_)
                   all_goals (refine ⟨_, rfl, ?_, hS.sp⟩; (rfl); done))
                | (refine Q4 rfl ?_ -- Qd c4
                   all_goals (refine Q0 ?_; refine Q0 ?_; refine Q1 ?_)
                   all_goals (first | (refine Qy ?_) | (refine QC ?_))
                   all_goals (refine zm ?_; refine zn ?_)
                   all_goals
                     first
                     | (refine Q3 rfl ?_ -- Qd c5
                        all_goals refine zsk ?_)
                     | (refine Q4 rfl ?_ -- Qd c5
                        all_goals (refine Q0 ?_; refine Q1 ?_)
                        all_goals (first | (refine Qy ?_) | (refine QC ?_))
                        all_goals (refine zm ?_; refine zn ?_)
                        all_goals
                          first
                          | (refine Q3 rfl ?_ -- Qd c6
                             all_goals refine zsk ?_)
                          | (refine Q4 rfl ?_ -- Qd c6
                             all_goals (refine Q1 ?_)
                             all_goals (first | (refine Qy ?_) | (refine QC ?_))
                             all_goals (refine zm ?_)
                             all_goals refine zn ?_))
                   all_goals
                     first
                     | (refine Q3 rfl ?_ -- Qd c7
                        all_goals (refine Q0 ?_; refine Q1 ?_; refine zb1 [_, _, _, _, _, _, _] ?_; refine zsn hS ?_; intro w1 hS; have hS := hS.ns; refine zm ?_; refine zn ?_; refine zr ?_; refine Q29 vw (Q9 (n := 7) (by kernel_rfl) (by kernel_rfl) (hS.blkAt fd) (by rfl) (by rfl)) vw ?_)
                        all_goals (refine ⟨_, rfl, ?_, hS.sp⟩; (rfl); done))
                     | (refine Q4 rfl ?_ -- Qd c7
                        all_goals (refine Q0 ?_; refine Q1 ?_)
                        all_goals (first | (refine Qy ?_) | (refine QC ?_))
                        all_goals (refine zm ?_; refine zn ?_)
                        all_goals
                          first
                          | (refine Q3 rfl ?_ -- Qd c8
                             all_goals (refine Q0 ?_; refine Q1 ?_; refine zb2 [_, _, _, _, _, _, _] ?_; refine zsn hS ?_; intro w1 hS; have hS := hS.ns; refine zm ?_; refine zn ?_; refine zr ?_; refine Q29 vw (Q9 (n := 7) (by kernel_rfl) (by kernel_rfl) (hS.blkAt fd) (by rfl) (by rfl)) vw ?_)
                             all_goals (refine ⟨_, rfl, ?_, hS.sp⟩; (rfl); done))
                          | (refine Q4 rfl ?_ -- Qd c8
                             all_goals (refine Q0 ?_; refine Q1 ?_)
                             all_goals (first | (refine Qy ?_) | (refine QC ?_))
                             all_goals (refine zm ?_; refine zn ?_)
                             all_goals
                               first
                               | (refine Q3 rfl ?_ -- Qd c9
                                  all_goals (refine Q0 ?_; refine Q1 ?_; refine zb2 [_, _, _, _, _, _, _] ?_; refine zsn hS ?_; intro w1 hS; have hS := hS.ns; refine zm ?_; refine zn ?_; refine zr ?_; refine Q29 vw (Q9 (n := 7) (by kernel_rfl) (by kernel_rfl) (hS.blkAt fd) (by rfl) (by rfl)) vw ?_)
                                  all_goals (refine ⟨_, rfl, ?_, hS.sp⟩; (rfl); done))
                               | (refine Q4 rfl ?_ -- Qd c9
                                  all_goals (refine Q0 ?_; refine Q0 ?_; refine Q1 ?_)
                                  all_goals (first | (refine Qy ?_) | (refine QC ?_))
                                  all_goals (refine zm ?_; refine zn ?_)
                                  all_goals
                                    first
                                    | (refine Q3 rfl ?_ -- Qd c10
                                       all_goals refine zsk ?_)
                                    | (refine Q4 rfl ?_ -- Qd c10
                                       all_goals (refine Q1 ?_)
                                       all_goals (first | (refine Qy ?_) | (refine QC ?_))
                                       all_goals (refine zm ?_)
                                       all_goals refine zn ?_)
                                  all_goals
                                    first
                                    | (refine Q3 rfl ?_ -- Qd c11
                                       all_goals (refine Q0 ?_; refine Q1 ?_; refine zb2 [_, _, _, _, _, _, _] ?_; refine zsn hS ?_; intro w1 hS; have hS := hS.ns; refine zm ?_; refine zn ?_; refine zr ?_; refine Q29 vw (Q9 (n := 7) (by kernel_rfl) (by kernel_rfl) (hS.blkAt fd) (by rfl) (by rfl)) vw ?_)
                                       all_goals (refine ⟨_, rfl, ?_, hS.sp⟩; (rfl); done))
                                    | (refine Q4 rfl ?_ -- Qd c11
                                       all_goals (refine Q0 ?_; refine Q1 ?_)
                                       all_goals (first | (refine Qy ?_) | (refine QC ?_))
                                       all_goals (refine zm ?_; refine zn ?_)
                                       all_goals
                                         first
                                         | (refine Q3 rfl ?_ -- Qd c12
                                            all_goals (refine Q0 ?_; refine Q1 ?_; refine zb3 [_, _, _, _, _, _, _] ?_; refine zsn hS ?_; intro w1 hS; have hS := hS.ns; refine zm ?_; refine zn ?_; refine zr ?_; refine Q29 vw (Q9 (n := 7) (by kernel_rfl) (by kernel_rfl) (hS.blkAt fd) (by rfl) (by rfl)) vw ?_)
                                            all_goals (refine ⟨_, rfl, ?_, hS.sp⟩; (rfl); done))
                                         | (refine Q4 rfl ?_ -- Qd c12
                                            all_goals (refine Q0 ?_; refine Q1 ?_)
                                            all_goals (refine Qy ?_)
                                            all_goals (refine zm ?_; refine zn ?_)
                                            all_goals
                                              first
                                              | (refine Q3 rfl ?_ -- Qd c13
                                                 all_goals (refine Q0 ?_; refine Q1 ?_; refine zb3 [_, _, _, _, _, _, _] ?_; refine zsn hS ?_; intro w1 hS; have hS := hS.ns; refine zm ?_; refine zn ?_; refine zr ?_; refine Q29 vw (Q9 (n := 7) (by kernel_rfl) (by kernel_rfl) (hS.blkAt fd) (by rfl) (by rfl)) vw ?_)
                                                 all_goals (refine ⟨_, rfl, ?_, hS.sp⟩; (rfl); done))))))))))
    all_goals (refine Q0 ?_; refine Q1 ?_; refine zb0 [_, _, _, _, _, _, _] ?_; refine zsn hS ?_; intro w1 hS; have hS := hS.ns; refine zm ?_; refine zn ?_; refine zr ?_; refine Q29 vw (Q9 (n := 7) (by kernel_rfl) (by kernel_rfl) (hS.blkAt fd) (by rfl) (by rfl)) vw ?_; refine ⟨_, rfl, ?_, hS.sp⟩; (rfl); done)
theorem rins_c {x : Ins} {m : Module} {cs ds : List Value} (hm : modR.at cx cs m) (hx : insR.at cx ds x) (hS : St cx w L) : Rets Tryz.prog QL [.agg ⟨cs⟩, .agg ⟨ds⟩] w fun u w' => u = .int .i64 (Q2M m.funcs.length x) ∧ St cx w' L := by
  obtain ⟨vf, rfl, hf⟩ := Q2l hm
  obtain ⟨vr, va, rfl, hr, ha⟩ := Q22 hx
  have hlr := hr.len
  have hla := ha.len
  have hln := hf.len
  unfold Q2M
  all_goals refine QqU ?_
  all_goals (unfold R_InsForm_lc; refine Q0 ?_; refine Q1 ?_; refine zb hS ?_; intro p2 w1 hS; refine zb hS ?_; intro p3 w1 hS; refine zm ?_; refine zn ?_; refine Q0 ?_; refine Q1 ?_; refine Q2 rfl ?_; refine zl hS ?_; refine zR1 (c := QmF hS) (h := ?_); rintro v1 w1 ⟨rfl, hS⟩; refine zm ?_; refine Q4N rfl rfl ?_; refine Q4N rfl rfl ?_; refine Qb hS ?_; intro p5 w1 hS; refine zsn hS ?_; intro w1 hS; have hS := hS.ns; refine zm ?_; refine zn ?_)
  refine zML hS [2, 3, 5] (fun A LL ρ' w' => Has ρ' A ∧ Has ρ' [] ∧ (1 ≤ x.op ∧ x.op ≤ 14) ∧ St cx w' (LL)) ?_ ?_
  · skip
    all_goals (refine Q0 ?_)
    all_goals (cases hop : decide (1 ≤ x.op ∧ x.op ≤ 14))
    all_goals (refine Q1 ?_; refine zm ?_; refine Q2b rfl ?_; refine zn ?_)
    all_goals
      first
      | (refine Q3 rfl ?_ -- QL c0
         all_goals (refine Q0 ?_; refine Q1 ?_; refine zm ?_; refine zn ?_; refine zr ?_; refine zf ?_)
         all_goals (refine ⟨_, rfl, ?_, hS.sp⟩; rw [if_pos (by have := of_decide_eq_false hop; omega)]; done))
      | (refine Q4 rfl ?_ -- QL c0
         all_goals refine zsk ?_)
    all_goals (exact ⟨zh, zh, by exact of_decide_eq_true hop, hS.sp⟩)
  rintro ρ w1 ⟨hA, hρ, hop, hS⟩; obtain ⟨ρ, rfl⟩ := env2 hA hρ; obtain ⟨a1, ha1⟩ : ∃ b, fA x.op = b := ⟨_, rfl⟩; obtain ⟨a2, ha2⟩ : ∃ b, fB x.op = b := ⟨_, rfl⟩; obtain ⟨a3, ha3⟩ : ∃ b, fC x.op = b := ⟨_, rfl⟩; obtain ⟨a4, ha4⟩ : ∃ b, fK x.op = b := ⟨_, rfl⟩; obtain ⟨a5, ha5⟩ : ∃ b, fN x.op = b := ⟨_, rfl⟩; obtain ⟨a6, ha6⟩ : ∃ b, fG x.op = b := ⟨_, rfl⟩; obtain ⟨a7, ha7⟩ : ∃ b, fR x.op = b := ⟨_, rfl⟩; rw [ha1, ha2, ha3, ha4, ha5, ha6, ha7] at hS
  refine zML hS [2, 3] (fun A LL ρ' w' => Has ρ' A ∧ Has ρ' [] ∧ (¬ x.odd) ∧ St cx w' (LL)) ?_ ?_
  · skip
    all_goals (refine Q0 ?_; refine Q1 ?_)
    refine zKL hS 8 [2, 3, 5] (fun A LL ρ' w' => ∃ (q1 : Bool), Has ρ' A ∧ Has ρ' [(22, .bool q1)] ∧ (q1 = true ↔ (fA x.op = false ∧ x.a ≠ 0)) ∧ St cx w' (LL)) ?_ ?_
    · skip
      all_goals (refine Q2 rfl ?_; refine zl hS ?_)
      all_goals (cases a1)
      all_goals (refine Q2b rfl ?_; refine zm ?_; (first | refine s_gn rfl rfl ?_ | (refine s_gy rfl ?_; refine Q2 rfl ?_)); (first | refine s_gn rfl rfl ?_ | (refine s_gy rfl ?_; refine zl hS ?_)))
      all_goals (first | refine s_gn rfl rfl ?_ | (refine s_gy rfl ?_; (first | (refine Q1c ?_) | (refine Q1d ?_) | (refine Qp rfl rfl (fun hc => ?_) (fun hc => ?_)))))
      all_goals ((first | (refine zpt ?_) | (refine zpf ?_)); refine Q59 ?_; refine Q2z ?_)
      all_goals (first | (exact ⟨_, zh, zh, by exact ⟨fun _ => ⟨(by first | rfl | assumption), by omega⟩, fun _ => rfl⟩, hS.sp⟩) | (exact ⟨_, zh, zh, by exact ⟨fun h => Bool.noConfusion h, fun h => by obtain ⟨h1, h2⟩ := h; first | (exfalso; omega) | (simp_all; done)⟩, hS.sp⟩))
    rintro ρ w1 ⟨q1, hA, hρ, hq1, hS⟩; obtain ⟨ρ, rfl⟩ := env2 hA hρ
    refine zKL hS 10 [2, 3, 5] (fun A LL ρ' w' => ∃ (q2 : Bool), Has ρ' A ∧ Has ρ' [(32, .bool q2)] ∧ (q2 = true ↔ ((fA x.op = false ∧ x.a ≠ 0) ∨ (fB x.op = false ∧ x.b ≠ 0))) ∧ St cx w' (LL)) ?_ ?_
    · skip
      all_goals (cases q1)
      all_goals (refine zm ?_; (first | refine s_gn rfl rfl ?_ | (refine s_gy rfl ?_; refine Q2 rfl ?_)); (first | refine s_gn rfl rfl ?_ | (refine s_gy rfl ?_; refine zl hS ?_)))
      all_goals (cases a2)
      all_goals ((first | refine s_gn rfl rfl ?_ | (refine s_gy rfl ?_; refine Q2b rfl ?_)); (first | refine s_gn rfl rfl ?_ | (refine s_gy rfl ?_; refine zm ?_)); (first | refine s_gn rfl rfl ?_ | (refine s_gy rfl ?_; refine Q2 rfl ?_)); (first | refine s_gn rfl rfl ?_ | (refine s_gy rfl ?_; refine zl hS ?_)))
      all_goals (first | refine s_gn rfl rfl ?_ | (refine s_gy rfl ?_; (first | (refine Q1c ?_) | (refine Q1d ?_) | (refine Qp rfl rfl (fun hc => ?_) (fun hc => ?_)))))
      all_goals ((first | refine s_gn rfl rfl ?_ | (refine s_gy rfl ?_; (first | (refine zpt ?_) | (refine zpf ?_)))); (first | (refine zpt ?_) | (refine zpf ?_)); refine Q59 ?_; refine Q2z ?_)
      all_goals (first | (exact ⟨_, zh, zh, by exact ⟨fun _ => .inl (hq1.1 rfl), fun _ => rfl⟩, hS.sp⟩) | (exact ⟨_, zh, zh, by exact ⟨fun _ => .inr ⟨(by first | rfl | assumption), by omega⟩, fun _ => rfl⟩, hS.sp⟩) | (exact ⟨_, zh, zh, by exact ⟨fun h => Bool.noConfusion h, fun h => h.elim (fun h => hq1.2 h) (fun h => by obtain ⟨h1, h2⟩ := h; first | (exfalso; omega) | (simp_all; done))⟩, hS.sp⟩))
    rintro ρ w1 ⟨q2, hA, hρ, hq2, hS⟩; obtain ⟨ρ, rfl⟩ := env2 hA hρ
    refine zKL hS 10 [2, 3, 5] (fun A LL ρ' w' => ∃ (q3 : Bool), Has ρ' A ∧ Has ρ' [(42, .bool q3)] ∧ (q3 = true ↔ (((fA x.op = false ∧ x.a ≠ 0) ∨ (fB x.op = false ∧ x.b ≠ 0)) ∨ (fC x.op = false ∧ x.c ≠ 0))) ∧ St cx w' (LL)) ?_ ?_
    · skip
      all_goals (cases q2)
      all_goals (refine zm ?_; (first | refine s_gn rfl rfl ?_ | (refine s_gy rfl ?_; refine Q2 rfl ?_)); (first | refine s_gn rfl rfl ?_ | (refine s_gy rfl ?_; refine zl hS ?_)))
      all_goals (cases a3)
      all_goals ((first | refine s_gn rfl rfl ?_ | (refine s_gy rfl ?_; refine Q2b rfl ?_)); (first | refine s_gn rfl rfl ?_ | (refine s_gy rfl ?_; refine zm ?_)); (first | refine s_gn rfl rfl ?_ | (refine s_gy rfl ?_; refine Q2 rfl ?_)); (first | refine s_gn rfl rfl ?_ | (refine s_gy rfl ?_; refine zl hS ?_)))
      all_goals (first | refine s_gn rfl rfl ?_ | (refine s_gy rfl ?_; (first | (refine Q1c ?_) | (refine Q1d ?_) | (refine Qp rfl rfl (fun hc => ?_) (fun hc => ?_)))))
      all_goals ((first | refine s_gn rfl rfl ?_ | (refine s_gy rfl ?_; (first | (refine zpt ?_) | (refine zpf ?_)))); (first | (refine zpt ?_) | (refine zpf ?_)); refine Q59 ?_; refine Q2z ?_)
      all_goals (first | (exact ⟨_, zh, zh, by exact ⟨fun _ => .inl (hq2.1 rfl), fun _ => rfl⟩, hS.sp⟩) | (exact ⟨_, zh, zh, by exact ⟨fun _ => .inr ⟨(by first | rfl | assumption), by omega⟩, fun _ => rfl⟩, hS.sp⟩) | (exact ⟨_, zh, zh, by exact ⟨fun h => Bool.noConfusion h, fun h => h.elim (fun h => hq2.2 h) (fun h => by obtain ⟨h1, h2⟩ := h; first | (exfalso; omega) | (simp_all; done))⟩, hS.sp⟩))
    rintro ρ w1 ⟨q3, hA, hρ, hq3, hS⟩; obtain ⟨ρ, rfl⟩ := env2 hA hρ
    refine zKL hS 10 [2, 3, 5] (fun A LL ρ' w' => ∃ (q4 : Bool), Has ρ' A ∧ Has ρ' [(52, .bool q4)] ∧ (q4 = true ↔ ((((fA x.op = false ∧ x.a ≠ 0) ∨ (fB x.op = false ∧ x.b ≠ 0)) ∨ (fC x.op = false ∧ x.c ≠ 0)) ∨ (fK x.op = false ∧ x.k ≠ 0))) ∧ St cx w' (LL)) ?_ ?_
    · skip
      all_goals (cases q3)
      all_goals (refine zm ?_; (first | refine s_gn rfl rfl ?_ | (refine s_gy rfl ?_; refine Q2 rfl ?_)); (first | refine s_gn rfl rfl ?_ | (refine s_gy rfl ?_; refine zl hS ?_)))
      all_goals (cases a4)
      all_goals ((first | refine s_gn rfl rfl ?_ | (refine s_gy rfl ?_; refine Q2b rfl ?_)); (first | refine s_gn rfl rfl ?_ | (refine s_gy rfl ?_; refine zm ?_)); (first | refine s_gn rfl rfl ?_ | (refine s_gy rfl ?_; refine Q2 rfl ?_)); (first | refine s_gn rfl rfl ?_ | (refine s_gy rfl ?_; refine zl hS ?_)))
      all_goals (first | refine s_gn rfl rfl ?_ | (refine s_gy rfl ?_; (first | (refine Q1c ?_) | (refine Q1d ?_) | (refine Qp rfl rfl (fun hc => ?_) (fun hc => ?_)))))
      all_goals ((first | refine s_gn rfl rfl ?_ | (refine s_gy rfl ?_; (first | (refine zpt ?_) | (refine zpf ?_)))); (first | (refine zpt ?_) | (refine zpf ?_)); refine Q59 ?_; refine Q2z ?_)
      all_goals (first | (exact ⟨_, zh, zh, by exact ⟨fun _ => .inl (hq3.1 rfl), fun _ => rfl⟩, hS.sp⟩) | (exact ⟨_, zh, zh, by exact ⟨fun _ => .inr ⟨(by first | rfl | assumption), by omega⟩, fun _ => rfl⟩, hS.sp⟩) | (exact ⟨_, zh, zh, by exact ⟨fun h => Bool.noConfusion h, fun h => h.elim (fun h => hq3.2 h) (fun h => by obtain ⟨h1, h2⟩ := h; first | (exfalso; omega) | (simp_all; done))⟩, hS.sp⟩))
    rintro ρ w1 ⟨q4, hA, hρ, hq4, hS⟩; obtain ⟨ρ, rfl⟩ := env2 hA hρ
    refine zKL hS 10 [2, 3, 5] (fun A LL ρ' w' => ∃ (q5 : Bool), Has ρ' A ∧ Has ρ' [(62, .bool q5)] ∧ (q5 = true ↔ (((((fA x.op = false ∧ x.a ≠ 0) ∨ (fB x.op = false ∧ x.b ≠ 0)) ∨ (fC x.op = false ∧ x.c ≠ 0)) ∨ (fK x.op = false ∧ x.k ≠ 0)) ∨ (fN x.op = false ∧ x.n ≠ 0))) ∧ St cx w' (LL)) ?_ ?_
    · skip
      all_goals (cases q4)
      all_goals (refine zm ?_; (first | refine s_gn rfl rfl ?_ | (refine s_gy rfl ?_; refine Q2 rfl ?_)); (first | refine s_gn rfl rfl ?_ | (refine s_gy rfl ?_; refine zl hS ?_)))
      all_goals (cases a5)
      all_goals ((first | refine s_gn rfl rfl ?_ | (refine s_gy rfl ?_; refine Q2b rfl ?_)); (first | refine s_gn rfl rfl ?_ | (refine s_gy rfl ?_; refine zm ?_)); (first | refine s_gn rfl rfl ?_ | (refine s_gy rfl ?_; refine Q2 rfl ?_)); (first | refine s_gn rfl rfl ?_ | (refine s_gy rfl ?_; refine zl hS ?_)))
      all_goals (first | refine s_gn rfl rfl ?_ | (refine s_gy rfl ?_; (first | (refine Q1c ?_) | (refine Q1d ?_) | (refine Qp rfl rfl (fun hc => ?_) (fun hc => ?_)))))
      all_goals ((first | refine s_gn rfl rfl ?_ | (refine s_gy rfl ?_; (first | (refine zpt ?_) | (refine zpf ?_)))); (first | (refine zpt ?_) | (refine zpf ?_)); refine Q59 ?_; refine Q2z ?_)
      all_goals (first | (exact ⟨_, zh, zh, by exact ⟨fun _ => .inl (hq4.1 rfl), fun _ => rfl⟩, hS.sp⟩) | (exact ⟨_, zh, zh, by exact ⟨fun _ => .inr ⟨(by first | rfl | assumption), by omega⟩, fun _ => rfl⟩, hS.sp⟩) | (exact ⟨_, zh, zh, by exact ⟨fun h => Bool.noConfusion h, fun h => h.elim (fun h => hq4.2 h) (fun h => by obtain ⟨h1, h2⟩ := h; first | (exfalso; omega) | (simp_all; done))⟩, hS.sp⟩))
    rintro ρ w1 ⟨q5, hA, hρ, hq5, hS⟩; obtain ⟨ρ, rfl⟩ := env2 hA hρ
    refine zKL hS 11 [2, 3, 5] (fun A LL ρ' w' => ∃ (q6 : Bool), Has ρ' A ∧ Has ρ' [(73, .bool q6)] ∧ (q6 = true ↔ ((((((fA x.op = false ∧ x.a ≠ 0) ∨ (fB x.op = false ∧ x.b ≠ 0)) ∨ (fC x.op = false ∧ x.c ≠ 0)) ∨ (fK x.op = false ∧ x.k ≠ 0)) ∨ (fN x.op = false ∧ x.n ≠ 0)) ∨ (fG x.op = false ∧ 0 < x.regs.length))) ∧ St cx w' (LL)) ?_ ?_
    · skip
      all_goals (cases q5)
      all_goals (refine zm ?_; (first | refine s_gn rfl rfl ?_ | (refine s_gy rfl ?_; refine Q2 rfl ?_)); (first | refine s_gn rfl rfl ?_ | (refine s_gy rfl ?_; refine zl hS ?_)))
      all_goals (cases a6)
      all_goals ((first | refine s_gn rfl rfl ?_ | (refine s_gy rfl ?_; refine Q2b rfl ?_)); (first | refine s_gn rfl rfl ?_ | (refine s_gy rfl ?_; refine zm ?_)); (first | refine s_gn rfl rfl ?_ | (refine s_gy rfl ?_; refine Q2 rfl ?_)); (first | refine s_gn rfl rfl ?_ | (refine s_gy rfl ?_; refine zl hS ?_)); (first | refine s_gn rfl rfl ?_ | (refine s_gy rfl ?_; refine zL ?_)))
      all_goals (first | refine s_gn rfl rfl ?_ | (refine s_gy rfl ?_; (first | (refine QK ?_) | (refine QM ?_) | (refine Qi rfl rfl (fun hc => ?_) (fun hc => ?_)))))
      all_goals ((first | refine s_gn rfl rfl ?_ | (refine s_gy rfl ?_; (first | (refine zpt ?_) | (refine zpf ?_)))); (first | (refine zpt ?_) | (refine zpf ?_)); refine Q59 ?_; refine Q2z ?_)
      all_goals (first | (exact ⟨_, zh, zh, by exact ⟨fun _ => .inl (hq5.1 rfl), fun _ => rfl⟩, hS.sp⟩) | (exact ⟨_, zh, zh, by exact ⟨fun _ => .inr ⟨(by first | rfl | assumption), by omega⟩, fun _ => rfl⟩, hS.sp⟩) | (exact ⟨_, zh, zh, by exact ⟨fun h => Bool.noConfusion h, fun h => h.elim (fun h => hq5.2 h) (fun h => by obtain ⟨h1, h2⟩ := h; first | (exfalso; omega) | (simp_all; done))⟩, hS.sp⟩))
    rintro ρ w1 ⟨q6, hA, hρ, hq6, hS⟩; obtain ⟨ρ, rfl⟩ := env2 hA hρ
    all_goals (cases q6)
    all_goals (refine zm ?_; (first | refine s_gn rfl rfl ?_ | (refine s_gy rfl ?_; refine Q2 rfl ?_)); (first | refine s_gn rfl rfl ?_ | (refine s_gy rfl ?_; refine zl hS ?_)))
    all_goals (cases a7)
    all_goals ((first | refine s_gn rfl rfl ?_ | (refine s_gy rfl ?_; refine Q2b rfl ?_)); (first | refine s_gn rfl rfl ?_ | (refine s_gy rfl ?_; refine zm ?_)); (first | refine s_gn rfl rfl ?_ | (refine s_gy rfl ?_; refine Q2 rfl ?_)); (first | refine s_gn rfl rfl ?_ | (refine s_gy rfl ?_; refine zl hS ?_)); (first | refine s_gn rfl rfl ?_ | (refine s_gy rfl ?_; refine zL ?_)))
    all_goals (first | refine s_gn rfl rfl ?_ | (refine s_gy rfl ?_; (first | (refine QK ?_) | (refine QM ?_) | (refine Qi rfl rfl (fun hc => ?_) (fun hc => ?_)))))
    all_goals ((first | refine s_gn rfl rfl ?_ | (refine s_gy rfl ?_; (first | (refine zpt ?_) | (refine zpf ?_)))); (first | (refine zpt ?_) | (refine zpf ?_)); refine zn ?_)
    all_goals
      first
      | (refine Q3 rfl ?_ -- QL c1
         all_goals (refine Q0 ?_; refine Q1 ?_; refine zm ?_; refine zn ?_; refine zr ?_; refine zf ?_)
         all_goals (first | (refine ⟨_, rfl, ?_, hS.sp⟩; rw [if_pos (by have := of_decide_eq_false hop; omega)]; done) | (refine ⟨_, rfl, ?_, hS.sp⟩; have ho : x.odd := (by unfold Ins.odd; simp only [← or_assoc]; first | exact .inl (hq6.1 rfl) | exact .inr ⟨(by first | rfl | assumption), by omega⟩); rw [if_neg (by omega), if_pos ho]; done)))
      | (refine Q4 rfl ?_ -- QL c1
         all_goals refine zsk ?_)
    all_goals (exact ⟨zh, zh, by intro h; unfold Ins.odd at h; simp only [← or_assoc] at h; exact h.elim (fun h => Bool.noConfusion (hq6.2 h)) (fun h => by obtain ⟨h1, h2⟩ := h; first | (exfalso; omega) | (simp_all; done)), hS.sp⟩)
  rintro ρ w1 ⟨hA, hρ, hodd, hS⟩; obtain ⟨ρ, rfl⟩ := env2 hA hρ
  all_goals (refine Q0 ?_; refine Q0 ?_; clear hm hx; refine Q1 ?_; refine Q2 rfl ?_; refine zl hS ?_; refine zn ?_; refine Q8 ?_; refine Q0 ?_; refine Q1 ?_)
  all_goals (first | (refine Qy ?_) | (refine QC ?_) | (refine Qn rfl rfl (fun hc => ?_) (fun hc => ?_)))
  all_goals (refine zm ?_; refine zn ?_)
  all_goals
    first
    | (refine Q3 rfl ?_ -- QL c2
       all_goals (refine Q0 ?_; refine Q1 ?_; refine Q2 rfl ?_; refine zl hS ?_)
       all_goals (first | (refine Q1Q ?_) | (refine Q1R ?_) | (refine QD rfl rfl (fun hc => ?_) (fun hc => ?_)))
       all_goals (refine zm ?_; (first | refine s_gn rfl rfl ?_ | (refine s_gy rfl ?_; refine Q2 rfl ?_)); (first | refine s_gn rfl rfl ?_ | (refine s_gy rfl ?_; refine zl hS ?_)))
       all_goals (first | refine s_gn rfl rfl ?_ | (refine s_gy rfl ?_; (first | (refine QK ?_) | (refine QM ?_) | (refine Qi rfl rfl (fun hc => ?_) (fun hc => ?_)))))
       all_goals ((first | (refine zpt ?_) | (refine zpf ?_)); refine zn ?_)
       all_goals
         first
         | (refine Q3 rfl ?_ -- QL c3
            all_goals (refine Q0 ?_; refine Q1 ?_; refine zm ?_; refine zn ?_; refine zr ?_; refine zf ?_)
            all_goals (first | (refine ⟨_, rfl, ?_, hS.sp⟩; rw [if_pos (by have := of_decide_eq_false hop; omega)]; done) | (refine ⟨_, rfl, ?_, hS.sp⟩; have ho : x.odd := (by unfold Ins.odd; simp only [← or_assoc]; first | exact .inl (hq6.1 rfl) | exact .inr ⟨(by first | rfl | assumption), by omega⟩); rw [if_neg (by omega), if_pos ho]; done) | (refine ⟨_, rfl, ?_, hS.sp⟩; rw [if_neg (by omega), if_neg hodd]; unfold Q2t; (repeat (first | rw [if_pos (by omega)] | rw [if_neg (by omega)])); done)))
         | (refine Q4 rfl ?_ -- QL c3
            all_goals refine zsk ?_))
    | (refine Q4 rfl ?_ -- QL c2
       all_goals (refine Q0 ?_; refine Q1 ?_)
       all_goals (first | (refine Qy ?_) | (refine QC ?_) | (refine Qn rfl rfl (fun hc => ?_) (fun hc => ?_)))
       all_goals (refine zm ?_; refine zn ?_)
       all_goals
         first
         | (refine Q3 rfl ?_ -- QL c4
            all_goals (refine Q0 ?_; refine Q1 ?_; refine Q2 rfl ?_; refine zl hS ?_; refine zL ?_)
            all_goals (first | (refine QK ?_) | (refine QM ?_) | (refine Qi rfl rfl (fun hc => ?_) (fun hc => ?_)))
            all_goals (refine zn ?_)
            all_goals
              first
              | (refine Q3 rfl ?_ -- QL c5
                 all_goals (refine Q0 ?_; refine Q1 ?_; refine zm ?_; refine zn ?_; refine zr ?_; refine zf ?_)
                 all_goals (first | (refine ⟨_, rfl, ?_, hS.sp⟩; rw [if_pos (by have := of_decide_eq_false hop; omega)]; done) | (refine ⟨_, rfl, ?_, hS.sp⟩; have ho : x.odd := (by unfold Ins.odd; simp only [← or_assoc]; first | exact .inl (hq6.1 rfl) | exact .inr ⟨(by first | rfl | assumption), by omega⟩); rw [if_neg (by omega), if_pos ho]; done) | (refine ⟨_, rfl, ?_, hS.sp⟩; rw [if_neg (by omega), if_neg hodd]; unfold Q2t; (repeat (first | rw [if_pos (by omega)] | rw [if_neg (by omega)])); done)))
              | (refine Q4 rfl ?_ -- QL c5
                 all_goals refine zsk ?_))
         | (refine Q4 rfl ?_ -- QL c4
            all_goals (refine Q0 ?_; refine Q0 ?_; refine Q1 ?_)
            all_goals (first | (refine Qy ?_) | (refine QC ?_) | (refine Qn rfl rfl (fun hc => ?_) (fun hc => ?_)))
            all_goals (refine zm ?_; refine zn ?_)
            all_goals
              first
              | (refine Q3 rfl ?_ -- QL c6
                 all_goals refine zsk ?_)
              | (refine Q4 rfl ?_ -- QL c6
                 all_goals (refine Q1 ?_)
                 all_goals (first | (refine Qy ?_) | (refine QC ?_) | (refine Qn rfl rfl (fun hc => ?_) (fun hc => ?_)))
                 all_goals (refine zm ?_)
                 all_goals refine zn ?_)
            all_goals
              first
              | (refine Q3 rfl ?_ -- QL c7
                 all_goals (refine Q0 ?_; refine Q1 ?_; refine Q2 rfl ?_; refine zl hS ?_)
                 all_goals (first | (refine Q1Q ?_) | (refine Q1R ?_) | (refine QD rfl rfl (fun hc => ?_) (fun hc => ?_)))
                 all_goals (refine zm ?_; (first | refine s_gn rfl rfl ?_ | (refine s_gy rfl ?_; refine Q2 rfl ?_)); (first | refine s_gn rfl rfl ?_ | (refine s_gy rfl ?_; refine zl hS ?_)))
                 all_goals (first | refine s_gn rfl rfl ?_ | (refine s_gy rfl ?_; (first | (refine QK ?_) | (refine QM ?_) | (refine Qi rfl rfl (fun hc => ?_) (fun hc => ?_)))))
                 all_goals ((first | (refine zpt ?_) | (refine zpf ?_)); refine zn ?_)
                 all_goals
                   first
                   | (refine Q3 rfl ?_ -- QL c8
                      all_goals (refine Q0 ?_; refine Q1 ?_; refine zm ?_; refine zn ?_; refine zr ?_; refine zf ?_)
                      all_goals (first | (refine ⟨_, rfl, ?_, hS.sp⟩; rw [if_pos (by have := of_decide_eq_false hop; omega)]; done) | (refine ⟨_, rfl, ?_, hS.sp⟩; have ho : x.odd := (by unfold Ins.odd; simp only [← or_assoc]; first | exact .inl (hq6.1 rfl) | exact .inr ⟨(by first | rfl | assumption), by omega⟩); rw [if_neg (by omega), if_pos ho]; done) | (refine ⟨_, rfl, ?_, hS.sp⟩; rw [if_neg (by omega), if_neg hodd]; unfold Q2t; (repeat (first | rw [if_pos (by omega)] | rw [if_neg (by omega)])); done)))
                   | (refine Q4 rfl ?_ -- QL c8
                      all_goals refine zsk ?_))
              | (refine Q4 rfl ?_ -- QL c7
                 all_goals (refine Q0 ?_; refine Q1 ?_)
                 all_goals (first | (refine Qy ?_) | (refine QC ?_) | (refine Qn rfl rfl (fun hc => ?_) (fun hc => ?_)))
                 all_goals (refine zm ?_; refine zn ?_)
                 all_goals
                   first
                   | (refine Q3 rfl ?_ -- QL c9
                      all_goals (refine Q0 ?_; refine Q0 ?_; refine Q1 ?_; refine Q2 rfl ?_; refine zl hS ?_)
                      all_goals (first | (refine Q1Q ?_) | (refine Q1R ?_) | (refine QD rfl rfl (fun hc => ?_) (fun hc => ?_)))
                      all_goals (refine zm ?_; (first | refine s_gn rfl rfl ?_ | (refine s_gy rfl ?_; refine Q2 rfl ?_)); (first | refine s_gn rfl rfl ?_ | (refine s_gy rfl ?_; refine zl hS ?_)); (first | refine s_gn rfl rfl ?_ | (refine s_gy rfl ?_; refine Q2 rfl ?_)); (first | refine s_gn rfl rfl ?_ | (refine s_gy rfl ?_; refine zl hS ?_)); (first | refine s_gn rfl rfl ?_ | (refine s_gy rfl ?_; refine zL ?_)))
                      all_goals (first | refine s_gn rfl rfl ?_ | (refine s_gy rfl ?_; (first | (refine QdO ?_) | (refine QdP ?_) | (refine Q3G rfl rfl (fun hc => ?_) (fun hc => ?_)))))
                      all_goals ((first | (refine zpt ?_) | (refine zpf ?_)); refine zn ?_)
                      all_goals
                        first
                        | (refine Q3 rfl ?_ -- QL c10
                           all_goals (refine Q0 ?_; refine Q1 ?_; refine zm ?_; refine zn ?_; refine zr ?_; refine zf ?_)
                           all_goals (first | (refine ⟨_, rfl, ?_, hS.sp⟩; rw [if_pos (by have := of_decide_eq_false hop; omega)]; done) | (refine ⟨_, rfl, ?_, hS.sp⟩; have ho : x.odd := (by unfold Ins.odd; simp only [← or_assoc]; first | exact .inl (hq6.1 rfl) | exact .inr ⟨(by first | rfl | assumption), by omega⟩); rw [if_neg (by omega), if_pos ho]; done) | (refine ⟨_, rfl, ?_, hS.sp⟩; rw [if_neg (by omega), if_neg hodd]; unfold Q2t; (repeat (first | rw [if_pos (by omega)] | rw [if_neg (by omega)])); done)))
                        | (refine Q4 rfl ?_ -- QL c10
                           all_goals refine zsk ?_)
                      all_goals (refine Q0 ?_; refine Q1 ?_; refine Q2 rfl ?_; refine zl hS ?_; refine zL ?_)
                      all_goals (first | (refine QK ?_) | (refine QM ?_) | (refine Qi rfl rfl (fun hc => ?_) (fun hc => ?_)))
                      all_goals (refine zm ?_; (first | refine s_gn rfl rfl ?_ | (refine s_gy rfl ?_; refine Q2 rfl ?_)); (first | refine s_gn rfl rfl ?_ | (refine s_gy rfl ?_; refine zl hS ?_)); (first | refine s_gn rfl rfl ?_ | (refine s_gy rfl ?_; refine zL ?_)))
                      all_goals (first | refine s_gn rfl rfl ?_ | (refine s_gy rfl ?_; (first | (refine QK ?_) | (refine QM ?_) | (refine Qi rfl rfl (fun hc => ?_) (fun hc => ?_)))))
                      all_goals ((first | (refine zpt ?_) | (refine zpf ?_)); refine zn ?_)
                      all_goals
                        first
                        | (refine Q3 rfl ?_ -- QL c11
                           all_goals (refine Q0 ?_; refine Q1 ?_; refine zm ?_; refine zn ?_; refine zr ?_; refine zf ?_)
                           all_goals (first | (refine ⟨_, rfl, ?_, hS.sp⟩; rw [if_pos (by have := of_decide_eq_false hop; omega)]; done) | (refine ⟨_, rfl, ?_, hS.sp⟩; have ho : x.odd := (by unfold Ins.odd; simp only [← or_assoc]; first | exact .inl (hq6.1 rfl) | exact .inr ⟨(by first | rfl | assumption), by omega⟩); rw [if_neg (by omega), if_pos ho]; done) | (refine ⟨_, rfl, ?_, hS.sp⟩; rw [if_neg (by omega), if_neg hodd]; unfold Q2t; (repeat (first | rw [if_pos (by omega)] | rw [if_neg (by omega)])); done)))
                        | (refine Q4 rfl ?_ -- QL c11
                           all_goals refine zsk ?_))
                   | (refine Q4 rfl ?_ -- QL c9
                      all_goals refine zsk ?_))))
  all_goals (refine Q0 ?_; refine Q1 ?_; refine zm ?_; refine zn ?_; refine zr ?_; refine zf ?_; (first | (refine ⟨_, rfl, ?_, hS.sp⟩; rw [if_pos (by have := of_decide_eq_false hop; omega)]; done) | (refine ⟨_, rfl, ?_, hS.sp⟩; have ho : x.odd := (by unfold Ins.odd; simp only [← or_assoc]; first | exact .inl (hq6.1 rfl) | exact .inr ⟨(by first | rfl | assumption), by omega⟩); rw [if_neg (by omega), if_pos ho]; done) | (refine ⟨_, rfl, ?_, hS.sp⟩; rw [if_neg (by omega), if_neg hodd]; unfold Q2t; (repeat (first | rw [if_pos (by omega)] | rw [if_neg (by omega)])); done)))
end Go.Proofs.YtanlkfeogoganaaGreat
namespace Go.Lir
section
variable {P : Program} {l : List GO} {Q : QT} {ρ : Env} {w : World}
/-- A field that holds an integer. -/
def IntF (P : Program) (f : Field) (i : Nat) : Prop := f.name ≠ "_" ∧ (∃ k, P.underlying f.type = some (.int k)) ∧ f.offset = i ∧ Q43 P f.type = true
theorem Q6p (k : Nat) {T : TypeId} {q : IntKind} {a b : Int} {kk : IntKind} {w0 : World} (ht : P.underlying T = some (.int q)) : (Op.equalIn (k + 1) T (.int kk a) (.int kk b)).run P w0 = .ok (a == b) w0 := by
  simp only [Op.equalIn, Sem.run_bind, Qe P T _ w0 ht, Result.andThen_ok]
  simp [Sem.run_pure]
def intFB (P : Program) (f : Field) (i : Nat) : Bool := f.name != "_" && (match P.underlying f.type with | some (.int _) => true | _ => false) && f.offset == i && Q43 P f.type
theorem Qva {f : Field} {i : Nat} (h : intFB P f i = true) : IntF P f i := by
  unfold intFB at h
  simp only [Bool.and_eq_true, bne_iff_ne, ne_eq, beq_iff_eq] at h
  obtain ⟨⟨⟨h1, h2⟩, h3⟩, h4⟩ := h
  refine ⟨h1, ?_, h3, h4⟩
  split at h2
  · rename_i k hk; exact ⟨k, hk⟩
  · cases h2
end
end Go.Lir
namespace Go.Lir
section
variable {P : Program} {l : List GO} {Q : QT} {ρ : Env} {w : World}
theorem QuG (k : Nat) {T : TypeId} {f0 f1 : Field} {a0 a1 b0 b1 : Int} {w0 : World} (ht : P.underlying T = some (.struct #[f0, f1])) (hh : P.stoodInHeld T = false)
    (h0 : IntF P f0 0) (h1 : IntF P f1 1) :
    (Op.equalIn (k + 2) T (.agg ⟨[.int .i64 a0, .int .i64 a1]⟩) (.agg ⟨[.int .i64 b0, .int .i64 b1]⟩)).run P w0 = .ok (a0 == b0 && a1 == b1) w0 := by
  obtain ⟨n0, ⟨q0, u0⟩, o0, s0⟩ := h0
  obtain ⟨n1, ⟨q1, u1⟩, o1, s1⟩ := h1
  have hp : ∀ (T : TypeId) (cs : Array Value) (off : Nat) (v : Value) (w : World), Q43 P T = true → cs[off]? = some v → (part T cs off).run P w = .ok v w := fun T cs off v w h hv => Qmx P T cs off v w h hv
  unfold Op.equalIn
  simp only [Sem.run_bind, Qe P T _ w0 ht, Result.andThen_ok]
  simp [hh, n0, n1, o0, o1, Q6p _ u0, Q6p _ u1, hp _ _ _ _ _ s0, hp _ _ _ _ _ s1]
  by_cases e0 : a0 = b0 <;> by_cases e1 : a1 = b1 <;> simp [e0, e1]
def Int2 (P : Program) (T : TypeId) : Prop := ∃ f0 f1 : Field, P.underlying T = some (.struct #[f0, f1]) ∧ P.stoodInHeld T = false ∧ P.eqGuardType P.depth T = false ∧ IntF P f0 0 ∧ IntF P f1 1
def int2B (P : Program) (T : TypeId) : Bool := match P.underlying T with
  | some (.struct fs) => match fs.toList with
    | [f0, f1] => !P.stoodInHeld T && !P.eqGuardType P.depth T && intFB P f0 0 && intFB P f1 1
    | _ => false
  | _ => false
theorem int2_of {T : TypeId} (h : int2B P T = true) : Int2 P T := by
  unfold int2B at h
  split at h
  · rename_i fs hu
    split at h
    · rename_i f0 f1 hf
      simp only [Bool.and_eq_true, Bool.not_eq_true'] at h
      obtain ⟨⟨⟨h1, h2⟩, h3⟩, h4⟩ := h
      have : fs = #[f0, f1] := by apply Array.ext'; exact hf
      subst this
      exact ⟨f0, f1, hu, h1, h2, Qva h3, Qva h4⟩
    · cases h
  · cases h
theorem Qt6 (a0 a1 b0 b1 : Int) : (a0 == b0 && a1 == b1) = decide ((a0, a1) = (b0, b1)) := by
  rw [Bool.eq_iff_iff]; simp
theorem s_eq2 {d : Nat} {T : TypeId} {x y : Operand} {a b : Int × Int} (hT : Int2 P T) (hx : ρ.ev x = .agg ⟨[.int .i64 a.1, .int .i64 a.2]⟩) (hy : ρ.ev y = .agg ⟨[.int .i64 b.1, .int .i64 b.2]⟩)
    (h : Q5 P l Q (upd ρ d (.bool (decide (a = b)))) w) : Q5 P (⟨none, .bin d .eql T x y⟩ :: l) Q ρ w := by
  obtain ⟨f0, f1, ht, hh, hg, h0, h1⟩ := hT
  exact ⟨.bool (decide (a = b)), fun w0 => by rw [hx, hy]; simp only [Sem.run_bind, run_eqGuard_agg w0 .eql T x y _ _ hg, Result.andThen_ok, run_eql_struct, QuG 9998 ht hh h0 h1, Qt6], h⟩
theorem s_ne2 {d : Nat} {T : TypeId} {x y : Operand} {a b : Int × Int} (hT : Int2 P T) (hx : ρ.ev x = .agg ⟨[.int .i64 a.1, .int .i64 a.2]⟩) (hy : ρ.ev y = .agg ⟨[.int .i64 b.1, .int .i64 b.2]⟩)
    (h : Q5 P l Q (upd ρ d (.bool (!decide (a = b)))) w) : Q5 P (⟨none, .bin d .neq T x y⟩ :: l) Q ρ w := by
  obtain ⟨f0, f1, ht, hh, hg, h0, h1⟩ := hT
  exact ⟨.bool (!decide (a = b)), fun w0 => by rw [hx, hy]; simp only [Sem.run_bind, run_eqGuard_agg w0 .neq T x y _ _ hg, Result.andThen_ok, run_neq_struct, QuG 9998 ht hh h0 h1, Qt6], h⟩
theorem s_eq2_t {d : Nat} {T : TypeId} {x y : Operand} {a : Int × Int} (hT : Int2 P T) (hx : ρ.ev x = .agg ⟨[.int .i64 a.1, .int .i64 a.2]⟩) (hy : ρ.ev y = .agg ⟨[.int .i64 a.1, .int .i64 a.2]⟩)
    (h : Q5 P l Q (upd ρ d (.bool true)) w) : Q5 P (⟨none, .bin d .eql T x y⟩ :: l) Q ρ w := s_eq2 hT hx hy (by rw [decide_eq_true rfl]; exact h)
theorem s_ne2_f {d : Nat} {T : TypeId} {x y : Operand} {a : Int × Int} (hT : Int2 P T) (hx : ρ.ev x = .agg ⟨[.int .i64 a.1, .int .i64 a.2]⟩) (hy : ρ.ev y = .agg ⟨[.int .i64 a.1, .int .i64 a.2]⟩)
    (h : Q5 P l Q (upd ρ d (.bool false)) w) : Q5 P (⟨none, .bin d .neq T x y⟩ :: l) Q ρ w := s_ne2 hT hx hy (by rw [decide_eq_true rfl]; exact h)
/-- A block is from here on only read, as a list of one. -/
theorem St.freeze1 {α : Type} {r : Rep α} {c : Cx} {L : List Res} {T b : Nat} {cs : List Value} {x : α} (h : St c w (blk b T cs :: L)) (hr : r.at c cs x) : ∃ c', c.Le c' ∧ St c' w L ∧ r.sl c' (.slice (some ⟨b, 0, none⟩) 1 1) [x] := by
  have h1 : St c w (sl T r.es (.slice (some ⟨b, 0, none⟩) 1 1) [cs] :: L) := h.slOf (css := [cs]) (by simp) (by intro q hq; simp at hq; subst hq; exact r.len hr) rfl
  exact h1.freezeL (r := r) ((Rep.LR.nil r _ _).push hr) rfl (by simp)
end
end Go.Lir
namespace Go.Proofs.YtanlkfeogoganaaGreat
open Go.Lir
set_option maxHeartbeats 1000000
attribute [local irreducible] LC.wp Q5 QN Q11 retQ Q1T LO.wp Qr Calls
set_option linter.unusedSimpArgs false
set_option linter.unusedVariables false
attribute [local irreducible] bitI IntKind.wrap zig leb Qo
variable {cx : Cx} {w : World} {L : List Res}
theorem Qgy {n : Int} (hn : InI n) (hS : St cx w L) : Rets Tryz.prog Q5C [.int .i64 n] w fun u w' => oneC u = true ∧ St cx w' (sl 5 1 u ((Qc n).map QB) :: L) := by
  have hn' := hn
  unfold InI at hn'
  have hz := zig_lt n
  all_goals refine QkC ?_
  all_goals (unfold R_longBytes_lc; refine Q0 ?_; refine Q1 ?_; refine zm ?_; refine zn ?_; refine Q0 ?_; refine Q1 ?_; refine zm ?_; refine Q28 rfl ?_; refine QsW rfl rfl ?_; refine zm ?_; refine zn ?_)
  refine zM [] (fun A ρ' w' => ∃ (z : Int), Has ρ' A ∧ Has ρ' [(3, .int .u64 z)] ∧ (z = (zig n : Nat)) ∧ St cx w' (L)) ?_ ?_
  · skip
    all_goals (refine Q0 ?_; refine Q1 ?_; refine zm ?_)
    all_goals (first | (refine Q1Q ?_) | (refine Q1R ?_) | (refine QD rfl rfl (fun hc => ?_) (fun hc => ?_)))
    all_goals (refine zn ?_)
    all_goals
      first
      | (refine Q3 rfl ?_ -- Q5C c0
         all_goals (refine Q1 ?_; refine zm ?_; refine zad ?_; refine Qux rfl ?_; refine Q28 rfl ?_; refine QsW rfl rfl ?_; refine QuE rfl rfl ?_; refine zm ?_)
         all_goals refine zn ?_)
      | (refine Q4 rfl ?_ -- Q5C c0
         all_goals refine zsk ?_)
    all_goals (exact ⟨_, zh, zh, (by first | exact zig_min hn (by omega) | exact zig_pos hn (by omega)), hS.sp⟩)
  rintro ρ w1 ⟨z, hA, hρ, hz9, hS⟩; obtain ⟨ρ, rfl⟩ := env2 hA hρ; subst hz9
  all_goals (refine Q0 ?_; refine Q1 ?_; refine zm ?_; refine zn ?_; refine Q0 ?_; refine Q8 ?_)
  refine zo [] (fun A ρ' w' => ∃ (u k : Nat) (vb : Value) (cb : List (List Value)) (acc : List UInt8), Has ρ' A ∧ Has ρ' [(3, .int .u64 (u : Int)), (4, vb)] ∧ (u < 128 ^ (k + 1)) ∧ (k ≤ 9) ∧ (acc ++ leb (k + 1) u = Qc n) ∧ (u < 18446744073709551616) ∧ (u8R.ls cx cb acc) ∧ (oneC vb = true) ∧ St cx w' (sl 5 1 vb cb :: L)) (fun ρ' _ => (iv (ρ' 3)).toNat) ?_ ?_
  · exact ⟨zig n, 9, .slice none 0 0, [], [], zh, zh, by omega, (by omega), rfl, hz, Rep.LR.nil _ _ _, rfl, by have hS := hS.nil (T := 5) (es := 1); exact hS.sp⟩
  rintro ρ w1 ⟨u, k, vb, cb, acc, hA, hρ, hk, hk9, hd, hu, hlb, hvb, hS⟩; obtain ⟨ρ, rfl⟩ := env2 hA hρ; have hal := congrArg List.length hd; have hal2 := QE n; simp only [List.length_append] at hal
  unfold Q8S
  all_goals (refine Q0 ?_; refine Q0 ?_; refine Q1 ?_; refine zm ?_; refine Qgm rfl rfl ?_; refine zn ?_)
  refine Qm rfl (fun hc => ?_) (fun hc => ?_)
  · skip
    all_goals (refine zsk ?_; refine Q8 ?_; refine Q0 ?_; refine Q1 ?_; refine zm ?_; refine zm ?_; refine s_rem rfl rfl (by decide) ?_; rw [rem128 hu]; refine QuE rfl rfl ?_; rw [add128 (by omega)]; refine Q28 rfl ?_; rw [u8_of]; refine zB1 hS [_] ?_; intro b1 w1 hS; refine za Qs QP hS ?_; intro vp1 w1 css1 hls1 hv1 hS; have hS := hS.ns; refine zm ?_; refine zn ?_; refine Q1 ?_; refine zm ?_; refine s_quo rfl rfl (by decide) ?_; rw [quo128 hu]; refine zm ?_; refine zn ?_; exact ⟨⟨u / 128, k - 1, _, _, _, zh, zh, leb_lt hk (by omega), (by omega), Qt8 hd hk (by omega), (by omega), by assumption, by assumption, hS.sp⟩, Qt9 (by omega)⟩)
  · skip
    all_goals (refine zex ?_; refine Q0 ?_; refine Q1 ?_; refine zm ?_; refine zm ?_; refine Q28 rfl ?_; rw [u8_of]; refine zB1 hS [_] ?_; intro b1 w1 hS; refine za Qs QP hS ?_; intro vp2 w2 css2 hls2 hv2 hS; have hS := hS.ns; refine zm ?_; refine zn ?_; refine zr ?_; refine zf ?_; rw [Qta (by omega)] at hd; rw [hd] at hls2; rw [Rep.LR.u8 rfl hls2] at hS; exact ⟨_, rfl, hv2, hS.sp⟩)
theorem Qm1 {l : List Int} {v : Value} (hr : ∀ n ∈ l, InI n) (hl : intR.sl cx v l) (hb : (Q1m l).length ≤ 60000000000000) (hS : St cx w L) : Rets Tryz.prog Qdf [v] w fun u w' => oneC u = true ∧ St cx w' (sl 5 1 u ((Q1m l).map QB) :: L) := by
  have hlen := hl.len
  all_goals refine QnB ?_
  all_goals (unfold R_intBytes_lc; refine Q0 ?_; refine Q1 ?_; refine zm ?_; refine zn ?_; refine Q0 ?_; refine Q1 ?_; refine zm ?_; refine zn ?_; refine Q0 ?_; refine Q0 ?_; refine Q1 ?_; refine zm ?_; refine zn ?_; refine Q8 ?_)
  refine zo [0] (fun A ρ' w' => ∃ (j : Nat) (va : Value), Has ρ' A ∧ Has ρ' [(3, va), (4, .int .i64 j)] ∧ (j ≤ l.length) ∧ (oneC va = true) ∧ St cx w' (sl 5 1 va ((Q1m (l.take j)).map QB) :: L)) (fun ρ' _ => (l.length - iv (ρ' 4)).toNat) ?_ ?_
  · exact ⟨0, .slice none 0 0, zh, zh, (by omega), rfl, by have hS := hS.nil (T := 5) (es := 1); exact hS.sp⟩
  rintro ρ w1 ⟨j, va, hA, hρ, hj, hva, hS⟩; obtain ⟨ρ, rfl⟩ := env2 hA hρ
  unfold Qbu
  all_goals (refine Q0 ?_; refine Q0 ?_; refine Q1 ?_; refine zm ?_; refine zm ?_; refine zL ?_; refine Qt rfl rfl ?_; refine zn ?_)
  refine Qm rfl (fun hc => ?_) (fun hc => ?_)
  · skip
    all_goals (refine zsk ?_; refine Q0 ?_; refine Q8 ?_; refine Q1 ?_; refine zm ?_; refine zm ?_; refine zm ?_; refine zi ?_; intro b1 o1 cs1 x1 hat1 hx1 he1; obtain rfl := Q25 he1; (first | (refine zl hS ?_) | (refine zlk hS ?_)); have hal := Qas l (j + 1); rw [Q3q hx1, List.length_append] at hal; refine zR1 (c := Qgy (hr x1 (List.mem_of_getElem? hx1)) hS) (h := ?_); rintro v1 w1 ⟨hv1, hS⟩; refine Qk Qs QP hS vw vw fd fd (Qa (Q1m (l.take j))) (Qa (Qc x1)) (by omega) ?_; intro vp w3 cssp hlsp hvp hS; have hS := hS.ns; rw [Rep.LR.u8 rfl hlsp] at hS; refine zm ?_; refine zn ?_; refine Q1 ?_; refine zm ?_; refine zad ?_; refine zm ?_; refine zn ?_; exact ⟨⟨j + 1, vp, zh, zh, (by omega), by assumption, by rw [Q3q hx1]; exact hS.sp⟩, Qh (by omega)⟩)
  · skip
    all_goals (refine zex ?_; refine Q0 ?_; refine Q1 ?_; refine zm ?_; refine zm ?_; refine zn ?_; refine zr ?_; refine zf ?_; rw [List.take_of_length_le (by omega)] at hS; exact ⟨_, rfl, hva, hS.sp⟩)
theorem Qw {n : Int} {q : Nat} {T : TypeId} (hn : InI n) (hS : St cx w (blk q T [.int .i64 n] :: L)) : Rets Tryz.prog Qdf [.slice (some ⟨q, 0, none⟩) 1 1] w fun u w' => oneC u = true ∧ St cx w' (sl 5 1 u ((Qc n).map QB) :: L) := by
  obtain ⟨c1, hle1, hS, hf9⟩ := St.freeze1 (r := intR) (x := n) hS rfl
  refine (Qm1 (l := [n]) (by simpa using hn) hf9 (by rw [Q32]; have := QE n; omega) hS).mono ?_
  rintro u w' ⟨h1, h2⟩
  rw [Q32] at h2
  exact ⟨h1, St.weak h2 hle1⟩
theorem Q2u {n : Nat} (h : n ≤ 140737488355328) : InI (n : Int) := ⟨by omega, by omega⟩
theorem Q47 {l : List Int} {v : Value} (hr : ∀ n ∈ l, InI n) (hl : intR.sl cx v l) (hb : (Q24 l).length ≤ 60000000000000) (hS : St cx w L) : Rets Tryz.prog QhQ [v] w fun u w' => oneC u = true ∧ St cx w' (sl 5 1 u ((Q24 l).map QB) :: L) := by
  have hlen := hl.len
  unfold Q24 at hb ⊢
  rw [List.length_append] at hb
  all_goals refine QkG ?_
  all_goals (unfold R_listBytes_lc; refine Q0 ?_; refine Q1 ?_; refine zm ?_; refine zn ?_; refine Q0 ?_; refine Q1 ?_; refine zm ?_; refine zL ?_; refine zB1 hS [_] ?_; intro b1 w1 hS; refine zR1 (c := Qw (n := l.length) (Q2u hlen) hS) (h := ?_); rintro v1 w1 ⟨hv1, hS⟩; refine zm ?_; refine zR1 (c := Qm1 hr hl (by omega) hS) (h := ?_); rintro v2 w1 ⟨hv2, hS⟩; refine Qk Qs QP hS vw vw fd fd (Qa (Qc l.length)) (Qa (Q1m l)) (by omega) ?_; intro vp w3 cssp hlsp hvp hS; have hS := hS.ns; rw [Rep.LR.u8 rfl hlsp] at hS; refine zm ?_; refine zn ?_; refine zr ?_; refine zf ?_; exact ⟨_, rfl, by assumption, hS.sp⟩)
theorem Qgj {x : To} {cs : List Value} (hr : x.InR) (hx : toR.at cx cs x) (hb : x.bts.length ≤ 60000000000000) (hS : St cx w L) : Rets Tryz.prog Qqv [.agg ⟨cs⟩] w fun u w' => oneC u = true ∧ St cx w' (sl 5 1 u (x.bts.map QB) :: L) := by
  obtain ⟨vr, va, rfl, h1, h2⟩ := Q2W hx
  obtain ⟨ar, lr, rfl⟩ := Rep.SR.shape h1
  obtain ⟨aa, la, rfl⟩ := Rep.SR.shape h2
  obtain ⟨r1, r2, r3⟩ := hr
  unfold To.bts at hb ⊢
  simp only [List.length_append] at hb
  all_goals refine Qqt ?_
  all_goals (unfold R_toBytes_lc; refine Q0 ?_; refine Q1 ?_; refine zb hS ?_; intro p1 w1 hS; refine zm ?_; refine zn ?_; refine Q0 ?_; refine zC [(0, none), (1, none), (4, none), (5, none), (8, none), (9, none), (2, some (some [5, 9])), (3, some (some [5, 9])), (6, some (some [9])), (7, some (some [9])), (10, some none), (11, some none), (12, some none)] ?_; have hS := hS.drew; refine s_cq ?_; refine Q2 rfl ?_; refine zt ?_; refine s_cq ?_; refine zl hS ?_; refine zt ?_; refine s_cq ?_; refine Q2 rfl ?_; refine zt ?_; refine s_cq ?_; refine zl hS ?_; refine zt ?_; refine s_cq ?_; refine Q2 rfl ?_; refine zt ?_; refine s_cq ?_; refine zl hS ?_; refine zt ?_; refine Ql ?_; refine zB1 hS [_] ?_; intro b1 w1 hS; refine zt ?_; refine zy ?_; refine Ql ?_; refine zR1 (c := Qw (n := x.block) r1 hS) (h := ?_); rintro v1 w1 ⟨hv1, hS⟩; refine zt ?_; refine zy ?_; refine Ql ?_; refine zR1 (c := Q47 r2 h1 (by omega) hS) (h := ?_); rintro v2 w1 ⟨hv2, hS⟩; refine zt ?_; refine zy ?_; refine Ql ?_; refine Qk Qs QP hS vw vw fd fd (Qa (Qc x.block)) (Qa (Q24 x.regs)) (by omega) ?_; intro vp w3 cssp hlsp hvp hS; have hS := hS.ns; rw [Rep.LR.u8 rfl hlsp] at hS)
  all_goals (refine zt ?_; refine zy ?_; refine s_cf ?_; refine zR1 (c := Q47 r3 h2 (by omega) hS) (h := ?_); rintro v3 w1 ⟨hv3, hS⟩; refine zt ?_; refine s_cf ?_; refine Qk Qs QP hS vw vw fd fd (Qa (Qc x.block ++ Q24 x.regs)) (Qa (Q24 x.args)) (by simp only [List.length_append]; omega) ?_; intro vq w3 cssp hlsp hvq hS; have hS := hS.ns; rw [Rep.LR.u8 rfl hlsp] at hS; refine zt ?_; refine s_cf ?_; refine zm ?_; refine zt ?_; refine zcn ?_; refine zr ?_; refine zf ?_; exact ⟨_, rfl, by assumption, hS.sp⟩)
end Go.Proofs.YtanlkfeogoganaaGreat
namespace Go.Proofs.YtanlkfeogoganaaGreat
open Go.Lir
set_option maxHeartbeats 1000000
attribute [local irreducible] LC.wp Q5 QN Q11 retQ Q1T LO.wp Qr Calls
set_option linter.unusedSimpArgs false
set_option linter.unusedVariables false
attribute [local irreducible] bitI IntKind.wrap zig leb Qo Qc Q24 To.bts
variable {cx : Cx} {w : World} {L : List Res}
theorem inR_p {t : Ty} (h : t.InR) : InI t.kind ∧ InI t.r ∧ ∀ x ∈ t.l, x.InR := by cases t; exact h.parts
theorem QdE {l : List Ty} (ih : ∀ x ∈ l, ∀ {cx : Cx} {w : World} {L : List Res} {v2 : Value}, (∀ t ∈ x.l, t.InR) → tyR.sl cx v2 x.l → (tysB x.l).length ≤ 60000000000000 → St cx w L → Rets Tryz.prog Q2g [v2] w fun u w' => oneC u = true ∧ St cx w' (sl 5 1 u ((tysB x.l).map QB) :: L)) {v2 : Value} (hr : ∀ t ∈ l, t.InR) (hl : tyR.sl cx v2 l) (hb : (tysB l).length ≤ 60000000000000) (hS : St cx w L) :
    Rets Tryz.prog Q2g [v2] w fun u w' => oneC u = true ∧ St cx w' (sl 5 1 u ((tysB l).map QB) :: L) := by
  have hlen := hl.len
  unfold tysB at hb ⊢
  rw [List.length_append] at hb
  all_goals refine Qk8 ?_
  all_goals (unfold R_typeBytes_lc; refine Q0 ?_; refine Q1 ?_; refine zm ?_; refine zn ?_; refine Q0 ?_; refine Q1 ?_; refine zm ?_; refine zL ?_; refine zB1 hS [_] ?_; intro b1 w1 hS; refine zR1 (c := Qw (n := l.length) (Q2u hlen) hS) (h := ?_); rintro v1 w1 ⟨hv1, hS⟩; refine zm ?_; refine zn ?_; refine Q0 ?_; refine Q0 ?_; refine Q1 ?_; refine zm ?_; refine zn ?_; refine Q8 ?_)
  refine zo [0] (fun A ρ' w' => ∃ (j : Nat) (va : Value), Has ρ' A ∧ Has ρ' [(3, va), (4, .int .i64 j)] ∧ (j ≤ l.length) ∧ (oneC va = true) ∧ St cx w' (sl 5 1 va ((Qc l.length ++ Tys.bts (l.take j)).map QB) :: L)) (fun ρ' _ => (l.length - iv (ρ' 4)).toNat) ?_ ?_
  · exact ⟨0, v1, zh, zh, (by omega), by assumption, by rw [List.take_zero, show Tys.bts [] = [] from by rw [Tys.bts], List.append_nil]; exact hS.sp⟩
  rintro ρ w1 ⟨j, va, hA, hρ, hj, hva, hS⟩; obtain ⟨ρ, rfl⟩ := env2 hA hρ
  unfold Q8Q
  all_goals (refine Q0 ?_; refine Q0 ?_; refine Q1 ?_; refine zm ?_; refine zm ?_; refine zL ?_; refine Qt rfl rfl ?_; refine zn ?_)
  refine Qm rfl (fun hc => ?_) (fun hc => ?_)
  · skip
    all_goals (refine zsk ?_; refine Q0 ?_; refine Q8 ?_; refine Q0 ?_; refine Q1 ?_; refine zm ?_; refine zm ?_; refine zm ?_; refine s_idxL vw rfl hl rfl (by omega) (by omega) ?_; rw [Int.toNat_natCast]; intro b1 o1 cs1 x1 hat1 hx1 he1; obtain ⟨vl1, rfl, hl1⟩ := QX he1; have hroom := Tys.bts_room hx1; have hbm := congrArg List.length (Ty.bts_mk x1); obtain ⟨acc, hacc⟩ : ∃ acc, Qc l.length ++ Tys.bts (l.take j) = acc := ⟨_, rfl⟩; have hal := congrArg List.length hacc; rw [hacc] at hS; simp only [List.length_append] at hal hbm; obtain ⟨q1, q2, q3⟩ := inR_p (hr x1 (List.mem_of_getElem? hx1)); (first | refine Q2 rfl ?_ | refine Q1r rfl ?_); (first | (refine zl hS ?_) | (refine zlk hS ?_)); refine zB1 hS [_] ?_; intro b1 w1 hS; refine zR1 (c := Qw (n := x1.kind) q1 hS) (h := ?_); rintro v4 w1 ⟨hv4, hS⟩; refine Qk Qs QP hS vw vw fd fd (Qa (acc)) (Qa (Qc x1.kind)) (by omega) ?_; intro vp w3 cssp hlsp hvp hS; have hS := hS.ns; rw [Rep.LR.u8 rfl hlsp] at hS; refine zm ?_; refine zn ?_)
    refine zM [0, 4] (fun A ρ' w' => ∃ (vc : Value), Has ρ' A ∧ Has ρ' [(3, vc)] ∧ (oneC vc = true) ∧ St cx w' (sl 5 1 vc ((acc ++ Qc x1.kind ++ (if x1.kind ≠ 1 then Qc x1.r else [])).map QB) :: L)) ?_ ?_
    · skip
      all_goals (refine Q0 ?_; refine Q1 ?_; refine zm ?_; refine zm ?_; refine Q44 vw rfl hl rfl (by omega) ?_; intro b5 o5 cs5 x5 hat5 hx5 he5; obtain rfl : x1 = x5 := Option.some.inj (hx1.symm.trans hx5); obtain ⟨vl5, rfl, hl5⟩ := QX he5; (first | refine Q2 rfl ?_ | refine Q1r rfl ?_); (first | (refine zl hS ?_) | (refine zlk hS ?_)))
      all_goals (first | (refine Q1c ?_) | (refine Q1d ?_) | (refine Qp rfl rfl (fun hc => ?_) (fun hc => ?_)))
      all_goals (refine zn ?_)
      all_goals
        first
        | (refine Q3 rfl ?_ -- Q2g c1
           all_goals (refine Q1 ?_; refine zm ?_; refine zm ?_; refine zm ?_; rw [if_pos (show x1.kind ≠ 1 by omega)] at hbm; refine Q44 vw rfl hl rfl (by omega) ?_; intro b6 o6 cs6 x6 hat6 hx6 he6; obtain rfl : x1 = x6 := Option.some.inj (hx1.symm.trans hx6); obtain ⟨vl6, rfl, hl6⟩ := QX he6; (first | refine Q2 rfl ?_ | refine Q1r rfl ?_); (first | (refine zl hS ?_) | (refine zlk hS ?_) | (refine zlj hS ?_)); refine zB1 hS [_] ?_; intro b1 w1 hS; refine zR1 (c := Qw (n := x1.r) q2 hS) (h := ?_); rintro v5 w1 ⟨hv5, hS⟩; refine Qk Qs QP hS vw vw fd fd (Qa (acc ++ Qc x1.kind)) (Qa (Qc x1.r)) (by simp only [List.length_append]; omega) ?_; intro vp w3 cssp hlsp hvp hS; have hS := hS.ns; rw [Rep.LR.u8 rfl hlsp] at hS; refine zm ?_)
           all_goals refine zn ?_)
        | (refine Q4 rfl ?_ -- Q2g c1
           all_goals refine zsk ?_)
      all_goals ((first | (exact ⟨_, zh, zh, by assumption, by rw [if_pos (show x1.kind ≠ 1 by omega)]; exact hS.sp⟩) | (exact ⟨_, zh, zh, by assumption, by rw [if_neg (show ¬ x1.kind ≠ 1 by omega), List.append_nil]; exact hS.sp⟩)))
    rintro ρ w1 ⟨vc, hA, hρ, hvc, hS⟩; obtain ⟨ρ, rfl⟩ := env2 hA hρ
    all_goals (refine Q0 ?_; refine Q1 ?_; refine zm ?_; refine zm ?_; refine Q44 vw rfl hl rfl (by omega) ?_; intro b7 o7 cs7 x7 hat7 hx7 he7; obtain rfl : x1 = x7 := Option.some.inj (hx1.symm.trans hx7); obtain ⟨vl7, rfl, hl7⟩ := QX he7; (first | refine Q2 rfl ?_ | refine Q1r rfl ?_); (first | (refine zl hS ?_) | (refine zlk hS ?_)))
    all_goals (first | (refine Qy ?_) | (refine QC ?_) | (refine Qn rfl rfl (fun hc => ?_) (fun hc => ?_)))
    all_goals (refine zn ?_)
    all_goals
      first
      | (refine Q4 rfl ?_ -- Q2g c2
         all_goals refine zsk ?_)
      | (refine Q3 rfl ?_ -- Q2g c2
         all_goals (refine Q1 ?_; refine zm ?_; refine zm ?_; refine zm ?_; rw [if_pos (show x1.kind = 3 by omega)] at hbm; refine Q44 vw rfl hl rfl (by omega) ?_; intro b8 o8 cs8 x8 hat8 hx8 he8; obtain rfl : x1 = x8 := Option.some.inj (hx1.symm.trans hx8); obtain ⟨vl8, rfl, hl8⟩ := QX he8; (first | refine Q2 rfl ?_ | refine Q1r rfl ?_); (first | (refine zl hS ?_) | (refine zlk hS ?_) | (refine zlj hS ?_)); refine zR1 (c := ih x1 (List.mem_of_getElem? hx1) q3 hl8 (by omega) hS) (h := ?_); rintro v6 w1 ⟨hv6, hS⟩; refine Qk Qs QP hS vw vw fd fd (Qa (acc ++ Qc x1.kind ++ (if x1.kind ≠ 1 then Qc x1.r else []))) (Qa (tysB x1.l)) (by simp only [List.length_append]; omega) ?_; intro vp w3 cssp hlsp hvp hS; have hS := hS.ns; rw [Rep.LR.u8 rfl hlsp] at hS; refine zm ?_)
         all_goals refine zn ?_)
    all_goals (refine Q1 ?_; refine zm ?_; refine zad ?_; refine zm ?_; refine zn ?_; (first | (exact ⟨⟨j + 1, _, zh, zh, (by omega), by assumption, by rw [Tys.bts_snoc hx1, ← List.append_assoc, hacc, Ty.bts_mk, if_pos (show x1.kind = 3 by omega), ← List.append_assoc, ← List.append_assoc]; exact hS.sp⟩, Qh (by omega)⟩) | (exact ⟨⟨j + 1, _, zh, zh, (by omega), by assumption, by rw [Tys.bts_snoc hx1, ← List.append_assoc, hacc, Ty.bts_mk, if_neg (show ¬ x1.kind = 3 by omega), List.append_nil, ← List.append_assoc]; exact hS.sp⟩, Qh (by omega)⟩)))
  · skip
    all_goals (refine zex ?_; refine Q0 ?_; refine Q1 ?_; refine zm ?_; refine zm ?_; refine zn ?_; refine zr ?_; refine zf ?_; rw [List.take_of_length_le (by omega)] at hS; exact ⟨_, rfl, hva, hS.sp⟩)
theorem QrJ : ∀ (x : Ty), ∀ {cx : Cx} {w : World} {L : List Res} {v2 : Value}, (∀ t ∈ x.l, t.InR) → tyR.sl cx v2 x.l → (tysB x.l).length ≤ 60000000000000 → St cx w L → Rets Tryz.prog Q2g [v2] w fun u w' => oneC u = true ∧ St cx w' (sl 5 1 u ((tysB x.l).map QB) :: L) := by
  intro t
  induction t using Ty.ind with
  | h k r l ih => intro cx w L v2 hr hl hb hS; exact QdE (fun x hx => ih x hx) hr hl hb hS
theorem QG {l : List Ty} {v2 : Value} (hr : ∀ t ∈ l, t.InR) (hl : tyR.sl cx v2 l) (hb : (tysB l).length ≤ 60000000000000) (hS : St cx w L) : Rets Tryz.prog Q2g [v2] w fun u w' => oneC u = true ∧ St cx w' (sl 5 1 u ((tysB l).map QB) :: L) := QdE (fun x _ => QrJ x) hr hl hb hS
theorem Qs3 {x : Ins} {A : List UInt8} (h : A = Qc x.op ++ (if fA x.op = true then Qc x.a else []) ++ (if fB x.op = true then Qc x.b else []) ++ (if fC x.op = true then Qc x.c else []) ++ (if fK x.op = true then Qc x.k else []) ++ (if fN x.op = true then Qc x.n else []) ++ (if fG x.op = true then Q24 x.regs else []) ++ (if fR x.op = true then Q24 x.args else [])) : A = x.bts := by
  subst h
  obtain ⟨e0, e1, e2, e3, e4, e5, e6⟩ := QgE x.op
  simp only [e0, e1, e2, e3, e4, e5, e6, decide_eq_true_eq]
  unfold Ins.bts
  simp only [Qag, List.append_assoc, List.append_nil, Nat.zero_add, Nat.reduceAdd, List.nil_append]
theorem QtF {x : Ins} {cs : List Value} (hr : x.InR) (hx : insR.at cx cs x) (hb : (Qc x.op).length + (Qc x.a).length + (Qc x.b).length + (Qc x.c).length + (Qc x.k).length + (Qc x.n).length + (Q24 x.regs).length + (Q24 x.args).length ≤ 60000000000000) (hS : St cx w L) : Rets Tryz.prog Q1i [.agg ⟨cs⟩] w fun u w' => oneC u = true ∧ St cx w' (sl 5 1 u (x.bts.map QB) :: L) := by
  obtain ⟨vr, va, rfl, h1, h2⟩ := Q22 hx
  obtain ⟨ar, lr, rfl⟩ := Rep.SR.shape h1
  obtain ⟨aa, la, rfl⟩ := Rep.SR.shape h2
  obtain ⟨⟨ro, ra, rb, rc, rk, rn⟩, r2, r3⟩ := hr
  all_goals refine QnM ?_
  all_goals (unfold R_insBytes_lc; refine Q0 ?_; refine Q1 ?_; refine zb hS ?_; intro p1 w1 hS; refine zm ?_; refine zn ?_; refine Q0 ?_; refine Q1 ?_; refine Q2 rfl ?_; refine zl hS ?_; refine zB1 hS [_] ?_; intro b1 w1 hS; refine zR1 (c := Qw (n := x.op) ro hS) (h := ?_); rintro v1 w1 ⟨hv1, hS⟩; refine zm ?_; refine zn ?_; refine Q0 ?_; refine Q1 ?_; refine Q2 rfl ?_; refine zl hS ?_; refine zR1 (c := QmF hS) (h := ?_); rintro v2 w1 ⟨rfl, hS⟩; refine zm ?_; refine Q4N rfl rfl ?_; refine Q4N rfl rfl ?_; refine Qb hS ?_; intro p4 w1 hS; refine zsn hS ?_; intro w1 hS; have hS := hS.ns; refine zm ?_; refine zn ?_)
  refine zM [1, 4] (fun A ρ' w' => ∃ (vb : Value) (A1 : List UInt8), Has ρ' A ∧ Has ρ' [(3, vb)] ∧ (oneC vb = true) ∧ (A1 = Qc x.op ++ (if fA x.op = true then Qc x.a else [])) ∧ St cx w' (sl 5 1 vb (A1.map QB) :: blk p4 144 [.bool (fA x.op), .bool (fB x.op), .bool (fC x.op), .bool (fK x.op), .bool (fN x.op), .bool (fG x.op), .bool (fR x.op)] :: blk p1 57 [.int .i64 x.op, .int .i64 x.a, .int .i64 x.b, .int .i64 x.c, .int .i64 x.k, .int .i64 x.n, .slice ar x.regs.length lr, .slice aa x.args.length la] :: L)) ?_ ?_
  · skip
    all_goals (refine Q0 ?_; refine Q1 ?_; refine Q2 rfl ?_; refine zl hS ?_; refine zn ?_)
    all_goals (cases hq0 : fA x.op <;> rw [hq0] at hS)
    all_goals
      first
      | (refine Q4 rfl ?_ -- Q1i c0
         all_goals refine zsk ?_)
      | (refine Q3 rfl ?_ -- Q1i c0
         all_goals (refine Q1 ?_; refine zm ?_; refine Q2 rfl ?_; refine zl hS ?_; refine zB1 hS [_] ?_; intro b1 w1 hS; refine zR1 (c := Qw (n := x.a) ra hS) (h := ?_); rintro v4 w1 ⟨hv4, hS⟩; refine Qk Qs QP hS vw vw fd fd (Qa (Qc x.op)) (Qa (Qc x.a)) (by omega) ?_; intro vp w3 cssp hlsp hvp hS; have hS := hS.ns; rw [Rep.LR.u8 rfl hlsp] at hS; refine zm ?_)
         all_goals refine zn ?_)
    all_goals ((first | (exact ⟨_, Qc x.op ++ Qc x.a, zh, zh, by assumption, (by rw [if_pos rfl]), hS.sp⟩) | (exact ⟨_, Qc x.op, zh, zh, by assumption, by rw [if_neg Bool.false_ne_true, List.append_nil], hS.sp⟩)))
  rintro ρ w1 ⟨vb, A1, hA, hρ, hvb, hA1, hS⟩; obtain ⟨ρ, rfl⟩ := env2 hA hρ; have hl1 := congrArg List.length hA1; simp only [List.length_append] at hl1; have hm1 : (if fA x.op = true then Qc x.a else []).length ≤ (Qc x.a).length := (by split <;> simp)
  refine zM [1, 4] (fun A ρ' w' => ∃ (vb : Value) (A2 : List UInt8), Has ρ' A ∧ Has ρ' [(3, vb)] ∧ (oneC vb = true) ∧ (A2 = A1 ++ (if fB x.op = true then Qc x.b else [])) ∧ St cx w' (sl 5 1 vb (A2.map QB) :: blk p4 144 [.bool (fA x.op), .bool (fB x.op), .bool (fC x.op), .bool (fK x.op), .bool (fN x.op), .bool (fG x.op), .bool (fR x.op)] :: blk p1 57 [.int .i64 x.op, .int .i64 x.a, .int .i64 x.b, .int .i64 x.c, .int .i64 x.k, .int .i64 x.n, .slice ar x.regs.length lr, .slice aa x.args.length la] :: L)) ?_ ?_
  · skip
    all_goals (refine Q0 ?_; refine Q1 ?_; refine Q2 rfl ?_; refine zl hS ?_; refine zn ?_)
    all_goals (cases hq1 : fB x.op <;> rw [hq1] at hS)
    all_goals
      first
      | (refine Q4 rfl ?_ -- Q1i c1
         all_goals refine zsk ?_)
      | (refine Q3 rfl ?_ -- Q1i c1
         all_goals (refine Q1 ?_; refine zm ?_; refine Q2 rfl ?_; refine zl hS ?_; refine zB1 hS [_] ?_; intro b1 w1 hS; refine zR1 (c := Qw (n := x.b) rb hS) (h := ?_); rintro v4 w1 ⟨hv4, hS⟩; refine Qk Qs QP hS vw vw fd fd (Qa (A1)) (Qa (Qc x.b)) (by omega) ?_; intro vp w3 cssp hlsp hvp hS; have hS := hS.ns; rw [Rep.LR.u8 rfl hlsp] at hS; refine zm ?_)
         all_goals refine zn ?_)
    all_goals ((first | (exact ⟨_, A1 ++ Qc x.b, zh, zh, by assumption, (by rw [if_pos rfl]), hS.sp⟩) | (exact ⟨_, A1, zh, zh, by assumption, by rw [if_neg Bool.false_ne_true, List.append_nil], hS.sp⟩)))
  rintro ρ w1 ⟨vb, A2, hA, hρ, hvb, hA2, hS⟩; obtain ⟨ρ, rfl⟩ := env2 hA hρ; have hl2 := congrArg List.length hA2; simp only [List.length_append] at hl2; have hm2 : (if fB x.op = true then Qc x.b else []).length ≤ (Qc x.b).length := (by split <;> simp)
  refine zM [1, 4] (fun A ρ' w' => ∃ (vb : Value) (A3 : List UInt8), Has ρ' A ∧ Has ρ' [(3, vb)] ∧ (oneC vb = true) ∧ (A3 = A2 ++ (if fC x.op = true then Qc x.c else [])) ∧ St cx w' (sl 5 1 vb (A3.map QB) :: blk p4 144 [.bool (fA x.op), .bool (fB x.op), .bool (fC x.op), .bool (fK x.op), .bool (fN x.op), .bool (fG x.op), .bool (fR x.op)] :: blk p1 57 [.int .i64 x.op, .int .i64 x.a, .int .i64 x.b, .int .i64 x.c, .int .i64 x.k, .int .i64 x.n, .slice ar x.regs.length lr, .slice aa x.args.length la] :: L)) ?_ ?_
  · skip
    all_goals (refine Q0 ?_; refine Q1 ?_; refine Q2 rfl ?_; refine zl hS ?_; refine zn ?_)
    all_goals (cases hq2 : fC x.op <;> rw [hq2] at hS)
    all_goals
      first
      | (refine Q4 rfl ?_ -- Q1i c2
         all_goals refine zsk ?_)
      | (refine Q3 rfl ?_ -- Q1i c2
         all_goals (refine Q1 ?_; refine zm ?_; refine Q2 rfl ?_; refine zl hS ?_; refine zB1 hS [_] ?_; intro b1 w1 hS; refine zR1 (c := Qw (n := x.c) rc hS) (h := ?_); rintro v4 w1 ⟨hv4, hS⟩; refine Qk Qs QP hS vw vw fd fd (Qa (A2)) (Qa (Qc x.c)) (by omega) ?_; intro vp w3 cssp hlsp hvp hS; have hS := hS.ns; rw [Rep.LR.u8 rfl hlsp] at hS; refine zm ?_)
         all_goals refine zn ?_)
    all_goals ((first | (exact ⟨_, A2 ++ Qc x.c, zh, zh, by assumption, (by rw [if_pos rfl]), hS.sp⟩) | (exact ⟨_, A2, zh, zh, by assumption, by rw [if_neg Bool.false_ne_true, List.append_nil], hS.sp⟩)))
  rintro ρ w1 ⟨vb, A3, hA, hρ, hvb, hA3, hS⟩; obtain ⟨ρ, rfl⟩ := env2 hA hρ; have hl3 := congrArg List.length hA3; simp only [List.length_append] at hl3; have hm3 : (if fC x.op = true then Qc x.c else []).length ≤ (Qc x.c).length := (by split <;> simp)
  refine zM [1, 4] (fun A ρ' w' => ∃ (vb : Value) (A4 : List UInt8), Has ρ' A ∧ Has ρ' [(3, vb)] ∧ (oneC vb = true) ∧ (A4 = A3 ++ (if fK x.op = true then Qc x.k else [])) ∧ St cx w' (sl 5 1 vb (A4.map QB) :: blk p4 144 [.bool (fA x.op), .bool (fB x.op), .bool (fC x.op), .bool (fK x.op), .bool (fN x.op), .bool (fG x.op), .bool (fR x.op)] :: blk p1 57 [.int .i64 x.op, .int .i64 x.a, .int .i64 x.b, .int .i64 x.c, .int .i64 x.k, .int .i64 x.n, .slice ar x.regs.length lr, .slice aa x.args.length la] :: L)) ?_ ?_
  · skip
    all_goals (refine Q0 ?_; refine Q1 ?_; refine Q2 rfl ?_; refine zl hS ?_; refine zn ?_)
    all_goals (cases hq3 : fK x.op <;> rw [hq3] at hS)
    all_goals
      first
      | (refine Q4 rfl ?_ -- Q1i c3
         all_goals refine zsk ?_)
      | (refine Q3 rfl ?_ -- Q1i c3
         all_goals (refine Q1 ?_; refine zm ?_; refine Q2 rfl ?_; refine zl hS ?_; refine zB1 hS [_] ?_; intro b1 w1 hS; refine zR1 (c := Qw (n := x.k) rk hS) (h := ?_); rintro v4 w1 ⟨hv4, hS⟩; refine Qk Qs QP hS vw vw fd fd (Qa (A3)) (Qa (Qc x.k)) (by omega) ?_; intro vp w3 cssp hlsp hvp hS; have hS := hS.ns; rw [Rep.LR.u8 rfl hlsp] at hS; refine zm ?_)
         all_goals refine zn ?_)
    all_goals ((first | (exact ⟨_, A3 ++ Qc x.k, zh, zh, by assumption, (by rw [if_pos rfl]), hS.sp⟩) | (exact ⟨_, A3, zh, zh, by assumption, by rw [if_neg Bool.false_ne_true, List.append_nil], hS.sp⟩)))
  rintro ρ w1 ⟨vb, A4, hA, hρ, hvb, hA4, hS⟩; obtain ⟨ρ, rfl⟩ := env2 hA hρ; have hl4 := congrArg List.length hA4; simp only [List.length_append] at hl4; have hm4 : (if fK x.op = true then Qc x.k else []).length ≤ (Qc x.k).length := (by split <;> simp)
  refine zM [1, 4] (fun A ρ' w' => ∃ (vb : Value) (A5 : List UInt8), Has ρ' A ∧ Has ρ' [(3, vb)] ∧ (oneC vb = true) ∧ (A5 = A4 ++ (if fN x.op = true then Qc x.n else [])) ∧ St cx w' (sl 5 1 vb (A5.map QB) :: blk p4 144 [.bool (fA x.op), .bool (fB x.op), .bool (fC x.op), .bool (fK x.op), .bool (fN x.op), .bool (fG x.op), .bool (fR x.op)] :: blk p1 57 [.int .i64 x.op, .int .i64 x.a, .int .i64 x.b, .int .i64 x.c, .int .i64 x.k, .int .i64 x.n, .slice ar x.regs.length lr, .slice aa x.args.length la] :: L)) ?_ ?_
  · skip
    all_goals (refine Q0 ?_; refine Q1 ?_; refine Q2 rfl ?_; refine zl hS ?_; refine zn ?_)
    all_goals (cases hq4 : fN x.op <;> rw [hq4] at hS)
    all_goals
      first
      | (refine Q4 rfl ?_ -- Q1i c4
         all_goals refine zsk ?_)
      | (refine Q3 rfl ?_ -- Q1i c4
         all_goals (refine Q1 ?_; refine zm ?_; refine Q2 rfl ?_; refine zl hS ?_; refine zR1 (c := Qgy (n := x.n) rn hS) (h := ?_); rintro v4 w1 ⟨hv4, hS⟩; refine Qk Qs QP hS vw vw fd fd (Qa (A4)) (Qa (Qc x.n)) (by omega) ?_; intro vp w3 cssp hlsp hvp hS; have hS := hS.ns; rw [Rep.LR.u8 rfl hlsp] at hS; refine zm ?_)
         all_goals refine zn ?_)
    all_goals ((first | (exact ⟨_, A4 ++ Qc x.n, zh, zh, by assumption, (by rw [if_pos rfl]), hS.sp⟩) | (exact ⟨_, A4, zh, zh, by assumption, by rw [if_neg Bool.false_ne_true, List.append_nil], hS.sp⟩)))
  rintro ρ w1 ⟨vb, A5, hA, hρ, hvb, hA5, hS⟩; obtain ⟨ρ, rfl⟩ := env2 hA hρ; have hl5 := congrArg List.length hA5; simp only [List.length_append] at hl5; have hm5 : (if fN x.op = true then Qc x.n else []).length ≤ (Qc x.n).length := (by split <;> simp)
  refine zM [1, 4] (fun A ρ' w' => ∃ (vb : Value) (A6 : List UInt8), Has ρ' A ∧ Has ρ' [(3, vb)] ∧ (oneC vb = true) ∧ (A6 = A5 ++ (if fG x.op = true then Q24 x.regs else [])) ∧ St cx w' (sl 5 1 vb (A6.map QB) :: blk p4 144 [.bool (fA x.op), .bool (fB x.op), .bool (fC x.op), .bool (fK x.op), .bool (fN x.op), .bool (fG x.op), .bool (fR x.op)] :: blk p1 57 [.int .i64 x.op, .int .i64 x.a, .int .i64 x.b, .int .i64 x.c, .int .i64 x.k, .int .i64 x.n, .slice ar x.regs.length lr, .slice aa x.args.length la] :: L)) ?_ ?_
  · skip
    all_goals (refine Q0 ?_; refine Q1 ?_; refine Q2 rfl ?_; refine zl hS ?_; refine zn ?_)
    all_goals (cases hq5 : fG x.op <;> rw [hq5] at hS)
    all_goals
      first
      | (refine Q4 rfl ?_ -- Q1i c5
         all_goals refine zsk ?_)
      | (refine Q3 rfl ?_ -- Q1i c5
         all_goals (refine Q1 ?_; refine zm ?_; refine Q2 rfl ?_; refine zl hS ?_; refine zR1 (c := Q47 r2 h1 (by omega) hS) (h := ?_); rintro v4 w1 ⟨hv4, hS⟩; refine Qk Qs QP hS vw vw fd fd (Qa (A5)) (Qa (Q24 x.regs)) (by omega) ?_; intro vp w3 cssp hlsp hvp hS; have hS := hS.ns; rw [Rep.LR.u8 rfl hlsp] at hS; refine zm ?_)
         all_goals refine zn ?_)
    all_goals ((first | (exact ⟨_, A5 ++ Q24 x.regs, zh, zh, by assumption, (by rw [if_pos rfl]), hS.sp⟩) | (exact ⟨_, A5, zh, zh, by assumption, by rw [if_neg Bool.false_ne_true, List.append_nil], hS.sp⟩)))
  rintro ρ w1 ⟨vb, A6, hA, hρ, hvb, hA6, hS⟩; obtain ⟨ρ, rfl⟩ := env2 hA hρ; have hl6 := congrArg List.length hA6; simp only [List.length_append] at hl6; have hm6 : (if fG x.op = true then Q24 x.regs else []).length ≤ (Q24 x.regs).length := (by split <;> simp)
  refine zM [] (fun A ρ' w' => ∃ (vb : Value) (A7 : List UInt8), Has ρ' A ∧ Has ρ' [(3, vb)] ∧ (oneC vb = true) ∧ (A7 = A6 ++ (if fR x.op = true then Q24 x.args else [])) ∧ St cx w' (sl 5 1 vb (A7.map QB) :: blk p4 144 [.bool (fA x.op), .bool (fB x.op), .bool (fC x.op), .bool (fK x.op), .bool (fN x.op), .bool (fG x.op), .bool (fR x.op)] :: blk p1 57 [.int .i64 x.op, .int .i64 x.a, .int .i64 x.b, .int .i64 x.c, .int .i64 x.k, .int .i64 x.n, .slice ar x.regs.length lr, .slice aa x.args.length la] :: L)) ?_ ?_
  · skip
    all_goals (refine Q0 ?_; refine Q1 ?_; refine Q2 rfl ?_; refine zl hS ?_; refine zn ?_)
    all_goals (cases hq6 : fR x.op <;> rw [hq6] at hS)
    all_goals
      first
      | (refine Q4 rfl ?_ -- Q1i c6
         all_goals refine zsk ?_)
      | (refine Q3 rfl ?_ -- Q1i c6
         all_goals (refine Q1 ?_; refine zm ?_; refine Q2 rfl ?_; refine zl hS ?_; refine zR1 (c := Q47 r3 h2 (by omega) hS) (h := ?_); rintro v4 w1 ⟨hv4, hS⟩; refine Qk Qs QP hS vw vw fd fd (Qa (A6)) (Qa (Q24 x.args)) (by omega) ?_; intro vp w3 cssp hlsp hvp hS; have hS := hS.ns; rw [Rep.LR.u8 rfl hlsp] at hS; refine zm ?_)
         all_goals refine zn ?_)
    all_goals ((first | (exact ⟨_, A6 ++ Q24 x.args, zh, zh, by assumption, (by rw [if_pos rfl]), hS.sp⟩) | (exact ⟨_, A6, zh, zh, by assumption, by rw [if_neg Bool.false_ne_true, List.append_nil], hS.sp⟩)))
  rintro ρ w1 ⟨vb, A7, hA, hρ, hvb, hA7, hS⟩; obtain ⟨ρ, rfl⟩ := env2 hA hρ; have hl7 := congrArg List.length hA7; simp only [List.length_append] at hl7; have hm7 : (if fR x.op = true then Q24 x.args else []).length ≤ (Q24 x.args).length := (by split <;> simp)
  all_goals (refine Q0 ?_; refine Q1 ?_; refine zm ?_; refine zm ?_; refine zn ?_; refine zr ?_; refine zf ?_; have e9 := Qs3 (x := x) (A := A7) (by rw [hA7, hA6, hA5, hA4, hA3, hA2, hA1]); rw [e9] at hS; exact ⟨_, rfl, hvb, hS.sp⟩)
end Go.Proofs.YtanlkfeogoganaaGreat
namespace Go.Proofs.YtanlkfeogoganaaGreat
open Go.Lir
set_option maxHeartbeats 1000000
attribute [local irreducible] LC.wp Q5 QN Q11 retQ Q1T LO.wp Qr Calls
set_option linter.unusedSimpArgs false
set_option linter.unusedVariables false
attribute [local irreducible] orF mkF orC Q2t Q2M Q2N Q2Z QA Qx QH Q3m Q3t QjL Qhl
variable {cx : Cx} {w : World} {L : List Res} {i : Nat}
theorem fault_if (c : Int) : (if decide (c ≠ 0) = true then c else 0) = c := by by_cases h : c = 0 <;> simp [h]
theorem rto_c {x : Fun} {t : To} {is : Bool} {cs ds : List Value} (hx : funcR.at cx cs x) (ht : toR.at cx ds t) (hS : St cx w L) :
    Rets Tryz.prog Q4r [.agg ⟨cs⟩, .agg ⟨ds⟩, .bool is] w fun u w' => u = .int .i64 (Q2N x.blocks.length t is) ∧ St cx w' L := by
  obtain ⟨vp, vr, vb, rfl, hp, hr, hb⟩ := Q1t hx
  obtain ⟨v1, v2, rfl, h1, h2⟩ := Q2W ht
  have hlb := hb.len
  have hb1 := h1.len
  have hb2 := h2.len
  unfold Q2N
  cases is with
  | false =>
    all_goals refine Qhv ?_
    all_goals (unfold R_toForm_lc; refine Q0 ?_; refine Q1 ?_; refine zb hS ?_; intro p3 w1 hS; refine zb hS ?_; intro p4 w1 hS; refine zm ?_; refine zn ?_; refine Q0 ?_; refine Q0 ?_; refine Q1 ?_; refine zm ?_; refine Q2b rfl ?_; refine zn ?_)
    all_goals refine Q3 rfl ?_
    all_goals (refine Q0 ?_; refine Q0 ?_; refine Q1 ?_; refine Q2 rfl ?_; refine zl hS ?_)
    all_goals (first | (refine Q1c ?_) | (refine Q1d ?_) | (refine Qp rfl rfl (fun hc => ?_) (fun hc => ?_)))
    all_goals (refine zm ?_; (first | refine s_gn rfl rfl ?_ | (refine s_gy rfl ?_; refine Q2 rfl ?_)); (first | refine s_gn rfl rfl ?_ | (refine s_gy rfl ?_; refine zl hS ?_)); (first | refine s_gn rfl rfl ?_ | (refine s_gy rfl ?_; refine zL ?_)); (first | refine s_gn rfl rfl ?_ | (refine s_gy rfl ?_; refine Q2 rfl ?_)); (first | refine s_gn rfl rfl ?_ | (refine s_gy rfl ?_; refine zl hS ?_)); (first | refine s_gn rfl rfl ?_ | (refine s_gy rfl ?_; refine zL ?_)); (first | refine s_gn rfl rfl ?_ | (refine s_gy rfl ?_; refine zad ?_)))
    all_goals (first | refine s_gn rfl rfl ?_ | (refine s_gy rfl ?_; (first | (refine QK ?_) | (refine QM ?_) | (refine Qi rfl rfl (fun hc => ?_) (fun hc => ?_)))))
    all_goals ((first | (refine zpt ?_) | (refine zpf ?_)); refine zn ?_)
    all_goals
      first
      | (refine Q3 rfl ?_ -- Q4r c1
         all_goals (refine Q0 ?_; refine Q1 ?_; refine zm ?_; refine zn ?_; refine zr ?_; refine zf ?_)
         all_goals (refine ⟨_, rfl, ?_, hS.sp⟩; (rw [if_pos rfl]; first | rw [if_pos (by omega)] | rw [if_neg (by omega)]); done))
      | (refine Q4 rfl ?_ -- Q4r c1
         all_goals refine zsk ?_)
    all_goals (refine Q0 ?_; refine Q1 ?_; refine zm ?_; refine zn ?_; refine zr ?_; refine zf ?_; refine ⟨_, rfl, ?_, hS.sp⟩; (rw [if_pos rfl]; first | rw [if_pos (by omega)] | rw [if_neg (by omega)]); done)
  | true =>
    all_goals refine Qhv ?_
    all_goals (unfold R_toForm_lc; refine Q0 ?_; refine Q1 ?_; refine zb hS ?_; intro p3 w1 hS; refine zb hS ?_; intro p4 w1 hS; refine zm ?_; refine zn ?_; refine Q0 ?_; refine Q0 ?_; refine Q1 ?_; refine zm ?_; refine Q2b rfl ?_; refine zn ?_)
    all_goals refine Q4 rfl ?_
    all_goals (refine zsk ?_; refine Q0 ?_; refine Q0 ?_; refine Q1 ?_; refine Q2 rfl ?_; refine zl hS ?_)
    all_goals (first | (refine Q1Q ?_) | (refine Q1R ?_) | (refine QD rfl rfl (fun hc => ?_) (fun hc => ?_)))
    all_goals (refine zm ?_; (first | refine s_gn rfl rfl ?_ | (refine s_gy rfl ?_; refine Q2 rfl ?_)); (first | refine s_gn rfl rfl ?_ | (refine s_gy rfl ?_; refine zl hS ?_)); (first | refine s_gn rfl rfl ?_ | (refine s_gy rfl ?_; refine Q2 rfl ?_)); (first | refine s_gn rfl rfl ?_ | (refine s_gy rfl ?_; refine zl hS ?_)); (first | refine s_gn rfl rfl ?_ | (refine s_gy rfl ?_; refine zL ?_)))
    all_goals (first | refine s_gn rfl rfl ?_ | (refine s_gy rfl ?_; (first | (refine QdO ?_) | (refine QdP ?_) | (refine Q3G rfl rfl (fun hc => ?_) (fun hc => ?_)))))
    all_goals ((first | (refine zpt ?_) | (refine zpf ?_)); refine zn ?_)
    all_goals
      first
      | (refine Q3 rfl ?_ -- Q4r c2
         all_goals (refine Q0 ?_; refine Q1 ?_; refine zm ?_; refine zn ?_; refine zr ?_; refine zf ?_)
         all_goals (refine ⟨_, rfl, ?_, hS.sp⟩; rw [if_neg Bool.noConfusion]; (repeat (first | rw [if_pos (by omega)] | rw [if_neg (by omega)])); done))
      | (refine Q4 rfl ?_ -- Q4r c2
         all_goals refine zsk ?_)
    all_goals (refine Q0 ?_; refine Q0 ?_; refine Q1 ?_; refine Q2 rfl ?_; refine zl hS ?_; refine zL ?_)
    all_goals (first | (refine QK ?_) | (refine QM ?_) | (refine Qi rfl rfl (fun hc => ?_) (fun hc => ?_)))
    all_goals (refine zm ?_; (first | refine s_gn rfl rfl ?_ | (refine s_gy rfl ?_; refine Q2 rfl ?_)); (first | refine s_gn rfl rfl ?_ | (refine s_gy rfl ?_; refine zl hS ?_)); (first | refine s_gn rfl rfl ?_ | (refine s_gy rfl ?_; refine zL ?_)))
    all_goals (first | refine s_gn rfl rfl ?_ | (refine s_gy rfl ?_; (first | (refine QK ?_) | (refine QM ?_) | (refine Qi rfl rfl (fun hc => ?_) (fun hc => ?_)))))
    all_goals ((first | (refine zpt ?_) | (refine zpf ?_)); refine zn ?_)
    all_goals
      first
      | (refine Q3 rfl ?_ -- Q4r c3
         all_goals (refine Q0 ?_; refine Q1 ?_; refine zm ?_; refine zn ?_; refine zr ?_; refine zf ?_)
         all_goals (refine ⟨_, rfl, ?_, hS.sp⟩; rw [if_neg Bool.noConfusion]; (repeat (first | rw [if_pos (by omega)] | rw [if_neg (by omega)])); done))
      | (refine Q4 rfl ?_ -- Q4r c3
         all_goals refine zsk ?_)
    all_goals (refine Q0 ?_; refine Q1 ?_; refine zm ?_; refine zn ?_; refine zr ?_; refine zf ?_; refine ⟨_, rfl, ?_, hS.sp⟩; rw [if_neg Bool.noConfusion]; (repeat (first | rw [if_pos (by omega)] | rw [if_neg (by omega)])); done)
theorem rend_c {x : Fun} {e : Tail} {cs ds : List Value} (hx : funcR.at cx cs x) (he : endR.at cx ds e) (hS : St cx w L) :
    Rets Tryz.prog Q2T [.agg ⟨cs⟩, .agg ⟨ds⟩] w fun u w' => u = .int .i64 (Q2Z x.blocks.length e) ∧ St cx w' L := by
  obtain ⟨vp, vr, vb, rfl, hp, hr, hb⟩ := Q1t hx
  obtain ⟨v1, v2, v3, v4, v5, rfl, h1, h2, h3, h4, h5⟩ := QfW he
  have s5 := h5.len
  unfold Q2Z
  all_goals refine Qr5 ?_
  all_goals (unfold R_EndForm_lc; refine Q0 ?_; refine Q1 ?_; refine zb hS ?_; intro p2 w1 hS; refine zb hS ?_; intro p3 w1 hS; refine zm ?_; refine zn ?_; refine Q0 ?_; refine Q0 ?_; refine Q1 ?_; refine Q2 rfl ?_; refine zl hS ?_)
  all_goals (first | (refine Q1Q ?_) | (refine Q1R ?_) | (refine QD rfl rfl (fun hc => ?_) (fun hc => ?_)))
  all_goals (refine zm ?_; (first | refine s_gn rfl rfl ?_ | (refine s_gy rfl ?_; refine Q2 rfl ?_)); (first | refine s_gn rfl rfl ?_ | (refine s_gy rfl ?_; refine zl hS ?_)))
  all_goals (first | refine s_gn rfl rfl ?_ | (refine s_gy rfl ?_; (first | (refine QK ?_) | (refine QM ?_) | (refine Qi rfl rfl (fun hc => ?_) (fun hc => ?_)))))
  all_goals ((first | (refine zpt ?_) | (refine zpf ?_)); refine zn ?_)
  all_goals
    first
    | (refine Q3 rfl ?_ -- Q2T c0
       all_goals (refine Q0 ?_; refine Q1 ?_; refine zm ?_; refine zn ?_; refine zr ?_; refine zf ?_)
       all_goals (refine ⟨_, rfl, ?_, hS.sp⟩; rw [if_pos (by omega)]; done))
    | (refine Q4 rfl ?_ -- Q2T c0
       all_goals refine zsk ?_)
  refine zML hS [2, 3] (fun A LL ρ' w' => Has ρ' A ∧ Has ρ' [] ∧ (¬ (e.op < 1 ∨ 3 < e.op)) ∧ (¬ (e.op ≠ 2 ∧ e.a ≠ 0 ∨ e.op ≠ 3 ∧ 0 < e.args.length)) ∧ St cx w' (LL)) ?_ ?_
  · skip
    all_goals (refine Q0 ?_; refine Q1 ?_; refine Q2 rfl ?_; refine zl hS ?_)
    all_goals (first | (refine Q1c ?_) | (refine Q1d ?_) | (refine Qp rfl rfl (fun hc => ?_) (fun hc => ?_)))
    all_goals (refine zm ?_; (first | refine s_gn rfl rfl ?_ | (refine s_gy rfl ?_; refine Q2 rfl ?_)); (first | refine s_gn rfl rfl ?_ | (refine s_gy rfl ?_; refine zl hS ?_)))
    all_goals (first | refine s_gn rfl rfl ?_ | (refine s_gy rfl ?_; (first | (refine Q1c ?_) | (refine Q1d ?_) | (refine Qp rfl rfl (fun hc => ?_) (fun hc => ?_)))))
    all_goals ((first | (refine zpt ?_) | (refine zpf ?_)); refine zm ?_; (first | refine s_gn rfl rfl ?_ | (refine s_gy rfl ?_; refine Q2 rfl ?_)); (first | refine s_gn rfl rfl ?_ | (refine s_gy rfl ?_; refine zl hS ?_)); (first | refine s_gn rfl rfl ?_ | (refine s_gy rfl ?_; refine zL ?_)))
    all_goals (first | refine s_gn rfl rfl ?_ | (refine s_gy rfl ?_; (first | (refine QK ?_) | (refine QM ?_) | (refine Qi rfl rfl (fun hc => ?_) (fun hc => ?_)))))
    all_goals ((first | refine s_gn rfl rfl ?_ | (refine s_gy rfl ?_; refine zm ?_)); (first | refine s_gn rfl rfl ?_ | (refine s_gy rfl ?_; refine Q2 rfl ?_)); (first | refine s_gn rfl rfl ?_ | (refine s_gy rfl ?_; refine zl hS ?_)))
    all_goals (first | refine s_gn rfl rfl ?_ | (refine s_gy rfl ?_; (first | (refine Q1c ?_) | (refine Q1d ?_) | (refine Qp rfl rfl (fun hc => ?_) (fun hc => ?_)))))
    all_goals ((first | refine s_gn rfl rfl ?_ | (refine s_gy rfl ?_; (first | (refine zpt ?_) | (refine zpf ?_)))); (first | (refine zpt ?_) | (refine zpf ?_)); refine zn ?_)
    all_goals
      first
      | (refine Q3 rfl ?_ -- Q2T c1
         all_goals (refine Q0 ?_; refine Q1 ?_; refine zm ?_; refine zn ?_; refine zr ?_; refine zf ?_)
         all_goals (first | (refine ⟨_, rfl, ?_, hS.sp⟩; rw [if_pos (by omega)]; done) | (refine ⟨_, rfl, ?_, hS.sp⟩; rw [if_neg (by omega), if_pos (by omega)]; done)))
      | (refine Q4 rfl ?_ -- Q2T c1
         all_goals refine zsk ?_)
    all_goals (exact ⟨zh, zh, by omega, by omega, hS.sp⟩)
  rintro ρ w1 ⟨hA, hρ, k1, k2, hS⟩; obtain ⟨ρ, rfl⟩ := env2 hA hρ
  all_goals (refine Q0 ?_; refine Q0 ?_; refine Q1 ?_; refine Q2 rfl ?_; refine zl hS ?_; refine zL ?_)
  all_goals (first | (refine QK ?_) | (refine QM ?_) | (refine Qi rfl rfl (fun hc => ?_) (fun hc => ?_)))
  all_goals (refine zn ?_)
  all_goals
    first
    | (refine Q3 rfl ?_ -- Q2T c2
       all_goals (refine Q0 ?_; refine Q1 ?_; refine zm ?_; refine zn ?_; refine zr ?_; refine zf ?_)
       all_goals (first | (refine ⟨_, rfl, ?_, hS.sp⟩; rw [if_pos (by omega)]; done) | (refine ⟨_, rfl, ?_, hS.sp⟩; rw [if_neg (by omega), if_pos (by omega)]; done) | (refine ⟨_, rfl, ?_, hS.sp⟩; rw [if_neg k1, if_neg k2, if_pos (by omega)]; done)))
    | (refine Q4 rfl ?_ -- Q2T c2
       all_goals refine zsk ?_)
  all_goals (refine Q0 ?_; refine Q0 ?_; refine Q1 ?_; refine zv hS ?_; refine Q2 rfl ?_; refine zv hS ?_; refine Q2 rfl ?_; refine zl hS ?_; refine Q6n rfl rfl ?_; refine zR3 (c := rto_c (t := e.yes) hx ⟨_, _, rfl, h1, h2⟩ hS) (h := ?_); rintro v1 w1 ⟨rfl, hS⟩; refine zm ?_; refine zn ?_; refine Q0 ?_; refine Q1 ?_; refine zm ?_)
  all_goals (first | (refine Q1c ?_) | (refine Q1d ?_) | (refine Qp rfl rfl (fun hc => ?_) (fun hc => ?_)))
  all_goals (refine zn ?_)
  all_goals
    first
    | (refine Q3 rfl ?_ -- Q2T c3
       all_goals (refine Q0 ?_; refine Q1 ?_; refine zm ?_; refine zm ?_; refine zn ?_; refine zr ?_; refine zf ?_)
       all_goals (first | (refine ⟨_, rfl, ?_, hS.sp⟩; rw [if_pos (by omega)]; done) | (refine ⟨_, rfl, ?_, hS.sp⟩; rw [if_neg (by omega), if_pos (by omega)]; done) | (refine ⟨_, rfl, ?_, hS.sp⟩; rw [if_neg k1, if_neg k2, if_pos (by omega)]; done) | (refine ⟨_, rfl, ?_, hS.sp⟩; (rw [if_neg k1, if_neg k2, if_neg (by omega)]; first | rw [Q6y (by assumption)] | (rw [Classical.not_not.1 (by assumption : ¬ Q2N x.blocks.length e.yes (decide (e.op ≠ 3)) ≠ 0), Q5Q])); done)))
    | (refine Q4 rfl ?_ -- Q2T c3
       all_goals refine zsk ?_)
  all_goals (refine Q0 ?_; refine Q1 ?_; refine zv hS ?_; refine Q2 rfl ?_; refine zv hS ?_; refine Q2 rfl ?_; refine zl hS ?_; refine QbF rfl rfl ?_; refine zR3 (c := rto_c (t := e.no) hx ⟨_, _, rfl, h3, h4⟩ hS) (h := ?_); rintro v1 w1 ⟨rfl, hS⟩; refine zm ?_; refine zn ?_; refine zr ?_; refine zf ?_; (first | (refine ⟨_, rfl, ?_, hS.sp⟩; rw [if_pos (by omega)]; done) | (refine ⟨_, rfl, ?_, hS.sp⟩; rw [if_neg (by omega), if_pos (by omega)]; done) | (refine ⟨_, rfl, ?_, hS.sp⟩; rw [if_neg k1, if_neg k2, if_pos (by omega)]; done) | (refine ⟨_, rfl, ?_, hS.sp⟩; (rw [if_neg k1, if_neg k2, if_neg (by omega)]; first | rw [Q6y (by assumption)] | (rw [Classical.not_not.1 (by assumption : ¬ Q2N x.blocks.length e.yes (decide (e.op ≠ 3)) ≠ 0), Q5Q])); done)))
theorem QrU {l : List Ty} {regs : Int} {v vf : Value} {g : Flt} {at' : Int} {b : Nat} (hl : tyR.sl cx v l) (hS : St cx w L) (hi : nth L i = some (jdg b vf g at')) :
    Rets Tryz.prog Q7q [.pointer (some ⟨b, 0, none⟩), v, .int .i64 regs] w fun u w' => u = .tuple #[] ∧ St cx w' (L.set i (jdg b vf (orF g (mkF (QA l regs) at')) at')) := by
  have hS := hS.out hi
  have hlen := hl.len
  have e0 : orF g (mkF (QA l regs) at') = orF g (mkF (orC (if 8 < l.length then 2 else 0) (Q3o regs l)) at') := by
    congr 2
    unfold QA
    split
    · rw [Q6y (by decide)]
    · rw [Q5Q]
  rw [e0]
  all_goals refine QaU ?_
  all_goals (unfold code_judge_list_lc)
  refine zM [0, 1, 2] (fun A ρ' w' => Has ρ' A ∧ Has ρ' [] ∧ St cx w' (jdg b vf (orF g (mkF (if 8 < l.length then 2 else 0) at')) at' :: L.eraseIdx i)) ?_ ?_
  · skip
    all_goals (refine Q1 ?_; refine zm ?_; refine zm ?_; refine zL ?_)
    all_goals (first | (refine QK ?_) | (refine QM ?_) | (refine Qi rfl rfl (fun hc => ?_) (fun hc => ?_)))
    all_goals (refine zR3 (c := Q2A (by intro _; decide) hS fd) (h := ?_); rintro v1 w1 ⟨rfl, hS⟩; simp only [List.set_cons_zero, List.set_cons_succ, if_true, Bool.false_eq_true, if_false] at hS; refine zn ?_; exact ⟨zh, zh, by first | (rw [if_pos (by omega)]; exact hS.sp) | (rw [if_neg (by omega)]; exact hS.sp)⟩)
  rintro ρ w1 ⟨hA, hρ, hS⟩; obtain ⟨ρ, rfl⟩ := env2 hA hρ
  all_goals (refine Q0 ?_; refine Q1 ?_; refine zm ?_; refine zL ?_; refine zm ?_; refine zn ?_; refine Q8 ?_)
  refine zo [0, 2, 14, 15] (fun A ρ' w' => ∃ (j : Nat) (h : Flt), Has ρ' A ∧ Has ρ' [(16, .int .i64 j)] ∧ (j ≤ l.length) ∧ (orF g (mkF (orC (if 8 < l.length then 2 else 0) (Q3o regs l)) at') = orF h (mkF (Q3o regs (l.drop j)) at')) ∧ St cx w' (jdg b vf h at' :: L.eraseIdx i)) (fun ρ' _ => (l.length - iv (ρ' 16)).toNat) ?_ ?_
  · exact ⟨0, _, zh, zh, (by omega), by rw [List.drop_zero, Q39], hS.sp⟩
  rintro ρ w1 ⟨j, h, hA, hρ, hj, hd, hS⟩; obtain ⟨ρ, rfl⟩ := env2 hA hρ
  unfold Q4p
  all_goals (refine Q0 ?_; refine Q1 ?_; refine Qt rfl rfl ?_; refine zn ?_; refine Q0 ?_)
  refine Qm rfl (fun hc => ?_) (fun hc => ?_)
  · skip
    all_goals (refine zsk ?_; refine Q0 ?_; refine Q8 ?_; refine Q0 ?_; refine Q1 ?_; refine zi ?_; intro b1 o1 cs1 x1 hat1 hx1 he1; obtain ⟨vl1, rfl, hl1⟩ := QX he1; (first | (refine zv hS ?_) | (refine zvk hS ?_)); refine Qb hS ?_; intro p7 w1 hS; refine zsn hS ?_; intro w1 hS; have hS := hS.ns; refine zn ?_; refine Q0 ?_; refine Q1 ?_; refine zv hS ?_; refine zm ?_; refine zR2 (c := tcheck_c (by assumption) hS) (h := ?_); rintro v1 w1 ⟨rfl, hS⟩; refine zm ?_; refine zn ?_; refine Q1 ?_; refine zm ?_; refine zm ?_; refine Q6n rfl rfl ?_; refine zm ?_; refine zR3 (c := Q2A (by intro h; exact of_decide_eq_true h) hS fd) (h := ?_); rintro v1 w1 ⟨rfl, hS⟩; simp only [List.set_cons_zero, List.set_cons_succ, fault_if] at hS; refine zn ?_; refine Q1 ?_; refine zad ?_; refine zm ?_; refine zn ?_; exact ⟨⟨j + 1, _, zh, zh, (by omega), by rw [hd, Q7 hx1, Q3o, ← Q39], hS.sp⟩, Qh (by omega)⟩)
  · skip
    all_goals (refine zex ?_; refine Q3j ?_; refine ⟨_, rfl, rfl, ?_⟩; rw [hd, List.drop_of_length_le (by omega), Q3o, Q2s, Qty rfl]; exact St.back hS hi)
def fltV (g : Flt) : Value := .agg ⟨[.int .i64 g.1, .int .i64 g.2]⟩
theorem rblock_c {m : Module} {f b : Nat} {x : Fun} {y : Block} (hxf : m.funcs[f]? = some x) (hyb : x.blocks[b]? = some y) (hf0 : f ≤ 1000000) (hb0 : b ≤ 1000000) (hlc : y.code.length ≤ 100000) {cs : List Value} (hm : modR.at cx cs m) (hS : St cx w L) :
    Rets Tryz.prog Q18 [.agg ⟨cs⟩, .int .i64 f, .int .i64 b] w fun u w' => u = fltV (QV m.funcs.length f x b y) ∧ St cx w' L := by
  have hm' := hm
  obtain ⟨vf, rfl, hf⟩ := Q2l hm
  have hflt := (List.getElem?_eq_some_iff.1 hxf).1
  have hblt := (List.getElem?_eq_some_iff.1 hyb).1
  all_goals refine Qib ?_
  all_goals (unfold R_blockFault_lc; refine Q0 ?_; refine Q1 ?_; refine zb hS ?_; intro p3 w1 hS; refine Qb hS ?_; intro p6 w1 hS; refine zn ?_; refine Q0 ?_; refine Q1 ?_; refine Q2 rfl ?_; refine zl hS ?_; refine zm ?_; refine zi ?_; intro b1 o1 cs1 x1 hat1 hx1 he1; obtain ⟨vp1, vr1, vb1, rfl, hp1, hr1, hb1⟩ := Q1t he1; (first | (refine zv hS ?_) | (refine zvk hS ?_)); refine Qb hS ?_; intro p7 w1 hS; refine zsn hS ?_; intro w1 hS; have hS := hS.ns; refine zn ?_; have e1 : x = x1 := Option.some.inj (hxf.symm.trans hx1); subst e1; refine Q0 ?_; refine Q1 ?_; refine Q2 rfl ?_; refine zl hS ?_; refine zm ?_; refine zi ?_; intro b2 o2 cs2 x2 hat2 hx2 he2; obtain ⟨vp2, vc2, ve21, ve22, ve23, ve24, ve25, rfl, hp2, hc2, he21, he22, he23, he24, he25⟩ := Q1w he2; (first | (refine zv hS ?_) | (refine zvk hS ?_)); refine Qb hS ?_; intro p8 w1 hS; refine zsn hS ?_; intro w1 hS; have hS := hS.ns; refine zn ?_; have e2 : y = x2 := Option.some.inj (hyb.symm.trans hx2); subst e2; refine Q0 ?_; refine Q0 ?_)
  all_goals (refine Q1 ?_; refine Q2 rfl ?_; refine zl hS ?_; refine Q2 rfl ?_; refine zl hS ?_)
  all_goals (first | (refine Q1Q ?_) | (refine Q1R ?_) | (refine QD rfl rfl (fun hc => ?_) (fun hc => ?_)))
  all_goals (refine zm ?_; (first | refine s_gn rfl rfl ?_ | (refine s_gy rfl ?_; refine Q2 rfl ?_)); (first | refine s_gn rfl rfl ?_ | (refine s_gy rfl ?_; refine zl hS ?_)))
  all_goals (first | refine s_gn rfl rfl ?_ | (refine s_gy rfl ?_; (first | (refine QK ?_) | (refine QM ?_) | (refine Qi rfl rfl (fun hc => ?_) (fun hc => ?_)))))
  all_goals ((first | (refine zpt ?_) | (refine zpf ?_)); refine zn ?_)
  all_goals
    first
    | (refine Q3 rfl ?_ -- Q18 c0
       all_goals (refine Q0 ?_; refine Q1 ?_; refine zm ?_; refine zm ?_; refine zR2 (c := Q7I f b hf0 hb0 hS) (h := ?_); rintro v1 w1 ⟨rfl, hS⟩; refine zR2 (c := rF_c hS) (h := ?_); rintro v1 w1 ⟨rfl, hS⟩; refine zsn hS ?_; intro w1 hS; have hS := hS.ns; refine zn ?_; refine zr ?_; refine Q20 vw (Q9 (n := 2) (by kernel_rfl) (by kernel_rfl) (hS.blkAt fd) (by rfl) (by rfl)) ?_)
       all_goals (refine ⟨_, rfl, ?_, hS.sp⟩; rw [Q21 (c := 1) (by unfold Qx; rw [if_pos (by omega)]) (by decide)]; rfl; done))
    | (refine Q4 rfl ?_ -- Q18 c0
       all_goals refine zsk ?_)
  all_goals (refine Q0 ?_; refine Q0 ?_; refine Q1 ?_; refine Q2 rfl ?_; refine zl hS ?_; refine Q2 rfl ?_; refine zl hS ?_; refine zR2 (c := QrP (by assumption) hS) (h := ?_); rintro v1 w1 ⟨rfl, hS⟩; refine zm ?_; refine zn ?_; refine Q0 ?_; refine Q1 ?_; refine zm ?_)
  all_goals (first | (refine Q1c ?_) | (refine Q1d ?_) | (refine Qp rfl rfl (fun hc => ?_) (fun hc => ?_)))
  all_goals (refine zn ?_)
  all_goals
    first
    | (refine Q3 rfl ?_ -- Q18 c1
       all_goals (refine Q0 ?_; refine Q1 ?_; refine zm ?_; refine zm ?_; refine zm ?_; refine zR2 (c := Q7I f b hf0 hb0 hS) (h := ?_); rintro v1 w1 ⟨rfl, hS⟩; refine zR2 (c := rF_c hS) (h := ?_); rintro v1 w1 ⟨rfl, hS⟩; refine zsn hS ?_; intro w1 hS; have hS := hS.ns; refine zn ?_; refine zr ?_; refine Q20 vw (Q9 (n := 2) (by kernel_rfl) (by kernel_rfl) (hS.blkAt fd) (by rfl) (by rfl)) ?_)
       all_goals (first | (refine ⟨_, rfl, ?_, hS.sp⟩; rw [Q21 (c := 1) (by unfold Qx; rw [if_pos (by omega)]) (by decide)]; rfl; done) | (refine ⟨_, rfl, ?_, hS.sp⟩; rw [Q21 (c := QA y.params y.regs) (by unfold Qx; rw [if_neg (by omega), if_pos (by assumption)]) (by assumption)]; rfl; done)))
    | (refine Q4 rfl ?_ -- Q18 c1
       all_goals refine zsk ?_)
  all_goals (refine Q0 ?_; refine Q0 ?_; refine Q1 ?_)
  refine zKL hS 17 [1, 2, 3, 6, 7, 8] (fun A LL ρ' w' => ∃ (q : Bool), Has ρ' A ∧ Has ρ' [(65, .bool q)] ∧ (q = true ↔ (b = 0 ∧ (y.regs ≠ x.regs ∨ y.params ≠ x.params))) ∧ St cx w' (LL)) ?_ ?_
  · skip
    all_goals (refine zm ?_)
    all_goals (first | (refine Qy ?_) | (refine QC ?_) | (refine Qn rfl rfl (fun hc => ?_) (fun hc => ?_)))
    all_goals (refine zm ?_; (first | refine s_gn rfl rfl ?_ | (refine s_gy rfl ?_; refine Q2 rfl ?_)); (first | refine s_gn rfl rfl ?_ | (refine s_gy rfl ?_; refine zl hS ?_)); (first | refine s_gn rfl rfl ?_ | (refine s_gy rfl ?_; refine Q2 rfl ?_)); (first | refine s_gn rfl rfl ?_ | (refine s_gy rfl ?_; refine zl hS ?_)))
    all_goals (first | refine s_gn rfl rfl ?_ | (refine s_gy rfl ?_; (first | (refine Q1c ?_) | (refine Q1d ?_) | (refine Qp rfl rfl (fun hc => ?_) (fun hc => ?_)))))
    all_goals ((first | refine s_gn rfl rfl ?_ | (refine s_gy rfl ?_; refine zm ?_)); (first | refine s_gn rfl rfl ?_ | (refine s_gy rfl ?_; refine Q2 rfl ?_)); (first | refine s_gn rfl rfl ?_ | (refine s_gy rfl ?_; refine zl hS ?_)); (first | refine s_gn rfl rfl ?_ | (refine s_gy rfl ?_; refine Q2 rfl ?_)); (first | refine s_gn rfl rfl ?_ | (refine s_gy rfl ?_; refine zl hS ?_)))
    all_goals (first | refine s_gn rfl rfl ?_ | (refine s_gy rfl ?_; refine zR2 (c := Q7F hp2 hp1 hS) (h := ?_); rintro v1 w1 ⟨rfl, hS⟩; (cases hdec : decide (y.params = x.params)); have hg := of_decide_eq_false hdec; rotate_left; have hg := of_decide_eq_true hdec; all_goals skip))
    all_goals ((first | refine s_gn rfl rfl ?_ | (refine s_gy rfl ?_; refine Q2b rfl ?_)); (first | refine s_gn rfl rfl ?_ | (refine s_gy rfl ?_; (first | (refine zpt ?_) | (refine zpf ?_)))); (first | (refine zpt ?_) | (refine zpf ?_)); refine Q59 ?_; refine Q2z ?_)
    all_goals (first | (exact ⟨_, zh, zh, by exact ⟨fun _ => ⟨by omega, .inl (by assumption)⟩, fun _ => rfl⟩, hS.sp⟩) | (exact ⟨_, zh, zh, by exact ⟨fun _ => ⟨by omega, .inr (by assumption)⟩, fun _ => rfl⟩, hS.sp⟩) | (exact ⟨_, zh, zh, by exact ⟨fun h => Bool.noConfusion h, fun h => absurd h.1 (by omega)⟩, hS.sp⟩) | (exact ⟨_, zh, zh, by exact ⟨fun h => Bool.noConfusion h, fun h => h.2.elim (fun h => absurd h (by assumption)) (fun h => absurd (by assumption) h)⟩, hS.sp⟩))
  rintro ρ w1 ⟨q, hA, hρ, hq, hS⟩; obtain ⟨ρ, rfl⟩ := env2 hA hρ
  all_goals (refine zn ?_)
  all_goals (cases q)
  all_goals
    first
    | (refine Q3 rfl ?_ -- Q18 c2
       all_goals (refine Q0 ?_; refine Q1 ?_; refine zm ?_; refine zm ?_; refine zR2 (c := Q7I f b hf0 hb0 hS) (h := ?_); rintro v1 w1 ⟨rfl, hS⟩; refine zR2 (c := rF_c hS) (h := ?_); rintro v1 w1 ⟨rfl, hS⟩; refine zsn hS ?_; intro w1 hS; have hS := hS.ns; refine zn ?_; refine zr ?_; refine Q20 vw (Q9 (n := 2) (by kernel_rfl) (by kernel_rfl) (hS.blkAt fd) (by rfl) (by rfl)) ?_)
       all_goals (first | (refine ⟨_, rfl, ?_, hS.sp⟩; rw [Q21 (c := 1) (by unfold Qx; rw [if_pos (by omega)]) (by decide)]; rfl; done) | (refine ⟨_, rfl, ?_, hS.sp⟩; rw [Q21 (c := QA y.params y.regs) (by unfold Qx; rw [if_neg (by omega), if_pos (by assumption)]) (by assumption)]; rfl; done) | (refine ⟨_, rfl, ?_, hS.sp⟩; rw [Q21 (c := 9) (by unfold Qx; rw [if_neg (by omega), if_neg (by omega), if_pos (hq.1 rfl)]) (by decide)]; rfl; done)))
    | (refine Q4 rfl ?_ -- Q18 c2
       all_goals refine zsk ?_)
  refine zML hS [1, 2, 3, 6, 7, 8] (fun A LL ρ' w' => Has ρ' A ∧ Has ρ' [] ∧ (Qx x b y = 0) ∧ St cx w' (LL)) ?_ ?_
  · skip
    all_goals (refine Q0 ?_; refine Q1 ?_; refine Q2 rfl ?_; refine zl hS ?_; refine zL ?_)
    all_goals (first | (refine QK ?_) | (refine QM ?_) | (refine Qi rfl rfl (fun hc => ?_) (fun hc => ?_)))
    all_goals (refine zn ?_)
    all_goals
      first
      | (refine Q3 rfl ?_ -- Q18 c3
         all_goals (refine Q0 ?_; refine Q1 ?_; refine zm ?_; refine zm ?_; refine zR2 (c := Q7I f b hf0 hb0 hS) (h := ?_); rintro v1 w1 ⟨rfl, hS⟩; refine zR2 (c := rF_c hS) (h := ?_); rintro v1 w1 ⟨rfl, hS⟩; refine zsn hS ?_; intro w1 hS; have hS := hS.ns; refine zn ?_; refine zr ?_; refine Q20 vw (Q9 (n := 2) (by kernel_rfl) (by kernel_rfl) (hS.blkAt fd) (by rfl) (by rfl)) ?_)
         all_goals (first | (refine ⟨_, rfl, ?_, hS.sp⟩; rw [Q21 (c := 1) (by unfold Qx; rw [if_pos (by omega)]) (by decide)]; rfl; done) | (refine ⟨_, rfl, ?_, hS.sp⟩; rw [Q21 (c := QA y.params y.regs) (by unfold Qx; rw [if_neg (by omega), if_pos (by assumption)]) (by assumption)]; rfl; done) | (refine ⟨_, rfl, ?_, hS.sp⟩; rw [Q21 (c := 9) (by unfold Qx; rw [if_neg (by omega), if_neg (by omega), if_pos (hq.1 rfl)]) (by decide)]; rfl; done) | (refine ⟨_, rfl, ?_, hS.sp⟩; rw [Q21 (c := 2) (by unfold Qx; rw [if_neg (by omega), if_neg (by omega), if_neg (fun h => Bool.noConfusion (hq.2 h)), if_pos (by omega)]) (by decide)]; rfl; done)))
      | (refine Q4 rfl ?_ -- Q18 c3
         all_goals refine zsk ?_)
    all_goals (exact ⟨zh, zh, by unfold Qx; rw [if_neg (by omega), if_neg (by omega), if_neg (fun h => Bool.noConfusion (hq.2 h)), if_neg (by omega)], hS.sp⟩)
  rintro ρ w1 ⟨hA, hρ, hh, hS⟩; obtain ⟨ρ, rfl⟩ := env2 hA hρ
  all_goals (refine Q0 ?_; refine Q0 ?_; refine Q1 ?_; refine zm ?_; refine zn ?_; refine Q8 ?_)
  refine zoL hS [1, 2, 3, 6, 7, 8] (fun A LL ρ' w' => ∃ (j : Nat), Has ρ' A ∧ Has ρ' [(10, .int .i64 j)] ∧ (j ≤ y.code.length) ∧ (Q1b m.funcs.length f b 0 y.code = Q1b m.funcs.length f b j (y.code.drop j)) ∧ St cx w' (LL)) (fun ρ' _ => (y.code.length - iv (ρ' 10)).toNat) ?_ ?_
  · exact ⟨0, zh, zh, (by omega), by simp, hS.sp⟩
  rintro ρ w1 ⟨j, hA, hρ, hj, hd, hS⟩; obtain ⟨ρ, rfl⟩ := env2 hA hρ
  unfold Q5L
  all_goals (refine Q0 ?_; refine Q0 ?_; refine Q1 ?_; refine zm ?_; refine Q2 rfl ?_; refine zl hS ?_; refine zL ?_; refine Qt rfl rfl ?_; refine zn ?_)
  refine Qm rfl (fun hc => ?_) (fun hc => ?_)
  · skip
    all_goals (refine zsk ?_; refine Q0 ?_; refine Q8 ?_; refine Q0 ?_; refine zD [(0, none), (1, none), (2, none), (3, none), (4, none), (5, none), (6, some none), (7, some none)] ?_; have hS := hS.drew; refine zv hS ?_; refine Q2 rfl ?_; refine zl hS ?_; refine zm ?_; refine zi ?_; intro b3 o3 cs3 x3 hat3 hx3 he3; obtain ⟨vr3, va3, rfl, hr3, ha3⟩ := Q22 he3; (first | (refine zv hS ?_) | (refine zvk hS ?_)); refine zR2 (c := rins_c hm' (by assumption) hS) (h := ?_); rintro v1 w1 ⟨rfl, hS⟩; refine zm ?_; refine zn ?_; refine Q0 ?_; refine Q1 ?_; refine zm ?_)
    all_goals (first | (refine Q1c ?_) | (refine Q1d ?_) | (refine Qp rfl rfl (fun hc => ?_) (fun hc => ?_)))
    all_goals (refine zn ?_)
    all_goals
      first
      | (refine Q3 rfl ?_ -- Q18 c5
         all_goals (refine Q0 ?_; refine Q1 ?_; refine zm ?_; refine zm ?_; refine zm ?_; refine zm ?_; refine zR3 (c := rInsAt_c f b j hf0 hb0 (by omega) hS) (h := ?_); rintro v1 w1 ⟨rfl, hS⟩; refine zR2 (c := rF_c hS) (h := ?_); rintro v1 w1 ⟨rfl, hS⟩; refine zsn hS ?_; intro w1 hS; have hS := hS.ns; refine zn ?_; refine zr ?_; refine Q20 vw (Q9 (n := 2) (by kernel_rfl) (by kernel_rfl) (hS.blkAt fd) (by rfl) (by rfl)) ?_)
         all_goals (first | (refine ⟨_, rfl, ?_, hS.sp⟩; rw [Q21 (c := 1) (by unfold Qx; rw [if_pos (by omega)]) (by decide)]; rfl; done) | (refine ⟨_, rfl, ?_, hS.sp⟩; rw [Q21 (c := QA y.params y.regs) (by unfold Qx; rw [if_neg (by omega), if_pos (by assumption)]) (by assumption)]; rfl; done) | (refine ⟨_, rfl, ?_, hS.sp⟩; rw [Q21 (c := 9) (by unfold Qx; rw [if_neg (by omega), if_neg (by omega), if_pos (hq.1 rfl)]) (by decide)]; rfl; done) | (refine ⟨_, rfl, ?_, hS.sp⟩; rw [Q21 (c := 2) (by unfold Qx; rw [if_neg (by omega), if_neg (by omega), if_neg (fun h => Bool.noConfusion (hq.2 h)), if_pos (by omega)]) (by decide)]; rfl; done) | (refine ⟨_, rfl, ?_, hS.sp⟩; rw [Qsf (F := (Q2M m.funcs.length x3, Qhl f b j)) hh (by rw [hd, Q7 hx3, Q4K (by assumption)]) (by assumption)]; rfl; done)))
      | (refine Q4 rfl ?_ -- Q18 c5
         all_goals refine zsk ?_)
    all_goals (refine Q1 ?_; refine zm ?_; refine zad ?_; refine zm ?_; refine zn ?_; exact ⟨⟨j + 1, zh, zh, (by omega), by rw [hd, Q7 hx3, QjJ (by omega)], hS.sp⟩, Qh (by omega)⟩)
  · skip
    all_goals (refine zex ?_; refine Q0 ?_; refine Q0 ?_; refine Q1 ?_; refine zv hS ?_; refine Q2 rfl ?_; refine zv hS ?_; refine zR2 (c := rend_c (e := y.fin) he1 ⟨_, _, _, _, _, rfl, he21, he22, he23, he24, he25⟩ hS) (h := ?_); rintro v1 w1 ⟨rfl, hS⟩; refine zm ?_; refine zn ?_; refine Q0 ?_; refine Q1 ?_; refine zm ?_)
    all_goals (first | (refine Q1c ?_) | (refine Q1d ?_) | (refine Qp rfl rfl (fun hc => ?_) (fun hc => ?_)))
    all_goals (refine zn ?_)
    all_goals
      first
      | (refine Q3 rfl ?_ -- Q18 c6
         all_goals (refine Q0 ?_; refine Q1 ?_; refine zm ?_; refine zm ?_; refine zm ?_; refine zR2 (c := rEndAt_c f b hf0 hb0 hS) (h := ?_); rintro v1 w1 ⟨rfl, hS⟩; refine zR2 (c := rF_c hS) (h := ?_); rintro v1 w1 ⟨rfl, hS⟩; refine zsn hS ?_; intro w1 hS; have hS := hS.ns; refine zn ?_; refine zr ?_; refine Q20 vw (Q9 (n := 2) (by kernel_rfl) (by kernel_rfl) (hS.blkAt fd) (by rfl) (by rfl)) ?_)
         all_goals (first | (refine ⟨_, rfl, ?_, hS.sp⟩; rw [Q21 (c := 1) (by unfold Qx; rw [if_pos (by omega)]) (by decide)]; rfl; done) | (refine ⟨_, rfl, ?_, hS.sp⟩; rw [Q21 (c := QA y.params y.regs) (by unfold Qx; rw [if_neg (by omega), if_pos (by assumption)]) (by assumption)]; rfl; done) | (refine ⟨_, rfl, ?_, hS.sp⟩; rw [Q21 (c := 9) (by unfold Qx; rw [if_neg (by omega), if_neg (by omega), if_pos (hq.1 rfl)]) (by decide)]; rfl; done) | (refine ⟨_, rfl, ?_, hS.sp⟩; rw [Q21 (c := 2) (by unfold Qx; rw [if_neg (by omega), if_neg (by omega), if_neg (fun h => Bool.noConfusion (hq.2 h)), if_pos (by omega)]) (by decide)]; rfl; done) | (refine ⟨_, rfl, ?_, hS.sp⟩; rw [Qsf (F := (Q2M m.funcs.length x3, Qhl f b j)) hh (by rw [hd, Q7 hx3, Q4K (by assumption)]) (by assumption)]; rfl; done) | (refine ⟨_, rfl, ?_, hS.sp⟩; (rw [bf_end hh (by rw [hd, List.drop_of_length_le (by omega), Q1b])]; first | (rw [Qar (by assumption)]; rfl) | (rw [show Q2Z x.blocks.length y.fin = 0 by omega, Q2s]; rfl)); done)))
      | (refine Q4 rfl ?_ -- Q18 c6
         all_goals refine zsk ?_)
    all_goals (refine Q0 ?_; refine Q1 ?_; refine zb0 [_, _] ?_; refine zsn hS ?_; intro w1 hS; have hS := hS.ns; refine zn ?_; refine zr ?_; refine Q20 vw (Q9 (n := 2) (by kernel_rfl) (by kernel_rfl) (hS.blkAt fd) (by rfl) (by rfl)) ?_)
    all_goals (first | (refine ⟨_, rfl, ?_, hS.sp⟩; rw [Q21 (c := 1) (by unfold Qx; rw [if_pos (by omega)]) (by decide)]; rfl; done) | (refine ⟨_, rfl, ?_, hS.sp⟩; rw [Q21 (c := QA y.params y.regs) (by unfold Qx; rw [if_neg (by omega), if_pos (by assumption)]) (by assumption)]; rfl; done) | (refine ⟨_, rfl, ?_, hS.sp⟩; rw [Q21 (c := 9) (by unfold Qx; rw [if_neg (by omega), if_neg (by omega), if_pos (hq.1 rfl)]) (by decide)]; rfl; done) | (refine ⟨_, rfl, ?_, hS.sp⟩; rw [Q21 (c := 2) (by unfold Qx; rw [if_neg (by omega), if_neg (by omega), if_neg (fun h => Bool.noConfusion (hq.2 h)), if_pos (by omega)]) (by decide)]; rfl; done) | (refine ⟨_, rfl, ?_, hS.sp⟩; rw [Qsf (F := (Q2M m.funcs.length x3, Qhl f b j)) hh (by rw [hd, Q7 hx3, Q4K (by assumption)]) (by assumption)]; rfl; done) | (refine ⟨_, rfl, ?_, hS.sp⟩; (rw [bf_end hh (by rw [hd, List.drop_of_length_le (by omega), Q1b])]; first | (rw [Qar (by assumption)]; rfl) | (rw [show Q2Z x.blocks.length y.fin = 0 by omega, Q2s]; rfl)); done))
theorem Qt3 {m : Module} (hsh : m.Short) {cs : List Value} (hm : modR.at cx cs m) (hS : St cx w L) :
    Rets Tryz.prog QZ [.agg ⟨cs⟩] w fun u w' => u = fltV m.fault ∧ St cx w' L := by
  have hm' := hm
  obtain ⟨vf, rfl, hf⟩ := Q2l hm
  have hlf := hf.len
  have hsf := hsh.2
  unfold Module.fault
  all_goals refine QlU ?_
  all_goals (unfold R_CodeFault_lc; refine Q0 ?_; refine Q1 ?_; refine zb hS ?_; intro p1 w1 hS; refine Qb hS ?_; intro p2 w1 hS; refine zn ?_)
  refine zML hS [1, 2] (fun A LL ρ' w' => Has ρ' A ∧ Has ρ' [] ∧ (1 ≤ m.funcs.length ∧ m.funcs.length ≤ 8) ∧ St cx w' (LL)) ?_ ?_
  · skip
    all_goals (refine Q0 ?_; refine Q1 ?_; refine Q2 rfl ?_; refine zl hS ?_; refine zL ?_)
    all_goals (first | (refine Q1Q ?_) | (refine Q1R ?_) | (refine QD rfl rfl (fun hc => ?_) (fun hc => ?_)))
    all_goals (refine zm ?_; (first | refine s_gn rfl rfl ?_ | (refine s_gy rfl ?_; refine Q2 rfl ?_)); (first | refine s_gn rfl rfl ?_ | (refine s_gy rfl ?_; refine zl hS ?_)); (first | refine s_gn rfl rfl ?_ | (refine s_gy rfl ?_; refine zL ?_)))
    all_goals (first | refine s_gn rfl rfl ?_ | (refine s_gy rfl ?_; (first | (refine QK ?_) | (refine QM ?_) | (refine Qi rfl rfl (fun hc => ?_) (fun hc => ?_)))))
    all_goals ((first | (refine zpt ?_) | (refine zpf ?_)); refine zn ?_)
    all_goals
      first
      | (refine Q3 rfl ?_ -- QZ c0
         all_goals (refine Q0 ?_; refine Q1 ?_; refine zR2 (c := rF_c hS) (h := ?_); rintro v1 w1 ⟨rfl, hS⟩; refine zsn hS ?_; intro w1 hS; have hS := hS.ns; refine zn ?_; refine zr ?_; refine Q20 vw (Q9 (n := 2) (by kernel_rfl) (by kernel_rfl) (hS.blkAt fd) (by rfl) (by rfl)) ?_)
         all_goals (refine ⟨_, rfl, ?_, hS.sp⟩; rw [if_pos (by omega), Q5P (by rw [Q3a]; decide), Qar (by decide)]; rfl; done))
      | (refine Q4 rfl ?_ -- QZ c0
         all_goals refine zsk ?_)
    all_goals (exact ⟨zh, zh, by omega, hS.sp⟩)
  rintro ρ w1 ⟨hA, hρ, hl8, hS⟩; obtain ⟨ρ, rfl⟩ := env2 hA hρ
  all_goals (refine Q0 ?_; refine Q0 ?_; refine Q1 ?_; refine zm ?_; refine zn ?_; refine Q8 ?_)
  refine zoL hS [1, 2] (fun A LL ρ' w' => ∃ (f : Nat), Has ρ' A ∧ Has ρ' [(3, .int .i64 f)] ∧ (f ≤ m.funcs.length) ∧ (Q1s m.funcs.length 0 m.funcs = Q1s m.funcs.length f (m.funcs.drop f)) ∧ St cx w' (LL)) (fun ρ' _ => (m.funcs.length - iv (ρ' 3)).toNat) ?_ ?_
  · exact ⟨0, zh, zh, (by omega), by simp, hS.sp⟩
  rintro ρ w1 ⟨f, hA, hρ, hj, hd, hS⟩; obtain ⟨ρ, rfl⟩ := env2 hA hρ
  unfold Q8W
  all_goals (refine Q0 ?_; refine Q0 ?_; refine Q1 ?_; refine zm ?_; refine Q2 rfl ?_; refine zl hS ?_; refine zL ?_; refine Qt rfl rfl ?_; refine zn ?_)
  refine Qm rfl (fun hc => ?_) (fun hc => ?_)
  · skip
    all_goals (refine zsk ?_; refine Q0 ?_; refine Q8 ?_; refine Q0 ?_; refine Q1 ?_; refine Q2 rfl ?_; refine zl hS ?_; refine zm ?_; refine zi ?_; intro b1 o1 cs1 x1 hat1 hx1 he1; obtain ⟨vp1, vr1, vb1, rfl, hp1, hr1, hb1⟩ := Q1t he1; (first | (refine zv hS ?_) | (refine zvk hS ?_)); refine Qb hS ?_; intro p4 w1 hS; refine zsn hS ?_; intro w1 hS; have hS := hS.ns; refine zn ?_; have hsx := hsf x1 (List.mem_of_getElem? hx1); have hlb := hb1.len; have hlr := hr1.len; refine Q0 ?_; refine Q0 ?_; refine Q1 ?_; refine Q2 rfl ?_; refine zl hS ?_)
    all_goals (first | (refine Q1Q ?_) | (refine Q1R ?_) | (refine QD rfl rfl (fun hc => ?_) (fun hc => ?_)))
    all_goals (refine zm ?_; (first | refine s_gn rfl rfl ?_ | (refine s_gy rfl ?_; refine Q2 rfl ?_)); (first | refine s_gn rfl rfl ?_ | (refine s_gy rfl ?_; refine zl hS ?_)))
    all_goals (first | refine s_gn rfl rfl ?_ | (refine s_gy rfl ?_; (first | (refine QK ?_) | (refine QM ?_) | (refine Qi rfl rfl (fun hc => ?_) (fun hc => ?_)))))
    all_goals ((first | (refine zpt ?_) | (refine zpf ?_)); refine zn ?_)
    all_goals
      first
      | (refine Q3 rfl ?_ -- QZ c2
         all_goals (refine Q0 ?_; refine Q1 ?_; refine zm ?_; refine zR1 (c := Q6u f (by omega) hS) (h := ?_); rintro v1 w1 ⟨rfl, hS⟩; refine zR2 (c := rF_c hS) (h := ?_); rintro v1 w1 ⟨rfl, hS⟩; refine zsn hS ?_; intro w1 hS; have hS := hS.ns; refine zn ?_; refine zr ?_; refine Q20 vw (Q9 (n := 2) (by kernel_rfl) (by kernel_rfl) (hS.blkAt fd) (by rfl) (by rfl)) ?_)
         all_goals (first | (refine ⟨_, rfl, ?_, hS.sp⟩; rw [if_pos (by omega), Q5P (by rw [Q3a]; decide), Qar (by decide)]; rfl; done) | (refine ⟨_, rfl, ?_, hS.sp⟩; rw [if_neg (by omega), Q2s, Q2r Qq, hd, Q7 hx1]; rw [Qj (by rw [Q1a (c := 1) (by unfold QH; rw [if_pos (by omega)]) (by decide)]; simp), Q1a (c := 1) (by unfold QH; rw [if_pos (by omega)]) (by decide)]; rfl; done)))
      | (refine Q4 rfl ?_ -- QZ c2
         all_goals refine zsk ?_)
    all_goals (refine Q0 ?_; refine Q0 ?_; refine Q1 ?_; refine Q2 rfl ?_; refine zl hS ?_; refine Q2 rfl ?_; refine zl hS ?_; refine zR2 (c := QrP hp1 hS) (h := ?_); rintro v1 w1 ⟨rfl, hS⟩; refine zm ?_; refine zn ?_; refine Q0 ?_; refine Q1 ?_; refine zm ?_)
    all_goals (first | (refine Q1c ?_) | (refine Q1d ?_) | (refine Qp rfl rfl (fun hc => ?_) (fun hc => ?_)))
    all_goals (refine zn ?_)
    all_goals
      first
      | (refine Q3 rfl ?_ -- QZ c3
         all_goals (refine Q0 ?_; refine Q1 ?_; refine zm ?_; refine zm ?_; refine zR1 (c := Q6u f (by omega) hS) (h := ?_); rintro v1 w1 ⟨rfl, hS⟩; refine zR2 (c := rF_c hS) (h := ?_); rintro v1 w1 ⟨rfl, hS⟩; refine zsn hS ?_; intro w1 hS; have hS := hS.ns; refine zn ?_; refine zr ?_; refine Q20 vw (Q9 (n := 2) (by kernel_rfl) (by kernel_rfl) (hS.blkAt fd) (by rfl) (by rfl)) ?_)
         all_goals (first | (refine ⟨_, rfl, ?_, hS.sp⟩; rw [if_pos (by omega), Q5P (by rw [Q3a]; decide), Qar (by decide)]; rfl; done) | (refine ⟨_, rfl, ?_, hS.sp⟩; rw [if_neg (by omega), Q2s, Q2r Qq, hd, Q7 hx1]; rw [Qj (by rw [Q1a (c := 1) (by unfold QH; rw [if_pos (by omega)]) (by decide)]; simp), Q1a (c := 1) (by unfold QH; rw [if_pos (by omega)]) (by decide)]; rfl; done) | (refine ⟨_, rfl, ?_, hS.sp⟩; have e := Q1a (n := m.funcs.length) (f := f) (x := x1) (c := QA x1.params x1.regs) (by unfold QH; rw [if_neg (by omega), if_pos (by assumption)]) (by assumption); rw [if_neg (by omega), Q2s, Q2r Qq, hd, Q7 hx1, Qj (by rw [e]; assumption), e]; rfl; done)))
      | (refine Q4 rfl ?_ -- QZ c3
         all_goals refine zsk ?_)
    all_goals (refine Q0 ?_; refine Q0 ?_; refine Q1 ?_; refine Q2 rfl ?_; refine zl hS ?_; refine Q2 rfl ?_; refine zl hS ?_; refine zR2 (c := QrP hr1 hS) (h := ?_); rintro v1 w1 ⟨rfl, hS⟩; refine zm ?_; refine zn ?_; refine Q0 ?_; refine Q1 ?_; refine zm ?_)
    all_goals (first | (refine Q1c ?_) | (refine Q1d ?_) | (refine Qp rfl rfl (fun hc => ?_) (fun hc => ?_)))
    all_goals (refine zn ?_)
    all_goals
      first
      | (refine Q3 rfl ?_ -- QZ c4
         all_goals (refine Q0 ?_; refine Q1 ?_; refine zm ?_; refine zm ?_; refine zR1 (c := Q6u f (by omega) hS) (h := ?_); rintro v1 w1 ⟨rfl, hS⟩; refine zR2 (c := rF_c hS) (h := ?_); rintro v1 w1 ⟨rfl, hS⟩; refine zsn hS ?_; intro w1 hS; have hS := hS.ns; refine zn ?_; refine zr ?_; refine Q20 vw (Q9 (n := 2) (by kernel_rfl) (by kernel_rfl) (hS.blkAt fd) (by rfl) (by rfl)) ?_)
         all_goals (first | (refine ⟨_, rfl, ?_, hS.sp⟩; rw [if_pos (by omega), Q5P (by rw [Q3a]; decide), Qar (by decide)]; rfl; done) | (refine ⟨_, rfl, ?_, hS.sp⟩; rw [if_neg (by omega), Q2s, Q2r Qq, hd, Q7 hx1]; rw [Qj (by rw [Q1a (c := 1) (by unfold QH; rw [if_pos (by omega)]) (by decide)]; simp), Q1a (c := 1) (by unfold QH; rw [if_pos (by omega)]) (by decide)]; rfl; done) | (refine ⟨_, rfl, ?_, hS.sp⟩; have e := Q1a (n := m.funcs.length) (f := f) (x := x1) (c := QA x1.params x1.regs) (by unfold QH; rw [if_neg (by omega), if_pos (by assumption)]) (by assumption); rw [if_neg (by omega), Q2s, Q2r Qq, hd, Q7 hx1, Qj (by rw [e]; assumption), e]; rfl; done) | (refine ⟨_, rfl, ?_, hS.sp⟩; have e := Q1a (n := m.funcs.length) (f := f) (x := x1) (c := QA x1.results x1.regs) (by unfold QH; rw [if_neg (by omega), if_neg (by assumption), if_pos (by assumption)]) (by assumption); rw [if_neg (by omega), Q2s, Q2r Qq, hd, Q7 hx1, Qj (by rw [e]; assumption), e]; rfl; done)))
      | (refine Q4 rfl ?_ -- QZ c4
         all_goals refine zsk ?_)
    refine zML hS [1, 2, 3, 4] (fun A LL ρ' w' => Has ρ' A ∧ Has ρ' [] ∧ (¬ (x1.regs < 0 ∨ 6 < x1.regs)) ∧ (¬ QA x1.params x1.regs ≠ 0) ∧ (¬ QA x1.results x1.regs ≠ 0) ∧ (¬ (x1.blocks.length < 1 ∨ 12 < x1.blocks.length)) ∧ St cx w' (LL)) ?_ ?_
    · skip
      all_goals (refine Q0 ?_; refine Q1 ?_; refine Q2 rfl ?_; refine zl hS ?_; refine zL ?_)
      all_goals (first | (refine Q1Q ?_) | (refine Q1R ?_) | (refine QD rfl rfl (fun hc => ?_) (fun hc => ?_)))
      all_goals (refine zm ?_; (first | refine s_gn rfl rfl ?_ | (refine s_gy rfl ?_; refine Q2 rfl ?_)); (first | refine s_gn rfl rfl ?_ | (refine s_gy rfl ?_; refine zl hS ?_)); (first | refine s_gn rfl rfl ?_ | (refine s_gy rfl ?_; refine zL ?_)))
      all_goals (first | refine s_gn rfl rfl ?_ | (refine s_gy rfl ?_; (first | (refine QK ?_) | (refine QM ?_) | (refine Qi rfl rfl (fun hc => ?_) (fun hc => ?_)))))
      all_goals ((first | (refine zpt ?_) | (refine zpf ?_)); refine zn ?_)
      all_goals
        first
        | (refine Q3 rfl ?_ -- QZ c5
           all_goals (refine Q0 ?_; refine Q1 ?_; refine zm ?_; refine zR1 (c := Q6u f (by omega) hS) (h := ?_); rintro v1 w1 ⟨rfl, hS⟩; refine zR2 (c := rF_c hS) (h := ?_); rintro v1 w1 ⟨rfl, hS⟩; refine zsn hS ?_; intro w1 hS; have hS := hS.ns; refine zn ?_; refine zr ?_; refine Q20 vw (Q9 (n := 2) (by kernel_rfl) (by kernel_rfl) (hS.blkAt fd) (by rfl) (by rfl)) ?_)
           all_goals (first | (refine ⟨_, rfl, ?_, hS.sp⟩; rw [if_pos (by omega), Q5P (by rw [Q3a]; decide), Qar (by decide)]; rfl; done) | (refine ⟨_, rfl, ?_, hS.sp⟩; rw [if_neg (by omega), Q2s, Q2r Qq, hd, Q7 hx1]; rw [Qj (by rw [Q1a (c := 1) (by unfold QH; rw [if_pos (by omega)]) (by decide)]; simp), Q1a (c := 1) (by unfold QH; rw [if_pos (by omega)]) (by decide)]; rfl; done) | (refine ⟨_, rfl, ?_, hS.sp⟩; have e := Q1a (n := m.funcs.length) (f := f) (x := x1) (c := QA x1.params x1.regs) (by unfold QH; rw [if_neg (by omega), if_pos (by assumption)]) (by assumption); rw [if_neg (by omega), Q2s, Q2r Qq, hd, Q7 hx1, Qj (by rw [e]; assumption), e]; rfl; done) | (refine ⟨_, rfl, ?_, hS.sp⟩; have e := Q1a (n := m.funcs.length) (f := f) (x := x1) (c := QA x1.results x1.regs) (by unfold QH; rw [if_neg (by omega), if_neg (by assumption), if_pos (by assumption)]) (by assumption); rw [if_neg (by omega), Q2s, Q2r Qq, hd, Q7 hx1, Qj (by rw [e]; assumption), e]; rfl; done) | (refine ⟨_, rfl, ?_, hS.sp⟩; have e := Q1a (n := m.funcs.length) (f := f) (x := x1) (c := 2) (by unfold QH; rw [if_neg (by omega), if_neg (by assumption), if_neg (by assumption), if_pos (by omega)]) (by decide); rw [if_neg (by omega), Q2s, Q2r Qq, hd, Q7 hx1, Qj (by rw [e]; simp), e]; rfl; done)))
        | (refine Q4 rfl ?_ -- QZ c5
           all_goals refine zsk ?_)
      all_goals (exact ⟨zh, zh, by omega, by assumption, by assumption, by omega, hS.sp⟩)
    rintro ρ w1 ⟨hA, hρ, k1, k2, k3, k4, hS⟩; obtain ⟨ρ, rfl⟩ := env2 hA hρ
    refine zML hS [1, 2, 3, 4] (fun A LL ρ' w' => Has ρ' A ∧ Has ρ' [] ∧ (QH f x1 = 0) ∧ St cx w' (LL)) ?_ ?_
    · skip
      all_goals (refine Q0 ?_; refine Q1 ?_; refine zm ?_)
      all_goals (first | (refine Qy ?_) | (refine QC ?_) | (refine Qn rfl rfl (fun hc => ?_) (fun hc => ?_)))
      all_goals (refine zn ?_)
      all_goals
        first
        | (refine Q3 rfl ?_ -- QZ c6
           all_goals (refine Q0 ?_; refine Q1 ?_)
           refine zKL hS 9 [1, 2, 3, 4] (fun A LL ρ' w' => ∃ (q : Bool), Has ρ' A ∧ Has ρ' [(90, .bool q)] ∧ (q = true ↔ (x1.regs = 0 ∧ x1.params.length = 0)) ∧ St cx w' (LL)) ?_ ?_
           · skip
             all_goals (refine Q2 rfl ?_; refine zl hS ?_)
             all_goals (first | (refine Qy ?_) | (refine QC ?_) | (refine Qn rfl rfl (fun hc => ?_) (fun hc => ?_)))
             all_goals (refine zm ?_; (first | refine s_gn rfl rfl ?_ | (refine s_gy rfl ?_; refine Q2 rfl ?_)); (first | refine s_gn rfl rfl ?_ | (refine s_gy rfl ?_; refine zl hS ?_)); (first | refine s_gn rfl rfl ?_ | (refine s_gy rfl ?_; refine zL ?_)))
             all_goals (first | refine s_gn rfl rfl ?_ | (refine s_gy rfl ?_; (first | (refine Qy ?_) | (refine QC ?_) | (refine Qn rfl rfl (fun hc => ?_) (fun hc => ?_)))))
             all_goals ((first | (refine zpt ?_) | (refine zpf ?_)); refine Q59 ?_; refine Q2z ?_)
             all_goals (first | (exact ⟨_, zh, zh, by exact ⟨fun _ => ⟨by omega, by omega⟩, fun _ => rfl⟩, hS.sp⟩) | (exact ⟨_, zh, zh, by exact ⟨fun h => Bool.noConfusion h, fun h => by omega⟩, hS.sp⟩))
           rintro ρ w1 ⟨q, hA, hρ, hq, hS⟩; obtain ⟨ρ, rfl⟩ := env2 hA hρ
           all_goals (refine zm ?_; refine zn ?_; refine Q0 ?_; refine Q0 ?_; refine Q1 ?_; refine zm ?_; refine zn ?_; refine Q8 ?_)
           refine zoL hS [1, 2, 3, 4] (fun A LL ρ' w' => ∃ (i : Nat) (q : Bool), Has ρ' A ∧ Has ρ' [(7, .bool q), (8, .int .i64 i)] ∧ (i ≤ x1.results.length) ∧ (q = true ↔ (x1.regs = 0 ∧ x1.params.length = 0 ∧ ∀ t ∈ x1.results.take i, t.kind = 1)) ∧ (f = 0) ∧ St cx w' (LL)) (fun ρ' _ => (x1.results.length - iv (ρ' 8)).toNat) ?_ ?_
           · exact ⟨0, q, zh, zh, (by omega), by rw [hq]; simp, by omega, hS.sp⟩
           rintro ρ w1 ⟨i, q, hA, hρ, hi, hq2, hf0, hS⟩; obtain ⟨ρ, rfl⟩ := env2 hA hρ
           unfold Q7A
           all_goals (refine Q0 ?_; refine Q0 ?_; refine Q1 ?_; refine zm ?_; refine Q2 rfl ?_; refine zl hS ?_; refine zL ?_; refine Qt rfl rfl ?_; refine zn ?_)
           refine Qm rfl (fun hc => ?_) (fun hc => ?_)
           · skip
             all_goals (refine zsk ?_; refine Q0 ?_; refine Q8 ?_)
             all_goals (cases q)
             all_goals (refine Q1 ?_; refine zm ?_; refine zm ?_; (first | refine s_gn rfl rfl ?_ | (refine s_gy rfl ?_; refine Q2 rfl ?_)); (first | refine s_gn rfl rfl ?_ | (refine s_gy rfl ?_; refine zl hS ?_)); (first | refine s_gn rfl rfl ?_ | (refine s_gy rfl ?_; refine zm ?_)); (first | refine s_gn rfl rfl ?_ | (refine s_gy rfl ?_; refine zi ?_; intro b2 o2 cs2 x2 hat2 hx2 he2; obtain ⟨vl2, rfl, hl2⟩ := QX he2)); (first | refine s_gn rfl rfl ?_ | (refine s_gy rfl ?_; (first | refine Q2 rfl ?_ | refine Q1r rfl ?_))); (first | refine s_gn rfl rfl ?_ | (refine s_gy rfl ?_; (first | (refine zl hS ?_) | (refine zlk hS ?_)))))
             all_goals (first | refine s_gn rfl rfl ?_ | (refine s_gy rfl ?_; (first | (refine Qy ?_) | (refine QC ?_) | (refine Qn rfl rfl (fun hc => ?_) (fun hc => ?_)))))
             all_goals ((first | (refine zpt ?_) | (refine zpf ?_)); refine zm ?_; refine zn ?_; refine Q1 ?_; refine zm ?_; refine zad ?_; refine zm ?_; refine zn ?_)
             all_goals (first | (exact ⟨⟨i + 1, false, zh, zh, (by omega), by exact ⟨fun h => Bool.noConfusion h, fun h => hq2.2 ⟨h.1, h.2.1, fun t ht => h.2.2 t (List.mem_of_mem_take (i := i) (by rw [List.take_take, Nat.min_eq_left (by omega)]; exact ht))⟩⟩, hf0, hS.sp⟩, Qh (by omega)⟩) | (exact ⟨⟨i + 1, true, zh, zh, (by omega), by exact ⟨fun _ => ⟨(hq2.1 rfl).1, (hq2.1 rfl).2.1, Qb9 (hq2.1 rfl).2.2 hx2 (by assumption)⟩, fun _ => rfl⟩, hf0, hS.sp⟩, Qh (by omega)⟩) | (exact ⟨⟨i + 1, false, zh, zh, (by omega), by exact ⟨fun h => Bool.noConfusion h, fun h => absurd (h.2.2 x2 (by rw [Q4M hx2]; simp)) (by assumption)⟩, hf0, hS.sp⟩, Qh (by omega)⟩))
           · skip
             all_goals (refine zex ?_; refine Q0 ?_)
             all_goals (cases q)
             all_goals (refine Q1 ?_; refine zm ?_; refine Q2b rfl ?_; refine zn ?_)
             all_goals
               first
               | (refine Q3 rfl ?_ -- QZ c8
                  all_goals (refine Q0 ?_; refine Q1 ?_; refine zm ?_; refine zR1 (c := Q6u f (by omega) hS) (h := ?_); rintro v1 w1 ⟨rfl, hS⟩; refine zR2 (c := rF_c hS) (h := ?_); rintro v1 w1 ⟨rfl, hS⟩; refine zsn hS ?_; intro w1 hS; have hS := hS.ns; refine zn ?_; refine zr ?_; refine Q20 vw (Q9 (n := 2) (by kernel_rfl) (by kernel_rfl) (hS.blkAt fd) (by rfl) (by rfl)) ?_)
                  all_goals (first | (refine ⟨_, rfl, ?_, hS.sp⟩; rw [if_pos (by omega), Q5P (by rw [Q3a]; decide), Qar (by decide)]; rfl; done) | (refine ⟨_, rfl, ?_, hS.sp⟩; rw [if_neg (by omega), Q2s, Q2r Qq, hd, Q7 hx1]; rw [Qj (by rw [Q1a (c := 1) (by unfold QH; rw [if_pos (by omega)]) (by decide)]; simp), Q1a (c := 1) (by unfold QH; rw [if_pos (by omega)]) (by decide)]; rfl; done) | (refine ⟨_, rfl, ?_, hS.sp⟩; have e := Q1a (n := m.funcs.length) (f := f) (x := x1) (c := QA x1.params x1.regs) (by unfold QH; rw [if_neg (by omega), if_pos (by assumption)]) (by assumption); rw [if_neg (by omega), Q2s, Q2r Qq, hd, Q7 hx1, Qj (by rw [e]; assumption), e]; rfl; done) | (refine ⟨_, rfl, ?_, hS.sp⟩; have e := Q1a (n := m.funcs.length) (f := f) (x := x1) (c := QA x1.results x1.regs) (by unfold QH; rw [if_neg (by omega), if_neg (by assumption), if_pos (by assumption)]) (by assumption); rw [if_neg (by omega), Q2s, Q2r Qq, hd, Q7 hx1, Qj (by rw [e]; assumption), e]; rfl; done) | (refine ⟨_, rfl, ?_, hS.sp⟩; have e := Q1a (n := m.funcs.length) (f := f) (x := x1) (c := 2) (by unfold QH; rw [if_neg (by omega), if_neg (by assumption), if_neg (by assumption), if_pos (by omega)]) (by decide); rw [if_neg (by omega), Q2s, Q2r Qq, hd, Q7 hx1, Qj (by rw [e]; simp), e]; rfl; done) | (refine ⟨_, rfl, ?_, hS.sp⟩; have e := Q1a (n := m.funcs.length) (f := f) (x := x1) (c := 18) (by unfold QH; rw [if_neg k1, if_neg k2, if_neg k3, if_neg k4, if_pos]; refine ⟨hf0, ?_⟩; rw [List.take_of_length_le (by omega)] at hq2; refine Classical.byContradiction fun h => ?_; have := hq2.2 ⟨by omega, by omega, fun t ht => Classical.byContradiction fun hk => h (.inr (.inr ⟨t, ht, hk⟩))⟩; cases this) (by decide); rw [if_neg (by omega), Q2s, Q2r Qq, hd, Q7 hx1, Qj (by rw [e]; simp), e]; rfl; done)))
               | (refine Q4 rfl ?_ -- QZ c8
                  all_goals refine zsk ?_)
             all_goals (first | (exact ⟨zh, zh, by unfold QH; rw [if_neg k1, if_neg k2, if_neg k3, if_neg k4, if_neg (fun h => absurd h.1 (by omega))], hS.sp⟩) | (exact ⟨zh, zh, by unfold QH; rw [if_neg k1, if_neg k2, if_neg k3, if_neg k4, if_neg]; rintro ⟨_, h⟩; obtain ⟨a1, a2, a3⟩ := hq2.1 rfl; rw [List.take_of_length_le (by omega)] at a3; rcases h with h | h | ⟨t, ht, hk⟩ <;> first | (exfalso; omega) | exact hk (a3 t ht), hS.sp⟩)))
        | (refine Q4 rfl ?_ -- QZ c6
           all_goals (refine zsk ?_)
           all_goals (exact ⟨zh, zh, by unfold QH; rw [if_neg k1, if_neg k2, if_neg k3, if_neg k4, if_neg (fun h => absurd h.1 (by omega))], hS.sp⟩))
    rintro ρ w1 ⟨hA, hρ, hh, hS⟩; obtain ⟨ρ, rfl⟩ := env2 hA hρ
    all_goals (refine Q0 ?_; refine Q1 ?_; refine zm ?_; refine zn ?_; refine Q8 ?_)
    refine zoL hS [1, 2, 3, 4] (fun A LL ρ' w' => ∃ (b : Nat), Has ρ' A ∧ Has ρ' [(9, .int .i64 b)] ∧ (b ≤ x1.blocks.length) ∧ (QY m.funcs.length f x1 0 x1.blocks = QY m.funcs.length f x1 b (x1.blocks.drop b)) ∧ St cx w' (LL)) (fun ρ' _ => (x1.blocks.length - iv (ρ' 9)).toNat) ?_ ?_
    · exact ⟨0, zh, zh, (by omega), by simp, hS.sp⟩
    rintro ρ w1 ⟨b, hA, hρ, hb, hd2, hS⟩; obtain ⟨ρ, rfl⟩ := env2 hA hρ
    unfold Q7z
    all_goals (refine Q0 ?_; refine Q0 ?_; refine Q1 ?_; refine zm ?_; refine Q2 rfl ?_; refine zl hS ?_; refine zL ?_; refine Qt rfl rfl ?_; refine zn ?_)
    refine Qm rfl (fun hc => ?_) (fun hc => ?_)
    · skip
      all_goals (refine zsk ?_; refine Q0 ?_; refine Q8 ?_; refine Q0 ?_; obtain ⟨y, hy⟩ : ∃ y, x1.blocks[b]? = some y := ⟨_, List.getElem?_eq_getElem (by omega)⟩; have hsy := hsx.2.2.2 y (List.mem_of_getElem? hy); refine Q1 ?_; refine zv hS ?_; refine zm ?_; refine zm ?_; refine zR3 (c := rblock_c hx1 hy (by omega) (by omega) hsy.2.1 hm' hS) (h := ?_); rintro v1 w1 ⟨rfl, hS⟩; unfold fltV; refine Qb hS ?_; intro p10 w1 hS; refine zsn hS ?_; intro w1 hS; have hS := hS.ns; refine zn ?_; refine Q0 ?_; refine Q1 ?_; refine Q2 rfl ?_; refine zl hS ?_)
      all_goals (first | (refine Q1c ?_) | (refine Q1d ?_) | (refine Qp rfl rfl (fun hc => ?_) (fun hc => ?_)))
      all_goals (refine zn ?_)
      all_goals
        first
        | (refine Q3 rfl ?_ -- QZ c10
           all_goals (refine Q0 ?_; refine Q1 ?_; refine zv hS ?_; refine zsn hS ?_; intro w1 hS; have hS := hS.ns; refine zn ?_; refine zr ?_; refine Q20 vw (Q9 (n := 2) (by kernel_rfl) (by kernel_rfl) (hS.blkAt fd) (by rfl) (by rfl)) ?_)
           all_goals (first | (refine ⟨_, rfl, ?_, hS.sp⟩; rw [if_pos (by omega), Q5P (by rw [Q3a]; decide), Qar (by decide)]; rfl; done) | (refine ⟨_, rfl, ?_, hS.sp⟩; rw [if_neg (by omega), Q2s, Q2r Qq, hd, Q7 hx1]; rw [Qj (by rw [Q1a (c := 1) (by unfold QH; rw [if_pos (by omega)]) (by decide)]; simp), Q1a (c := 1) (by unfold QH; rw [if_pos (by omega)]) (by decide)]; rfl; done) | (refine ⟨_, rfl, ?_, hS.sp⟩; have e := Q1a (n := m.funcs.length) (f := f) (x := x1) (c := QA x1.params x1.regs) (by unfold QH; rw [if_neg (by omega), if_pos (by assumption)]) (by assumption); rw [if_neg (by omega), Q2s, Q2r Qq, hd, Q7 hx1, Qj (by rw [e]; assumption), e]; rfl; done) | (refine ⟨_, rfl, ?_, hS.sp⟩; have e := Q1a (n := m.funcs.length) (f := f) (x := x1) (c := QA x1.results x1.regs) (by unfold QH; rw [if_neg (by omega), if_neg (by assumption), if_pos (by assumption)]) (by assumption); rw [if_neg (by omega), Q2s, Q2r Qq, hd, Q7 hx1, Qj (by rw [e]; assumption), e]; rfl; done) | (refine ⟨_, rfl, ?_, hS.sp⟩; have e := Q1a (n := m.funcs.length) (f := f) (x := x1) (c := 2) (by unfold QH; rw [if_neg (by omega), if_neg (by assumption), if_neg (by assumption), if_pos (by omega)]) (by decide); rw [if_neg (by omega), Q2s, Q2r Qq, hd, Q7 hx1, Qj (by rw [e]; simp), e]; rfl; done) | (refine ⟨_, rfl, ?_, hS.sp⟩; have e := Q1a (n := m.funcs.length) (f := f) (x := x1) (c := 18) (by unfold QH; rw [if_neg k1, if_neg k2, if_neg k3, if_neg k4, if_pos]; refine ⟨hf0, ?_⟩; rw [List.take_of_length_le (by omega)] at hq2; refine Classical.byContradiction fun h => ?_; have := hq2.2 ⟨by omega, by omega, fun t ht => Classical.byContradiction fun hk => h (.inr (.inr ⟨t, ht, hk⟩))⟩; cases this) (by decide); rw [if_neg (by omega), Q2s, Q2r Qq, hd, Q7 hx1, Qj (by rw [e]; simp), e]; rfl; done) | (refine ⟨_, rfl, ?_, hS.sp⟩; have e : (QV m.funcs.length f x1 b y).1 ≠ 0 := (by assumption); have e2 : Q2d m.funcs.length f x1 = QV m.funcs.length f x1 b y := (by rw [QgF hh, hd2, Q7 hy, Q5I e]); rw [if_neg (by omega), Q2s, Q2r Qq, hd, Q7 hx1, Qj (by rw [e2]; exact e), e2]; rfl; done)))
        | (refine Q4 rfl ?_ -- QZ c10
           all_goals refine zsk ?_)
      all_goals (refine Q1 ?_; refine zm ?_; refine zad ?_; refine zm ?_; refine zn ?_; exact ⟨⟨b + 1, zh, zh, (by omega), by rw [hd2, Q7 hy, Qez (by omega)], hS.sp⟩, Qh (by omega)⟩)
    · skip
      all_goals (refine zex ?_; refine Q1 ?_; refine zm ?_; refine zad ?_; refine zm ?_; refine zn ?_; exact ⟨⟨f + 1, zh, zh, (by omega), by rw [hd, Q7 hx1, Qju]; rw [QgF hh, hd2, List.drop_of_length_le (by omega)]; rfl, hS.sp⟩, Qh (by omega)⟩)
  · skip
    all_goals (refine zex ?_; refine Q0 ?_; refine Q1 ?_; refine zb0 [_, _] ?_; refine zsn hS ?_; intro w1 hS; have hS := hS.ns; refine zn ?_; refine zr ?_; refine Q20 vw (Q9 (n := 2) (by kernel_rfl) (by kernel_rfl) (hS.blkAt fd) (by rfl) (by rfl)) ?_)
    all_goals (first | (refine ⟨_, rfl, ?_, hS.sp⟩; rw [if_pos (by omega), Q5P (by rw [Q3a]; decide), Qar (by decide)]; rfl; done) | (refine ⟨_, rfl, ?_, hS.sp⟩; rw [if_neg (by omega), Q2s, Q2r Qq, hd, Q7 hx1]; rw [Qj (by rw [Q1a (c := 1) (by unfold QH; rw [if_pos (by omega)]) (by decide)]; simp), Q1a (c := 1) (by unfold QH; rw [if_pos (by omega)]) (by decide)]; rfl; done) | (refine ⟨_, rfl, ?_, hS.sp⟩; have e := Q1a (n := m.funcs.length) (f := f) (x := x1) (c := QA x1.params x1.regs) (by unfold QH; rw [if_neg (by omega), if_pos (by assumption)]) (by assumption); rw [if_neg (by omega), Q2s, Q2r Qq, hd, Q7 hx1, Qj (by rw [e]; assumption), e]; rfl; done) | (refine ⟨_, rfl, ?_, hS.sp⟩; have e := Q1a (n := m.funcs.length) (f := f) (x := x1) (c := QA x1.results x1.regs) (by unfold QH; rw [if_neg (by omega), if_neg (by assumption), if_pos (by assumption)]) (by assumption); rw [if_neg (by omega), Q2s, Q2r Qq, hd, Q7 hx1, Qj (by rw [e]; assumption), e]; rfl; done) | (refine ⟨_, rfl, ?_, hS.sp⟩; have e := Q1a (n := m.funcs.length) (f := f) (x := x1) (c := 2) (by unfold QH; rw [if_neg (by omega), if_neg (by assumption), if_neg (by assumption), if_pos (by omega)]) (by decide); rw [if_neg (by omega), Q2s, Q2r Qq, hd, Q7 hx1, Qj (by rw [e]; simp), e]; rfl; done) | (refine ⟨_, rfl, ?_, hS.sp⟩; have e := Q1a (n := m.funcs.length) (f := f) (x := x1) (c := 18) (by unfold QH; rw [if_neg k1, if_neg k2, if_neg k3, if_neg k4, if_pos]; refine ⟨hf0, ?_⟩; rw [List.take_of_length_le (by omega)] at hq2; refine Classical.byContradiction fun h => ?_; have := hq2.2 ⟨by omega, by omega, fun t ht => Classical.byContradiction fun hk => h (.inr (.inr ⟨t, ht, hk⟩))⟩; cases this) (by decide); rw [if_neg (by omega), Q2s, Q2r Qq, hd, Q7 hx1, Qj (by rw [e]; simp), e]; rfl; done) | (refine ⟨_, rfl, ?_, hS.sp⟩; have e : (QV m.funcs.length f x1 b y).1 ≠ 0 := (by assumption); have e2 : Q2d m.funcs.length f x1 = QV m.funcs.length f x1 b y := (by rw [QgF hh, hd2, Q7 hy, Q5I e]); rw [if_neg (by omega), Q2s, Q2r Qq, hd, Q7 hx1, Qj (by rw [e2]; exact e), e2]; rfl; done) | (refine ⟨_, rfl, ?_, hS.sp⟩; rw [if_neg (by omega), Q2s, Q2r Qq, hd, List.drop_of_length_le (l := m.funcs) (by omega), Q1s]; rfl; done))
theorem kindne_c {t : Ty} {cs : List Value} (ht : tyR.at cx cs t) (hS : St cx w L) : Rets Tryz.prog Q4q [.agg ⟨cs⟩] w fun u w' => u = .bool (decide (t.kind ≠ 1)) ∧ St cx w' L := by
  obtain ⟨v, rfl, hl⟩ := QX ht
  all_goals refine Qhg ?_
  all_goals (unfold code_Check_1_lc; refine Q0 ?_; refine Q1 ?_; refine zb hS ?_; intro p1 w1 hS; refine zm ?_; refine zn ?_; refine Q0 ?_; refine Q1 ?_; refine Q2 rfl ?_; refine zl hS ?_; refine Q6n rfl rfl ?_; refine zm ?_; refine zn ?_; refine zr ?_; refine zf ?_; refine ⟨_, rfl, ?_, hS.sp⟩; (rfl); done)
theorem pcont_c {l : List Ty} {v : Value} (hl : tyR.sl cx v l) (hS : St cx w L) : Rets Tryz.prog Q1M [v, .func (.func Q4q) #[] #[]] w fun u w' => ∃ q, u = .bool q ∧ (q = true ↔ ∃ t ∈ l, t.kind ≠ 1) ∧ St cx w' L := by
  have hlen := hl.len
  have hidx : ∀ {w : World} {L : List Res}, St cx w L → Rets Tryz.prog QU [v, .func (.func Q4q) #[] #[]] w fun u w' => ∃ r : Int, u = .int .i64 r ∧ (0 ≤ r ↔ ∃ t ∈ l, t.kind ≠ 1) ∧ St cx w' L := by
    intro w L hS
    all_goals refine Q2J ?_
    all_goals (unfold slices_IndexFunc_api_Type_api_Type_lc; refine Q0 ?_; refine Q1 ?_; refine zm ?_; refine zn ?_; refine Q0 ?_; refine Q0 ?_; refine Q1 ?_; refine zm ?_; refine zL ?_; refine zm ?_; refine zn ?_; refine Q8 ?_)
    refine zoL hS [0, 1, 7] (fun A LL ρ' w' => ∃ (j : Nat), Has ρ' A ∧ Has ρ' [(8, .int .i64 j)] ∧ (j ≤ l.length) ∧ (∀ t ∈ l.take j, t.kind = 1) ∧ St cx w' (LL)) (fun ρ' _ => (l.length - iv (ρ' 8)).toNat) ?_ ?_
    · exact ⟨0, zh, zh, (by omega), by simp, hS.sp⟩
    rintro ρ w1 ⟨j, hA, hρ, hj, hd, hS⟩; obtain ⟨ρ, rfl⟩ := env2 hA hρ
    unfold Q1L
    all_goals (refine Q0 ?_; refine Q1 ?_; refine Qt rfl rfl ?_; refine zn ?_; refine Q0 ?_)
    refine Qm rfl (fun hc => ?_) (fun hc => ?_)
    · skip
      all_goals (refine zsk ?_; refine Q0 ?_; refine Q8 ?_; refine Q0 ?_; refine Q1 ?_; refine zm ?_; refine zm ?_; refine zn ?_; refine Q0 ?_; refine Q1 ?_; refine zm ?_; refine zm ?_; refine zm ?_; refine zi ?_; intro b1 o1 cs1 x1 hat1 hx1 he1; obtain ⟨vl1, rfl, hl1⟩ := QX he1; (first | (refine zv hS ?_) | (refine zvk hS ?_)))
      all_goals (refine Quw rfl (by kernel_rfl) (by rfl) (kindne_c he1 hS) ?_; rintro v1 w1 ⟨rfl, hS⟩; (cases hdec : decide (x1.kind ≠ 1)); have hg := of_decide_eq_false hdec; rotate_left; have hg := of_decide_eq_true hdec; all_goals skip)
      all_goals (refine zn ?_)
      all_goals
        first
        | (refine Q3 rfl ?_ -- QU c1
           all_goals (refine Q0 ?_; refine Q1 ?_; refine zm ?_; refine zm ?_; refine zn ?_; refine zr ?_; refine zf ?_)
           all_goals (exact ⟨_, rfl, j, rfl, ⟨fun _ => ⟨x1, List.mem_of_getElem? hx1, hg⟩, fun _ => by omega⟩, hS.sp⟩))
        | (refine Q4 rfl ?_ -- QU c1
           all_goals refine zsk ?_)
      all_goals (refine Q1 ?_; refine zad ?_; refine zm ?_; refine zn ?_; exact ⟨⟨j + 1, zh, zh, (by omega), Qb9 hd hx1 (Classical.not_not.1 hg), hS.sp⟩, Qh (by omega)⟩)
    · skip
      all_goals (refine zex ?_; refine Q0 ?_; refine Q1 ?_; refine zm ?_; refine zn ?_; refine zr ?_; refine zf ?_)
      all_goals (first | (exact ⟨_, rfl, j, rfl, ⟨fun _ => ⟨x1, List.mem_of_getElem? hx1, hg⟩, fun _ => by omega⟩, hS.sp⟩) | (exact ⟨_, rfl, -1, rfl, ⟨fun h => by omega, fun ⟨t, ht, hk⟩ => absurd (QfZ hd (by omega) t ht) hk⟩, hS.sp⟩))
  all_goals refine Q2p ?_
  all_goals (unfold slices_ContainsFunc_api_Type_api_Type_lc; refine Q0 ?_; refine Q1 ?_; refine zm ?_; refine zn ?_; refine Q0 ?_; refine Q1 ?_; refine zm ?_; refine zm ?_; refine zR2 (c := hidx hS) (h := ?_); rintro v1 w1 ⟨r, rfl, hr, hS⟩)
  all_goals (first | (refine QdO ?_) | (refine QdP ?_) | (refine Q3G rfl rfl (fun hc => ?_) (fun hc => ?_)))
  all_goals (refine zm ?_; refine zn ?_; refine zr ?_; refine zf ?_)
  all_goals (first | (exact ⟨_, rfl, _, rfl, ⟨fun _ => hr.1 (by omega), fun _ => rfl⟩, hS.sp⟩) | (exact ⟨_, rfl, _, rfl, ⟨fun h => Bool.noConfusion h, fun h => by have := hr.2 h; omega⟩, hS.sp⟩))
theorem QvC {g : Flt} {a : Int} {x : Fun} {b : Nat} {y : Block} {q : Bool} (hq : q = true ↔ (b = 0 ∧ (y.regs ≠ x.regs ∨ y.params ≠ x.params))) :
    orF (orF (orF (orF g (mkF (if y.regs < x.regs ∨ 16 < y.regs then 1 else 0) a)) (mkF (QA y.params y.regs) a)) (mkF (if q = true then 9 else 0) a)) (mkF (if 40 < y.code.length then 2 else 0) a) = orF g (mkF (Qx x b y) a) := by
  rw [Q39, Q39, Q39]
  congr 2
  unfold Qx
  by_cases h0 : y.regs < x.regs ∨ 16 < y.regs
  · rw [if_pos h0, if_pos h0]; simp only [Q6y (show (1 : Int) ≠ 0 by decide)]
  · rw [if_neg h0, if_neg h0, Q5Q]
    by_cases h : QA y.params y.regs ≠ 0
    · rw [if_pos h]; simp only [Q6y h]
    · rw [if_neg h, Classical.not_not.1 h, Q5Q]
      by_cases hb : b = 0 ∧ (y.regs ≠ x.regs ∨ y.params ≠ x.params)
      · rw [if_pos hb, if_pos (hq.2 hb)]; simp only [Q6y (show (9 : Int) ≠ 0 by decide)]
      · rw [if_neg hb, if_neg (fun h => hb (hq.1 h)), Q5Q]
theorem pblock_c {fs : List Fun} {f b : Nat} {x : Fun} {y : Block} {vf : Value} {g : Flt} {a : Int} {p : Nat} (hxf : fs[f]? = some x) (hyb : x.blocks[b]? = some y) (hf0 : f ≤ 1000000) (hb0 : b ≤ 1000000) (hlc : y.code.length ≤ 100000) (hf : funcR.sl cx vf fs) (hS : St cx w L) (hi : nth L i = some (jdg p vf g a)) :
    Rets Tryz.prog Q2V [.pointer (some ⟨p, 0, none⟩), .int .i64 f, .int .i64 b] w fun u w' => u = .tuple #[] ∧ ∃ a', St cx w' (L.set i (jdg p vf (orF g (QV fs.length f x b y)) a')) := by
  have hflt := (List.getElem?_eq_some_iff.1 hxf).1
  have hblt := (List.getElem?_eq_some_iff.1 hyb).1
  have hS := hS.out hi
  all_goals refine Qa7 ?_
  all_goals (unfold code_judge_block_lc; refine Q0 ?_; refine Q1 ?_; refine zm ?_; refine Qv rfl ?_; refine Q2 rfl ?_; refine Q2 rfl ?_; refine zl hS ?_; refine zm ?_; refine zi ?_; intro b1 o1 cs1 x1 hat1 hx1 he1; obtain ⟨vp1, vr1, vb1, rfl, hp1, hr1, hb1⟩ := Q1t he1; (first | (refine zv hS ?_) | (refine zvk hS ?_)); refine Qb hS ?_; intro p6 w1 hS; refine zsn hS ?_; intro w1 hS; have hS := hS.ns; refine zn ?_; have e1 : x = x1 := Option.some.inj (hxf.symm.trans hx1); subst e1; refine Q0 ?_; refine Q1 ?_; refine Q2 rfl ?_; refine zl hS ?_; refine zm ?_; refine zi ?_; intro b2 o2 cs2 x2 hat2 hx2 he2; obtain ⟨vp2, vc2, ve21, ve22, ve23, ve24, ve25, rfl, hp2, hc2, he21, he22, he23, he24, he25⟩ := Q1w he2; (first | (refine zv hS ?_) | (refine zvk hS ?_)); refine Qb hS ?_; intro p7 w1 hS; refine zsn hS ?_; intro w1 hS; have hS := hS.ns; refine zn ?_; have e2 : y = x2 := Option.some.inj (hyb.symm.trans hx2); subst e2)
  refine zM [0, 1, 2, 6, 7] (fun A ρ' w' => Has ρ' A ∧ Has ρ' [] ∧ St cx w' (blk p7 79 [.int .i64 y.regs, vp2, vc2, .int .i64 y.fin.op, .int .i64 y.fin.a, .int .i64 y.fin.yes.block, ve21, ve22, .int .i64 y.fin.no.block, ve23, ve24, ve25] :: blk p6 53 [.int .i64 x.regs, vp1, vr1, vb1] :: jdg p vf g (Q3t f b) :: L.eraseIdx i)) ?_ ?_
  · skip
    all_goals (refine Q1 ?_; refine zm ?_; refine zm ?_; refine zm ?_; refine zR2 (c := Qtx f b hf0 hb0 hS) (h := ?_); rintro v1 w1 ⟨rfl, hS⟩; refine Qv rfl ?_; refine Q2 rfl ?_; refine zst hS ?_; intro w1 hS; have hS := hS.ns; refine zn ?_; exact ⟨zh, zh, hS.sp⟩)
  rintro ρ w1 ⟨hA, hρ, hS⟩; obtain ⟨ρ, rfl⟩ := env2 hA hρ
  refine zM [0, 1, 2, 6, 7] (fun A ρ' w' => Has ρ' A ∧ Has ρ' [] ∧ St cx w' (blk p7 79 [.int .i64 y.regs, vp2, vc2, .int .i64 y.fin.op, .int .i64 y.fin.a, .int .i64 y.fin.yes.block, ve21, ve22, .int .i64 y.fin.no.block, ve23, ve24, ve25] :: blk p6 53 [.int .i64 x.regs, vp1, vr1, vb1] :: jdg p vf (orF g (mkF (if y.regs < x.regs ∨ 16 < y.regs then 1 else 0) (Q3t f b))) (Q3t f b) :: L.eraseIdx i)) ?_ ?_
  · skip
    all_goals (refine Q1 ?_; refine zm ?_; refine Q2 rfl ?_; refine zl hS ?_; refine Q2 rfl ?_; refine zl hS ?_)
    all_goals (first | (refine Q1Q ?_) | (refine Q1R ?_) | (refine QD rfl rfl (fun hc => ?_) (fun hc => ?_)))
    all_goals (refine zm ?_; (first | refine s_gn rfl rfl ?_ | (refine s_gy rfl ?_; refine Q2 rfl ?_)); (first | refine s_gn rfl rfl ?_ | (refine s_gy rfl ?_; refine zl hS ?_)))
    all_goals (first | refine s_gn rfl rfl ?_ | (refine s_gy rfl ?_; (first | (refine QK ?_) | (refine QM ?_) | (refine Qi rfl rfl (fun hc => ?_) (fun hc => ?_)))))
    all_goals ((first | (refine zpt ?_) | (refine zpf ?_)); refine zR3 (c := Q2A (g := _) (by intro _; decide) hS fd) (h := ?_); rintro v1 w1 ⟨rfl, hS⟩; simp only [List.set_cons_zero, List.set_cons_succ, if_true, Bool.false_eq_true, if_false] at hS; refine zn ?_; exact ⟨zh, zh, by first | (rw [if_pos (by omega)]; exact hS.sp) | (rw [if_neg (by omega)]; exact hS.sp)⟩)
  rintro ρ w1 ⟨hA, hρ, hS⟩; obtain ⟨ρ, rfl⟩ := env2 hA hρ
  all_goals (refine Q0 ?_; refine Q1 ?_; refine zm ?_; refine Q2 rfl ?_; refine zl hS ?_; refine Q2 rfl ?_; refine zl hS ?_; refine zR3 (c := QrU hp2 hS fd) (h := ?_); rintro v1 w1 ⟨rfl, hS⟩; have hS := hS.ns; refine zn ?_; refine Q0 ?_; refine Q1 ?_)
  refine zKL hS 18 [0, 1, 2, 6, 7] (fun A LL ρ' w' => ∃ (q : Bool), Has ρ' A ∧ Has ρ' [(46, .pointer (some ⟨p, 0, none⟩)), (63, .bool q)] ∧ (q = true ↔ (b = 0 ∧ (y.regs ≠ x.regs ∨ y.params ≠ x.params))) ∧ St cx w' (LL)) ?_ ?_
  · skip
    all_goals (refine zm ?_; refine zm ?_)
    all_goals (first | (refine Qy ?_) | (refine QC ?_) | (refine Qn rfl rfl (fun hc => ?_) (fun hc => ?_)))
    all_goals (refine zm ?_; (first | refine s_gn rfl rfl ?_ | (refine s_gy rfl ?_; refine Q2 rfl ?_)); (first | refine s_gn rfl rfl ?_ | (refine s_gy rfl ?_; refine zl hS ?_)); (first | refine s_gn rfl rfl ?_ | (refine s_gy rfl ?_; refine Q2 rfl ?_)); (first | refine s_gn rfl rfl ?_ | (refine s_gy rfl ?_; refine zl hS ?_)))
    all_goals (first | refine s_gn rfl rfl ?_ | (refine s_gy rfl ?_; (first | (refine Q1c ?_) | (refine Q1d ?_) | (refine Qp rfl rfl (fun hc => ?_) (fun hc => ?_)))))
    all_goals ((first | refine s_gn rfl rfl ?_ | (refine s_gy rfl ?_; refine zm ?_)); (first | refine s_gn rfl rfl ?_ | (refine s_gy rfl ?_; refine Q2 rfl ?_)); (first | refine s_gn rfl rfl ?_ | (refine s_gy rfl ?_; refine zl hS ?_)); (first | refine s_gn rfl rfl ?_ | (refine s_gy rfl ?_; refine Q2 rfl ?_)); (first | refine s_gn rfl rfl ?_ | (refine s_gy rfl ?_; refine zl hS ?_)))
    all_goals (first | refine s_gn rfl rfl ?_ | (refine s_gy rfl ?_; refine zR3 (c := eqfT_c (by kernel_rfl) (fun a _ b _ {_ _ _ _} h1 h2 h3 => psame_c a b h1 h2 h3) hp2 hp1 hS) (h := ?_); rintro v1 w1 ⟨rfl, hS⟩; (cases hdec : decide (y.params = x.params)); have hg := of_decide_eq_false hdec; rotate_left; have hg := of_decide_eq_true hdec; all_goals skip))
    all_goals ((first | refine s_gn rfl rfl ?_ | (refine s_gy rfl ?_; refine Q2b rfl ?_)); (first | refine s_gn rfl rfl ?_ | (refine s_gy rfl ?_; (first | (refine zpt ?_) | (refine zpf ?_)))); (first | (refine zpt ?_) | (refine zpf ?_)); refine Q59 ?_; refine Q2z ?_)
    all_goals (first | (exact ⟨_, zh, zh, by exact ⟨fun _ => ⟨by omega, .inl (by assumption)⟩, fun _ => rfl⟩, hS.sp⟩) | (exact ⟨_, zh, zh, by exact ⟨fun _ => ⟨by omega, .inr (by assumption)⟩, fun _ => rfl⟩, hS.sp⟩) | (exact ⟨_, zh, zh, by exact ⟨fun h => Bool.noConfusion h, fun h => absurd h.1 (by omega)⟩, hS.sp⟩) | (exact ⟨_, zh, zh, by exact ⟨fun h => Bool.noConfusion h, fun h => h.2.elim (fun h => absurd h (by assumption)) (fun h => absurd (by assumption) h)⟩, hS.sp⟩))
  rintro ρ w1 ⟨q, hA, hρ, hq, hS⟩; obtain ⟨ρ, rfl⟩ := env2 hA hρ
  all_goals (refine zR3 (c := Q2A (g := _) (by intro _; decide) hS fd) (h := ?_); rintro v1 w1 ⟨rfl, hS⟩; simp only [List.set_cons_zero, List.set_cons_succ, if_true, Bool.false_eq_true, if_false] at hS; refine zn ?_)
  refine zM [0, 1, 2, 6, 7] (fun A ρ' w' => Has ρ' A ∧ Has ρ' [] ∧ St cx w' (blk p7 79 [.int .i64 y.regs, vp2, vc2, .int .i64 y.fin.op, .int .i64 y.fin.a, .int .i64 y.fin.yes.block, ve21, ve22, .int .i64 y.fin.no.block, ve23, ve24, ve25] :: blk p6 53 [.int .i64 x.regs, vp1, vr1, vb1] :: jdg p vf (orF g (mkF (Qx x b y) (Q3t f b))) (Q3t f b) :: L.eraseIdx i)) ?_ ?_
  · skip
    all_goals (refine Q1 ?_; refine zm ?_; refine Q2 rfl ?_; refine zl hS ?_; refine zL ?_)
    all_goals (first | (refine QK ?_) | (refine QM ?_) | (refine Qi rfl rfl (fun hc => ?_) (fun hc => ?_)))
    all_goals (refine zR3 (c := Q2A (g := _) (by intro _; decide) hS fd) (h := ?_); rintro v1 w1 ⟨rfl, hS⟩; simp only [List.set_cons_zero, List.set_cons_succ, if_true, Bool.false_eq_true, if_false] at hS; refine zn ?_; exact ⟨zh, zh, by rw [← QvC hq]; first | (rw [if_pos (c := 40 < y.code.length) (by omega)]; exact hS.sp) | (rw [if_neg (c := 40 < y.code.length) (by omega)]; exact hS.sp)⟩)
  rintro ρ w1 ⟨hA, hρ, hS⟩; obtain ⟨ρ, rfl⟩ := env2 hA hρ
  all_goals (refine Q0 ?_; refine Q0 ?_; refine Q1 ?_; refine zm ?_; refine zn ?_; refine Q8 ?_)
  refine zo [0, 1, 2, 6, 7] (fun A ρ' w' => ∃ (j : Nat) (h : Flt) (at2 : Int), Has ρ' A ∧ Has ρ' [(8, .int .i64 j)] ∧ (j ≤ y.code.length) ∧ (orF (orF g (mkF (Qx x b y) (Q3t f b))) (Q1b fs.length f b 0 y.code) = orF h (Q1b fs.length f b j (y.code.drop j))) ∧ St cx w' (blk p7 79 [.int .i64 y.regs, vp2, vc2, .int .i64 y.fin.op, .int .i64 y.fin.a, .int .i64 y.fin.yes.block, ve21, ve22, .int .i64 y.fin.no.block, ve23, ve24, ve25] :: blk p6 53 [.int .i64 x.regs, vp1, vr1, vb1] :: jdg p vf h at2 :: L.eraseIdx i)) (fun ρ' _ => (y.code.length - iv (ρ' 8)).toNat) ?_ ?_
  · exact ⟨0, _, _, zh, zh, (by omega), by rw [List.drop_zero], hS.sp⟩
  rintro ρ w1 ⟨j, h, at2, hA, hρ, hj, hd, hS⟩; obtain ⟨ρ, rfl⟩ := env2 hA hρ
  unfold Q4d
  all_goals (refine Q0 ?_; refine Q0 ?_; refine Q1 ?_; refine zm ?_; refine Q2 rfl ?_; refine zl hS ?_; refine zL ?_)
  all_goals (first | (refine Q1Q ?_) | (refine Q1R ?_) | (refine QD rfl rfl (fun hc => ?_) (fun hc => ?_)))
  all_goals (refine zm ?_; (first | refine s_gn rfl rfl ?_ | (refine s_gy rfl ?_; refine zm ?_)); (first | refine s_gn rfl rfl ?_ | (refine s_gy rfl ?_; refine Qv rfl ?_)); (first | refine s_gn rfl rfl ?_ | (refine s_gy rfl ?_; refine Q2 rfl ?_)); (first | refine s_gn rfl rfl ?_ | (refine s_gy rfl ?_; (first | refine Q2 rfl ?_ | refine Q1r rfl ?_))); (first | refine s_gn rfl rfl ?_ | (refine s_gy rfl ?_; refine zl hS ?_)))
  all_goals (first | refine s_gn rfl rfl ?_ | (refine s_gy rfl ?_; (first | (refine Qy ?_) | (refine QC ?_) | (refine Qn rfl rfl (fun hc => ?_) (fun hc => ?_)))))
  all_goals ((first | (refine zpt ?_) | (refine zpf ?_)); refine zn ?_)
  all_goals
    first
    | (refine Q3 rfl ?_ -- Q2V c0
       all_goals (refine zsk ?_; refine Q0 ?_; refine Q8 ?_; refine Q0 ?_; refine Q1 ?_; refine zm ?_; refine zm ?_; refine zm ?_; refine zm ?_; refine zR3 (c := pInsAt_c f b j hf0 hb0 (by omega) hS) (h := ?_); rintro v1 w1 ⟨rfl, hS⟩; refine Qv rfl ?_; refine Q2 rfl ?_; refine zst hS ?_; intro w1 hS; have hS := hS.ns; refine zn ?_; have hS : St cx _ (blk p7 79 [.int .i64 y.regs, vp2, vc2, .int .i64 y.fin.op, .int .i64 y.fin.a, .int .i64 y.fin.yes.block, ve21, ve22, .int .i64 y.fin.no.block, ve23, ve24, ve25] :: blk p6 53 [.int .i64 x.regs, vp1, vr1, vb1] :: jdg p vf h (Qhl f b j) :: L.eraseIdx i) := hS; refine Q1 ?_; refine zm ?_; refine Q2 rfl ?_; refine zl hS ?_; refine zm ?_; refine zi ?_; intro b3 o3 cs3 x3 hat3 hx3 he3; obtain ⟨vr3, va3, rfl, hr3, ha3⟩ := Q22 he3; (first | (refine zv hS ?_) | (refine zvk hS ?_)); refine zR2 (c := ins_c he3 hf hS fd) (h := ?_); rintro v1 w1 ⟨rfl, hS⟩; have hS := hS.ns; refine zn ?_; refine Q1 ?_; refine zm ?_; refine zad ?_; refine zm ?_; refine zn ?_)
       all_goals (exact ⟨⟨j + 1, _, _, zh, zh, (by omega), by rw [hd, Q7 hx3, Q1b, Q46], hS.sp⟩, Qh (by omega)⟩))
    | (refine Q4 rfl ?_ -- Q2V c0
       all_goals (refine zex ?_; (first | (rw [List.drop_of_length_le (by omega), Q1b, Qty (b := (0, 0)) rfl] at hd) | (rw [Q5P (a := h) (by assumption)] at hd)); refine Q0 ?_; refine Q1 ?_; refine zm ?_; refine zm ?_; refine zm ?_; refine zR2 (c := pEndAt_c f b hf0 hb0 hS) (h := ?_); rintro v1 w1 ⟨rfl, hS⟩; refine Qv rfl ?_; refine Q2 rfl ?_; refine zst hS ?_; intro w1 hS; have hS := hS.ns; refine zn ?_; have hS : St cx _ (blk p7 79 [.int .i64 y.regs, vp2, vc2, .int .i64 y.fin.op, .int .i64 y.fin.a, .int .i64 y.fin.yes.block, ve21, ve22, .int .i64 y.fin.no.block, ve23, ve24, ve25] :: blk p6 53 [.int .i64 x.regs, vp1, vr1, vb1] :: jdg p vf h (QjL f b) :: L.eraseIdx i) := hS; refine Q1 ?_; refine zm ?_; refine zv hS ?_; refine Q2 rfl ?_; refine zv hS ?_; refine zR3 (c := end_c (e := y.fin) he1 ⟨_, _, _, _, _, rfl, he21, he22, he23, he24, he25⟩ hS fd) (h := ?_); rintro v1 w1 ⟨rfl, hS⟩; have hS := hS.ns; refine zn ?_)
       all_goals (refine Q3j ?_; refine ⟨_, rfl, rfl, QjL f b, ?_⟩; have hS := hS.drop.drop; rw [show orF g (QV fs.length f x b y) = orF h (mkF (Q2Z x.blocks.length y.fin) (QjL f b)) from (by unfold QV; rw [← Q46, ← Q46, hd])]; exact St.back hS hi))
theorem Qvh {g : Flt} {a : Int} {x : Fun} {f : Nat} {q : Bool} (hq : q = true ↔ (f = 0 ∧ (0 < x.regs ∨ 0 < x.params.length ∨ ∃ t ∈ x.results, t.kind ≠ 1))) :
    orF (orF (orF (orF (orF g (mkF (if x.regs < 0 ∨ 6 < x.regs then 1 else 0) a)) (mkF (QA x.params x.regs) a)) (mkF (QA x.results x.regs) a)) (mkF (if x.blocks.length < 1 ∨ 12 < x.blocks.length then 2 else 0) a)) (mkF (if q = true then 18 else 0) a) = orF g (mkF (QH f x) a) := by
  rw [Q39, Q39, Q39, Q39]
  congr 2
  unfold QH
  by_cases h0 : x.regs < 0 ∨ 6 < x.regs
  · rw [if_pos h0, if_pos h0]; simp only [Q6y (show (1 : Int) ≠ 0 by decide)]
  · rw [if_neg h0, if_neg h0, Q5Q]
    by_cases h : QA x.params x.regs ≠ 0
    · rw [if_pos h]; simp only [Q6y h]
    · rw [if_neg h, Classical.not_not.1 h, Q5Q]
      by_cases h1 : QA x.results x.regs ≠ 0
      · rw [if_pos h1]; simp only [Q6y h1]
      · rw [if_neg h1, Classical.not_not.1 h1, Q5Q]
        by_cases h2 : x.blocks.length < 1 ∨ 12 < x.blocks.length
        · rw [if_pos h2, if_pos h2]; simp only [Q6y (show (2 : Int) ≠ 0 by decide)]
        · rw [if_neg h2, if_neg h2, Q5Q]
          by_cases hb : f = 0 ∧ (0 < x.regs ∨ 0 < x.params.length ∨ ∃ t ∈ x.results, t.kind ≠ 1)
          · rw [if_pos hb, if_pos (hq.2 hb)]
          · rw [if_neg hb, if_neg (fun h => hb (hq.1 h))]
theorem Qt5 {m : Module} (hsh : m.Short) {cs : List Value} (hm : modR.at cx cs m) (hS : St cx w L) :
    Rets Tryz.prog Q3Y [.agg ⟨cs⟩] w fun u w' => u = fltV m.fault ∧ St cx w' L := by
  obtain ⟨vf, rfl, hf⟩ := Q2l hm
  have hsl := hsh.1
  have hsf := hsh.2
  obtain ⟨a0, n0, rfl⟩ := Rep.SR.shape hf
  generalize hvf : Value.slice a0 m.funcs.length n0 = vf at *
  all_goals refine Qn5 ?_
  all_goals (unfold code_Check_lc; refine Q0 ?_; refine Q1 ?_; refine zb hS ?_; intro p1 w1 hS; refine Qb hS ?_; intro p2 w1 hS; refine zn ?_; refine Q0 ?_; refine Q1 ?_; refine zv hS ?_; refine QsX (cs := [vf, .int .i64 0, .int .i64 0, .int .i64 (-1)]) vw vw (by subst hvf; rfl) ?_; refine zb hS ?_; intro p9 w1 hS; refine zm ?_; refine zn ?_)
  refine zM [1, 2, 3] (fun A ρ' w' => Has ρ' A ∧ Has ρ' [] ∧ St cx w' (jdg p9 vf (mkF (if m.funcs.length < 1 ∨ 8 < m.funcs.length then 2 else 0) (-1)) (-1) :: blk p2 30 [.int .i64 0, .int .i64 0] :: blk p1 24 [vf] :: L)) ?_ ?_
  · skip
    all_goals (have hS : St cx _ (jdg p9 vf (0, 0) (-1) :: blk p2 30 [.int .i64 0, .int .i64 0] :: blk p1 24 [vf] :: L) := hS; refine Q1 ?_; refine zm ?_; refine Q2 rfl ?_; refine zl hS ?_; refine zL ?_)
    all_goals (first | (refine Qy ?_) | (refine QC ?_) | (refine Qn rfl rfl (fun hc => ?_) (fun hc => ?_)))
    all_goals (refine zm ?_; (first | refine s_gn rfl rfl ?_ | (refine s_gy rfl ?_; refine Q2 rfl ?_)); (first | refine s_gn rfl rfl ?_ | (refine s_gy rfl ?_; refine zl hS ?_)); (first | refine s_gn rfl rfl ?_ | (refine s_gy rfl ?_; refine zL ?_)))
    all_goals (first | refine s_gn rfl rfl ?_ | (refine s_gy rfl ?_; (first | (refine QK ?_) | (refine QM ?_) | (refine Qi rfl rfl (fun hc => ?_) (fun hc => ?_)))))
    all_goals ((first | (refine zpt ?_) | (refine zpf ?_)); refine zR3 (c := Q2A (g := _) (by intro _; decide) hS fd) (h := ?_); rintro v1 w1 ⟨rfl, hS⟩; simp only [List.set_cons_zero, List.set_cons_succ, if_true, Bool.false_eq_true, if_false] at hS; refine zn ?_; exact ⟨zh, zh, by rw [Q2r (QpT _ _)] at hS; first | (rw [if_pos (by omega)]; exact hS.sp) | (rw [if_neg (by omega)]; exact hS.sp)⟩)
  rintro ρ w1 ⟨hA, hρ, hS⟩; obtain ⟨ρ, rfl⟩ := env2 hA hρ
  all_goals (refine Q0 ?_; refine Q0 ?_; refine Q1 ?_; refine zm ?_; refine zn ?_; refine Q8 ?_)
  refine zo [1, 2, 3] (fun A ρ' w' => ∃ (f : Nat) (h : Flt) (a : Int), Has ρ' A ∧ Has ρ' [(4, .int .i64 f)] ∧ (f ≤ m.funcs.length) ∧ (m.fault = orF h (Q1s m.funcs.length f (m.funcs.drop f))) ∧ St cx w' (jdg p9 vf h a :: blk p2 30 [.int .i64 0, .int .i64 0] :: blk p1 24 [vf] :: L)) (fun ρ' _ => (m.funcs.length - iv (ρ' 4)).toNat) ?_ ?_
  · exact ⟨0, _, _, zh, zh, (by omega), by rw [List.drop_zero]; rfl, hS.sp⟩
  rintro ρ w1 ⟨f, h, a, hA, hρ, hj, hd, hS⟩; obtain ⟨ρ, rfl⟩ := env2 hA hρ
  unfold Qb5
  all_goals (refine Q0 ?_; refine Q0 ?_; refine Q1 ?_; refine zm ?_; refine Q2 rfl ?_; refine zl hS ?_; refine zL ?_)
  all_goals (first | (refine Q1Q ?_) | (refine Q1R ?_) | (refine QD rfl rfl (fun hc => ?_) (fun hc => ?_)))
  all_goals (refine zm ?_; (first | refine s_gn rfl rfl ?_ | (refine s_gy rfl ?_; refine zm ?_)); (first | refine s_gn rfl rfl ?_ | (refine s_gy rfl ?_; refine Qv rfl ?_)); (first | refine s_gn rfl rfl ?_ | (refine s_gy rfl ?_; refine Q2 rfl ?_)); (first | refine s_gn rfl rfl ?_ | (refine s_gy rfl ?_; (first | refine Q2 rfl ?_ | refine Q1r rfl ?_))); (first | refine s_gn rfl rfl ?_ | (refine s_gy rfl ?_; refine zl hS ?_)))
  all_goals (first | refine s_gn rfl rfl ?_ | (refine s_gy rfl ?_; (first | (refine Qy ?_) | (refine QC ?_) | (refine Qn rfl rfl (fun hc => ?_) (fun hc => ?_)))))
  all_goals ((first | (refine zpt ?_) | (refine zpf ?_)); refine zn ?_)
  all_goals
    first
    | (refine Q3 rfl ?_ -- Q3Y c0
       all_goals (refine zsk ?_; refine Q0 ?_; refine Q8 ?_; refine Q0 ?_; refine Q1 ?_; refine Q2 rfl ?_; refine zl hS ?_; refine zm ?_; refine zi ?_; intro b1 o1 cs1 x1 hat1 hx1 he1; obtain ⟨vp1, vr1, vb1, rfl, hp1, hr1, hb1⟩ := Q1t he1; (first | (refine zv hS ?_) | (refine zvk hS ?_)); refine Qb hS ?_; intro p5 w1 hS; refine zsn hS ?_; intro w1 hS; have hS := hS.ns; refine zn ?_; have hsx := hsf x1 (List.mem_of_getElem? hx1); have hlb := hsx.2.2.1; have hlp := hp1.len; have hlr := hr1.len; refine Q0 ?_; refine Q1 ?_; refine zm ?_; refine zm ?_; refine zR1 (c := Qv3 f (by omega) hS) (h := ?_); rintro v1 w1 ⟨rfl, hS⟩; refine Qv rfl ?_; refine Q2 rfl ?_; refine zst hS ?_; intro w1 hS; have hS := hS.ns; refine zn ?_)
       refine zM [1, 2, 3, 4, 5] (fun A ρ' w' => Has ρ' A ∧ Has ρ' [] ∧ St cx w' (blk p5 53 [.int .i64 x1.regs, vp1, vr1, vb1] :: jdg p9 vf (orF h (mkF (if x1.regs < 0 ∨ 6 < x1.regs then 1 else 0) (Q3m f))) (Q3m f) :: blk p2 30 [.int .i64 0, .int .i64 0] :: blk p1 24 [vf] :: L)) ?_ ?_
       · skip
         all_goals (have hS : St cx _ (blk p5 53 [.int .i64 x1.regs, vp1, vr1, vb1] :: jdg p9 vf h (Q3m f) :: blk p2 30 [.int .i64 0, .int .i64 0] :: blk p1 24 [vf] :: L) := hS; refine Q1 ?_; refine zm ?_; refine Q2 rfl ?_; refine zl hS ?_)
         all_goals (first | (refine Q1Q ?_) | (refine Q1R ?_) | (refine QD rfl rfl (fun hc => ?_) (fun hc => ?_)))
         all_goals (refine zm ?_; (first | refine s_gn rfl rfl ?_ | (refine s_gy rfl ?_; refine Q2 rfl ?_)); (first | refine s_gn rfl rfl ?_ | (refine s_gy rfl ?_; refine zl hS ?_)))
         all_goals (first | refine s_gn rfl rfl ?_ | (refine s_gy rfl ?_; (first | (refine QK ?_) | (refine QM ?_) | (refine Qi rfl rfl (fun hc => ?_) (fun hc => ?_)))))
         all_goals ((first | (refine zpt ?_) | (refine zpf ?_)); refine zR3 (c := Q2A (g := _) (by intro _; decide) hS fd) (h := ?_); rintro v1 w1 ⟨rfl, hS⟩; simp only [List.set_cons_zero, List.set_cons_succ, if_true, Bool.false_eq_true, if_false] at hS; refine zn ?_; exact ⟨zh, zh, by first | (rw [if_pos (by omega)]; exact hS.sp) | (rw [if_neg (by omega)]; exact hS.sp)⟩)
       rintro ρ w1 ⟨hA, hρ, hS⟩; obtain ⟨ρ, rfl⟩ := env2 hA hρ
       all_goals (refine Q0 ?_; refine Q1 ?_; refine zm ?_; refine Q2 rfl ?_; refine zl hS ?_; refine Q2 rfl ?_; refine zl hS ?_; refine zR3 (c := QrU hp1 hS fd) (h := ?_); rintro v1 w1 ⟨rfl, hS⟩; have hS := hS.ns; refine zn ?_; refine Q0 ?_; refine Q1 ?_; refine zm ?_; refine Q2 rfl ?_; refine zl hS ?_; refine Q2 rfl ?_; refine zl hS ?_; refine zR3 (c := QrU hr1 hS fd) (h := ?_); rintro v1 w1 ⟨rfl, hS⟩; have hS := hS.ns; refine zn ?_)
       refine zM [1, 2, 3, 4, 5] (fun A ρ' w' => Has ρ' A ∧ Has ρ' [] ∧ St cx w' (blk p5 53 [.int .i64 x1.regs, vp1, vr1, vb1] :: jdg p9 vf (orF (orF (orF (orF h (mkF (if x1.regs < 0 ∨ 6 < x1.regs then 1 else 0) (Q3m f))) (mkF (QA x1.params x1.regs) (Q3m f))) (mkF (QA x1.results x1.regs) (Q3m f))) (mkF (if x1.blocks.length < 1 ∨ 12 < x1.blocks.length then 2 else 0) (Q3m f))) (Q3m f) :: blk p2 30 [.int .i64 0, .int .i64 0] :: blk p1 24 [vf] :: L)) ?_ ?_
       · skip
         all_goals (refine Q1 ?_; refine zm ?_; refine Q2 rfl ?_; refine zl hS ?_; refine zL ?_)
         all_goals (first | (refine Qy ?_) | (refine QC ?_) | (refine Qn rfl rfl (fun hc => ?_) (fun hc => ?_)))
         all_goals (refine zm ?_; (first | refine s_gn rfl rfl ?_ | (refine s_gy rfl ?_; refine Q2 rfl ?_)); (first | refine s_gn rfl rfl ?_ | (refine s_gy rfl ?_; refine zl hS ?_)); (first | refine s_gn rfl rfl ?_ | (refine s_gy rfl ?_; refine zL ?_)))
         all_goals (first | refine s_gn rfl rfl ?_ | (refine s_gy rfl ?_; (first | (refine QK ?_) | (refine QM ?_) | (refine Qi rfl rfl (fun hc => ?_) (fun hc => ?_)))))
         all_goals ((first | (refine zpt ?_) | (refine zpf ?_)); refine zR3 (c := Q2A (g := _) (by intro _; decide) hS fd) (h := ?_); rintro v1 w1 ⟨rfl, hS⟩; simp only [List.set_cons_zero, List.set_cons_succ, if_true, Bool.false_eq_true, if_false] at hS; refine zn ?_; exact ⟨zh, zh, by first | (rw [if_pos (c := x1.blocks.length < 1 ∨ 12 < x1.blocks.length) (by omega)]; exact hS.sp) | (rw [if_neg (c := x1.blocks.length < 1 ∨ 12 < x1.blocks.length) (by omega)]; exact hS.sp)⟩)
       rintro ρ w1 ⟨hA, hρ, hS⟩; obtain ⟨ρ, rfl⟩ := env2 hA hρ
       refine zM [1, 2, 3, 4, 5] (fun A ρ' w' => Has ρ' A ∧ Has ρ' [] ∧ St cx w' (blk p5 53 [.int .i64 x1.regs, vp1, vr1, vb1] :: jdg p9 vf (orF h (mkF (QH f x1) (Q3m f))) (Q3m f) :: blk p2 30 [.int .i64 0, .int .i64 0] :: blk p1 24 [vf] :: L)) ?_ ?_
       · skip
         all_goals (refine Q1 ?_)
         refine zKL hS 19 [1, 2, 3, 4, 5] (fun A LL ρ' w' => ∃ (q : Bool), Has ρ' A ∧ Has ρ' [(81, .pointer (some ⟨p9, 0, none⟩)), (99, .bool q)] ∧ (q = true ↔ (f = 0 ∧ (0 < x1.regs ∨ 0 < x1.params.length ∨ ∃ t ∈ x1.results, t.kind ≠ 1))) ∧ St cx w' (LL)) ?_ ?_
         · skip
           all_goals (refine zm ?_; refine zm ?_)
           all_goals (first | (refine Qy ?_) | (refine QC ?_) | (refine Qn rfl rfl (fun hc => ?_) (fun hc => ?_)))
           all_goals (refine zm ?_; (first | refine s_gn rfl rfl ?_ | (refine s_gy rfl ?_; refine Q2 rfl ?_)); (first | refine s_gn rfl rfl ?_ | (refine s_gy rfl ?_; refine zl hS ?_)))
           all_goals (first | refine s_gn rfl rfl ?_ | (refine s_gy rfl ?_; (first | (refine QK ?_) | (refine QM ?_) | (refine Qi rfl rfl (fun hc => ?_) (fun hc => ?_)))))
           all_goals ((first | refine s_gn rfl rfl ?_ | (refine s_gy rfl ?_; refine zm ?_)); (first | refine s_gn rfl rfl ?_ | (refine s_gy rfl ?_; refine Q2 rfl ?_)); (first | refine s_gn rfl rfl ?_ | (refine s_gy rfl ?_; refine zl hS ?_)); (first | refine s_gn rfl rfl ?_ | (refine s_gy rfl ?_; refine zL ?_)))
           all_goals (first | refine s_gn rfl rfl ?_ | (refine s_gy rfl ?_; (first | (refine QK ?_) | (refine QM ?_) | (refine Qi rfl rfl (fun hc => ?_) (fun hc => ?_)))))
           all_goals ((first | refine s_gn rfl rfl ?_ | (refine s_gy rfl ?_; (first | (refine zpt ?_) | (refine zpf ?_)))); (first | refine s_gn rfl rfl ?_ | (refine s_gy rfl ?_; refine zm ?_)); (first | refine s_gn rfl rfl ?_ | (refine s_gy rfl ?_; refine Q2 rfl ?_)); (first | refine s_gn rfl rfl ?_ | (refine s_gy rfl ?_; refine zl hS ?_)))
           all_goals ((first | (refine s_gn rfl rfl ?_) | (refine s_gy rfl ?_; refine zR2 (c := pcont_c hr1 hS) (h := ?_); rintro v1 w1 ⟨qc, rfl, hqc, hS⟩; cases qc)))
           all_goals ((first | refine s_gn rfl rfl ?_ | (refine s_gy rfl ?_; (first | (refine zpt ?_) | (refine zpf ?_)))); (first | (refine zpt ?_) | (refine zpf ?_)); refine Q59 ?_; refine Q2z ?_)
           all_goals (first | (exact ⟨_, zh, zh, by exact ⟨fun _ => ⟨by omega, .inl (by omega)⟩, fun _ => rfl⟩, hS.sp⟩) | (exact ⟨_, zh, zh, by exact ⟨fun _ => ⟨by omega, .inr (.inl (by omega))⟩, fun _ => rfl⟩, hS.sp⟩) | (exact ⟨_, zh, zh, by exact ⟨fun _ => ⟨by omega, .inr (.inr (hqc.1 rfl))⟩, fun _ => rfl⟩, hS.sp⟩) | (exact ⟨_, zh, zh, by exact ⟨fun h => Bool.noConfusion h, fun h => absurd h.1 (by omega)⟩, hS.sp⟩) | (exact ⟨_, zh, zh, by exact ⟨fun h => Bool.noConfusion h, fun h => h.2.elim (fun h => by omega) (fun h => h.elim (fun h => by omega) (fun h => Bool.noConfusion (hqc.2 h)))⟩, hS.sp⟩))
         rintro ρ w1 ⟨q, hA, hρ, hq, hS⟩; obtain ⟨ρ, rfl⟩ := env2 hA hρ
         all_goals (refine zR3 (c := Q2A (g := _) (by intro _; decide) hS fd) (h := ?_); rintro v1 w1 ⟨rfl, hS⟩; simp only [List.set_cons_zero, List.set_cons_succ, if_true, Bool.false_eq_true, if_false] at hS; refine zn ?_; exact ⟨zh, zh, by rw [← Qvh hq]; exact hS.sp⟩)
       rintro ρ w1 ⟨hA, hρ, hS⟩; obtain ⟨ρ, rfl⟩ := env2 hA hρ
       all_goals (refine Q0 ?_; refine Q1 ?_; refine zm ?_; refine zn ?_; refine Q8 ?_)
       refine zo [1, 2, 3, 4, 5] (fun A ρ' w' => ∃ (b : Nat) (h2 : Flt) (a2 : Int), Has ρ' A ∧ Has ρ' [(6, .int .i64 b)] ∧ (b ≤ x1.blocks.length) ∧ (orF (orF h (mkF (QH f x1) (Q3m f))) (QY m.funcs.length f x1 0 x1.blocks) = orF h2 (QY m.funcs.length f x1 b (x1.blocks.drop b))) ∧ St cx w' (blk p5 53 [.int .i64 x1.regs, vp1, vr1, vb1] :: jdg p9 vf h2 a2 :: blk p2 30 [.int .i64 0, .int .i64 0] :: blk p1 24 [vf] :: L)) (fun ρ' _ => (x1.blocks.length - iv (ρ' 6)).toNat) ?_ ?_
       · exact ⟨0, _, _, zh, zh, (by omega), by rw [List.drop_zero], hS.sp⟩
       rintro ρ w1 ⟨b, h2, a2, hA, hρ, hb, hd2, hS⟩; obtain ⟨ρ, rfl⟩ := env2 hA hρ
       unfold Q8P
       all_goals (refine Q0 ?_; refine Q0 ?_; refine Q1 ?_; refine zm ?_; refine Q2 rfl ?_; refine zl hS ?_; refine zL ?_)
       all_goals (first | (refine Q1Q ?_) | (refine Q1R ?_) | (refine QD rfl rfl (fun hc => ?_) (fun hc => ?_)))
       all_goals (refine zm ?_; (first | refine s_gn rfl rfl ?_ | (refine s_gy rfl ?_; refine zm ?_)); (first | refine s_gn rfl rfl ?_ | (refine s_gy rfl ?_; refine Qv rfl ?_)); (first | refine s_gn rfl rfl ?_ | (refine s_gy rfl ?_; refine Q2 rfl ?_)); (first | refine s_gn rfl rfl ?_ | (refine s_gy rfl ?_; (first | refine Q2 rfl ?_ | refine Q1r rfl ?_))); (first | refine s_gn rfl rfl ?_ | (refine s_gy rfl ?_; refine zl hS ?_)))
       all_goals (first | refine s_gn rfl rfl ?_ | (refine s_gy rfl ?_; (first | (refine Qy ?_) | (refine QC ?_) | (refine Qn rfl rfl (fun hc => ?_) (fun hc => ?_)))))
       all_goals ((first | (refine zpt ?_) | (refine zpf ?_)); refine zn ?_)
       all_goals
         first
         | (refine Q3 rfl ?_ -- Q3Y c1
            all_goals (refine zsk ?_; refine Q0 ?_; refine Q8 ?_; obtain ⟨y, hy⟩ : ∃ y, x1.blocks[b]? = some y := ⟨_, List.getElem?_eq_getElem (by omega)⟩; have hsy := hsx.2.2.2 y (List.mem_of_getElem? hy); refine Q1 ?_; refine zm ?_; refine zm ?_; refine zm ?_; refine zR3 (c := pblock_c hx1 hy (by omega) (by omega) hsy.2.1 hf hS fd) (h := ?_); rintro v1 w1 ⟨rfl, a3, hS⟩; have hS := hS.ns; refine zn ?_; refine Q1 ?_; refine zm ?_; refine zad ?_; refine zm ?_; refine zn ?_)
            all_goals (exact ⟨⟨b + 1, _, _, zh, zh, (by omega), by rw [hd2, Q7 hy, QY, Q46], hS.sp⟩, Qh (by omega)⟩))
         | (refine Q4 rfl ?_ -- Q3Y c1
            all_goals (refine zex ?_; (first | (rw [List.drop_of_length_le (by omega), QY, Qty (b := (0, 0)) rfl] at hd2) | (rw [Q5P (a := h2) (by assumption)] at hd2)); refine Q1 ?_; refine zm ?_; refine zad ?_; refine zm ?_; refine zn ?_)
            all_goals (exact ⟨⟨f + 1, h2, a2, zh, zh, (by omega), by rw [hd, Q7 hx1, Q1s, ← Q46, show orF h (Q2d m.funcs.length f x1) = h2 from (by unfold Q2d; rw [← Q46, hd2])], hS.sp⟩, Qh (by omega)⟩)))
    | (refine Q4 rfl ?_ -- Q3Y c0
       all_goals (refine zex ?_; (first | (rw [List.drop_of_length_le (by omega), Q1s, Qty (b := (0, 0)) rfl] at hd) | (rw [Q5P (a := h) (by assumption)] at hd)); refine Q0 ?_; refine Q1 ?_; refine zm ?_; refine Qv rfl ?_; refine Q2 rfl ?_; refine zv hS ?_; refine zsn hS ?_; intro w1 hS; have hS := hS.ns; refine zn ?_; refine zr ?_; refine Q20 vw (Q9 (n := 2) (by kernel_rfl) (by kernel_rfl) (hS.blkAt fd) (by rfl) (by rfl)) ?_)
       all_goals (refine ⟨_, rfl, ?_, hS.sp⟩; rw [hd]; rfl; done))
end Go.Proofs.YtanlkfeogoganaaGreat
namespace Go.Lir
theorem St.lent {c : Cx} {w : World} {L : List Res} {r : Res} (h : St c w (r :: L)) : ∃ c' F, c.Le c' ∧ St c' w L ∧ r.A c'.H0 F ∧ (∀ b, F b → c'.K b) ∧ ∀ {w' : World} {L' : List Res}, St c' w' L' → St c w' (r :: L') := by
  obtain ⟨ok, F, ⟨F1, F2, h1, h2, h3, h4⟩, hd⟩ := h
  have hle : c.Le ⟨c.base, fun b => c.K b ∨ F1 b, w.heap⟩ := ⟨rfl, fun b hb => ⟨.inl hb, ok.same b hb⟩, ok.size, ok.lt⟩
  refine ⟨⟨c.base, fun b => c.K b ∨ F1 b, w.heap⟩, F1, hle, ⟨⟨ok.os, ok.tape, ok.output, Nat.le_refl _, fun b hb => hb.elim (fun hb => Nat.lt_of_lt_of_le (ok.lt b hb) ok.size) (r.lt h1 b), fun b _ => rfl⟩, F2, h2, ?_⟩, h1, fun b hb => .inr hb, ?_⟩
  · rintro b hb (hk | hk)
    · exact hd b ((h4 b).2 (.inr hb)) hk
    · exact h3 b hk hb
  · intro w' L' hS
    have hw := hS.weak hle
    obtain ⟨ok', F', hF', hd'⟩ := hS
    refine ⟨hw.1, fun b => F1 b ∨ F' b, ⟨F1, F', r.loc h1 fun b hb _ => ok'.same b (.inr hb), hF', fun b hb hb' => hd' b hb' (.inr hb), fun b => Iff.rfl⟩, ?_⟩
    rintro b (hb | hb) hk
    · exact hd b ((h4 b).2 (.inl hb)) hk
    · exact hd' b hb (.inl hk)
theorem St.lend {α : Type} {r : Rep α} {c : Cx} {w : World} {L : List Res} {T : TypeId} {es : Nat} {v : Value} {css : List (List Value)} {l : List α} (h : St c w (sl T es v css :: L)) (hl : r.ls c css l) (hes : r.es = es) (hm : l.length ≤ 140737488355328) :
    ∃ c', c.Le c' ∧ St c' w L ∧ r.sl c' v l ∧ ∀ {w' : World} {L' : List Res}, St c' w' L' → St c w' (sl T es v css :: L') := by
  subst hes
  obtain ⟨c', F, h1, h2, h3, h4, h5⟩ := h.lent
  exact ⟨c', h1, h2, ⟨css, SlR.mono (Sl.toR h3) fun b _ hb => h4 b hb, hl.up h1, hm⟩, h5⟩
end Go.Lir
namespace Go.Proofs.YtanlkfeogoganaaGreat
open Go.Lir
set_option maxHeartbeats 1000000
attribute [local irreducible] LC.wp Q5 QN Q11 retQ Q1T LO.wp Qr Calls
set_option linter.unusedSimpArgs false
set_option linter.unusedVariables false
attribute [local irreducible] bitI IntKind.wrap zig leb Qo Qc Q24 tysB To.bts Ins.bts Module.fault Q3B
variable {cx : Cx} {w : World} {L : List Res}
theorem QpZ (l : List Int) : (Q24 l).length ≤ 10 + 10 * l.length := by
  unfold Q24
  have := QE l.length
  have := QbN l
  rw [List.length_append]; omega
theorem ins_room {x : Ins} (h : x.Short) : (Qc x.op).length + (Qc x.a).length + (Qc x.b).length + (Qc x.c).length + (Qc x.k).length + (Qc x.n).length + (Q24 x.regs).length + (Q24 x.args).length ≤ 60000000000000 := by
  have h1 := h.1
  have h2 := h.2
  have := QE x.op; have := QE x.a; have := QE x.b; have := QE x.c; have := QE x.k; have := QE x.n
  have := QpZ x.regs; have := QpZ x.args
  omega
theorem end_op {n : Nat} {e : Tail} (h : Q2Z n e = 0) : 1 ≤ e.op ∧ e.op ≤ 3 := by
  unfold Q2Z at h
  split at h; · cases h
  omega
theorem Qvk {m : Module} {cs : List Value} (hm : m.Few) (hsm : m.Short) (hr : m.InR) (hx : modR.at cx cs m) (hS : St cx w L) : Rets Tryz.prog Q2U [.agg ⟨cs⟩] w fun u w' =>
    (m.fault.1 ≠ 0 ∧ u = .tuple #[.slice none 0 0, fltV m.fault] ∧ St cx w' L) ∨ (m.fault.1 = 0 ∧ 20000 < m.body.length + 4 ∧ u = .tuple #[.slice none 0 0, fltV (2, -1)] ∧ St cx w' L) ∨
    (m.fault.1 = 0 ∧ m.body.length + 4 ≤ 20000 ∧ ∃ v, u = .tuple #[v, fltV (0, 0)] ∧ oneC v = true ∧ St cx w' (sl 5 1 v (m.enc.map QB) :: L)) := by
  have hx' := hx
  obtain ⟨vf, rfl, hf⟩ := Q2l hx
  have hlf := hf.len
  have hB := Module.body_few hm
  have hn0 := QE m.funcs.length
  all_goals refine Qrg ?_
  all_goals (unfold R_Encoded_lc; refine Q0 ?_; refine Q1 ?_; refine zb hS ?_; intro p1 w1 hS; refine zm ?_; refine Qb hS ?_; intro p3 w1 hS; refine zn ?_; refine Q0 ?_; refine Q0 ?_; refine Q1 ?_; refine zv hS ?_; refine zR1 (c := Qt3 hsm hx' hS) (h := ?_); rintro v1 w1 ⟨rfl, hS⟩; unfold fltV; refine Qb hS ?_; intro p4 w1 hS; refine zsn hS ?_; intro w1 hS; have hS := hS.ns; refine zn ?_; refine Q0 ?_; refine Q1 ?_; refine Q2 rfl ?_; refine zl hS ?_)
  all_goals (first | (refine Q1c ?_) | (refine Q1d ?_) | (refine Qp rfl rfl (fun hc => ?_) (fun hc => ?_)))
  all_goals (refine zn ?_)
  all_goals
    first
    | (refine Q3 rfl ?_ -- Q2U c0
       all_goals (refine Q0 ?_; refine zD [(0, none), (1, none), (2, some none)] ?_; have hS := hS.drew; refine zv hS ?_; refine zm ?_; refine zsn hS ?_; intro w1 hS; have hS := hS.ns; refine zn ?_; refine zr ?_; refine QbJ vw vw (Q9 (n := 2) (by kernel_rfl) (by kernel_rfl) (hS.blkAt fd) (by rfl) (by rfl)) ?_)
       all_goals (first | (exact ⟨_, rfl, .inr (.inr ⟨hF, by omega, _, rfl, by assumption, hS.sp⟩)⟩) | (exact ⟨_, rfl, .inr (.inl ⟨hF, by omega, rfl, hS.sp⟩)⟩) | (exact ⟨_, rfl, .inl ⟨by assumption, rfl, hS.sp⟩⟩)))
    | (refine Q4 rfl ?_ -- Q2U c0
       all_goals refine zsk ?_)
  all_goals (refine Q0 ?_; have hF : m.fault.1 = 0 := (by omega); refine Q1 ?_; refine zB3 hS [_, _, _] ?_; intro b1 w1 hS; have hS := St.slOf (es := 1) (n := 3) (css := ([67, 72, 1] : List UInt8).map QB) hS rfl (by simp [QB]) rfl; refine Q2 rfl ?_; refine zl hS ?_; refine zL ?_; refine zB1 hS [_] ?_; intro b1 w1 hS; refine zR1 (c := Qw (n := m.funcs.length) (Q2u hlf) hS) (h := ?_); rintro v1 w1 ⟨hv1, hS⟩; refine Qk Qs QP hS vw vw fd fd (Qa (([67, 72, 1] : List UInt8))) (Qa (Qc m.funcs.length)) (by simp; omega) ?_; intro vz w3 mcc mcl mcv hS; have hS := hS.ns; rw [Rep.LR.u8 rfl mcl] at hS; refine zm ?_; refine zn ?_; refine Q0 ?_; refine Q0 ?_; refine Q1 ?_; refine zm ?_; refine zn ?_; refine Q8 ?_)
  refine zo [1, 3] (fun A ρ' w' => ∃ (q : Nat) (vb : Value) (acc : List UInt8), Has ρ' A ∧ Has ρ' [(5, vb), (6, .int .i64 q)] ∧ (q ≤ m.funcs.length) ∧ (oneC vb = true) ∧ (acc ++ (m.funcs.drop q).flatMap Fun.bts = m.body) ∧ St cx w' (sl 5 1 vb (acc.map QB) :: blk p3 30 [.int .i64 0, .int .i64 0] :: blk p1 24 [vf] :: L)) (fun ρ' _ => (m.funcs.length - iv (ρ' 6)).toNat) ?_ ?_
  · exact ⟨0, vz, [67, 72, 1] ++ Qc m.funcs.length, zh, zh, (by omega), by assumption, by unfold Module.body; rw [List.drop_zero], hS.sp⟩
  rintro ρ w1 ⟨q, vb, acc, hA, hρ, hq, hvb, hd, hS⟩; obtain ⟨ρ, rfl⟩ := env2 hA hρ
  unfold QdN
  all_goals (refine Q0 ?_; refine Q0 ?_; refine Q1 ?_; refine zm ?_; refine Q2 rfl ?_; refine zl hS ?_; refine zL ?_; refine Qt rfl rfl ?_; refine zn ?_)
  refine Qm rfl (fun hc => ?_) (fun hc => ?_)
  · skip
    all_goals (refine zsk ?_; refine Q0 ?_; refine Q8 ?_; refine Q0 ?_; refine Q1 ?_; refine Q2 rfl ?_; refine zl hS ?_; refine zm ?_; refine zi ?_; intro b1 o1 cs1 x1 hat1 hx1 he1; obtain ⟨vp1, vr1, vb1, rfl, hp1, hr1, hb1⟩ := Q1t he1; (first | (refine zv hS ?_) | (refine zvk hS ?_)); refine Qb hS ?_; intro p7 w1 hS; refine zsn hS ?_; intro w1 hS; have hS := hS.ns; refine zn ?_; have hfs := hsm.2 x1 (List.mem_of_getElem? hx1); have hfr := hr x1 (List.mem_of_getElem? hx1); rw [Q7 hx1, List.flatMap_cons] at hd; obtain ⟨R1, hR1⟩ : ∃ R, (m.funcs.drop (q + 1)).flatMap Fun.bts = R := ⟨_, rfl⟩; rw [hR1] at hd; unfold Fun.bts at hd; have hal := congrArg List.length hd; simp only [List.length_append] at hal; have hlb := hb1.len)
    refine zM [1, 3, 6, 7] (fun A ρ' w' => ∃ (vj : Value), Has ρ' A ∧ Has ρ' [(5, vj)] ∧ (oneC vj = true) ∧ St cx w' (sl 5 1 vj ((acc ++ Qc x1.regs ++ tysB x1.params ++ tysB x1.results ++ Qc x1.blocks.length).map QB) :: blk p7 53 [.int .i64 x1.regs, vp1, vr1, vb1] :: blk p3 30 [.int .i64 0, .int .i64 0] :: blk p1 24 [vf] :: L)) ?_ ?_
    · skip
      refine Q2K 3 17 (by kernel_rfl) ?_ ?_
      · skip
        refine Q2K 4 17 (by kernel_rfl) ?_ ?_
        · skip
          refine Q2K 5 17 (by kernel_rfl) ?_ ?_
          · skip
            refine Q2K 8 17 (by kernel_rfl) ?_ ?_
            · skip
              refine Q2K 9 17 (by kernel_rfl) ?_ ?_
              · skip
                refine Q2K 12 17 (by kernel_rfl) ?_ ?_
                · skip
                  refine Q2K 13 17 (by kernel_rfl) ?_ ?_
                  · skip
                    all_goals (refine zC [(0, none), (1, none), (2, none), (6, none), (7, none), (10, none), (11, none), (14, none), (15, none), (16, none), (3, some (some [7, 11, 15])), (4, some (some [7, 11, 15])), (5, some (some [7, 11, 15])), (8, some (some [11, 15])), (9, some (some [11, 15])), (12, some (some [15])), (13, some (some [15])), (17, some none), (18, some none), (19, some none), (20, some none)] ?_; have hS := hS.drew; refine s_cq ?_; refine zm ?_; refine zt ?_; refine s_cq ?_; refine Q2 rfl ?_; refine zt ?_; refine s_cq ?_; refine zl hS ?_; refine zt ?_; refine s_cq ?_; refine Q2 rfl ?_; refine zt ?_; refine s_cq ?_; refine zl hS ?_; refine zt ?_; refine s_cq ?_; refine Q2 rfl ?_; refine zt ?_; refine s_cq ?_; refine zl hS ?_; refine zt ?_; refine s_cq ?_; refine Q2 rfl ?_; refine zt ?_; refine s_cq ?_; refine zl hS ?_; refine zt ?_; refine s_cq ?_; refine zL ?_; refine zt ?_; refine Ql ?_; refine zB1 hS [_] ?_; intro bq w1 hS; refine zt ?_; refine zy ?_; refine Ql ?_; have hS := hS.out (r := blk bq 3 [.int .i64 x1.regs]) fd; refine zR1 (c := Qw (n := x1.regs) (hfr.1) hS) (h := ?_); rintro v4 w1 ⟨hv4, hS⟩; simp only [List.eraseIdx_cons_zero, List.eraseIdx_cons_succ] at hS)
                    all_goals (refine zt ?_; refine zy ?_; refine Ql ?_; refine Qk Qs QP hS vw vw fd fd (Qa (acc)) (Qa (Qc x1.regs)) (by omega) ?_; intro vz1 w3 mcc1 mcl1 mcv1 hS; have hS := hS.ns; rw [Rep.LR.u8 rfl mcl1] at hS; refine zt ?_; refine zy ?_; refine Ql ?_; refine zR1 (c := QG hfr.2.1 hp1 (by omega) hS) (h := ?_); rintro v5 w1 ⟨hv5, hS⟩; refine zt ?_; refine zy ?_; refine Ql ?_; refine Qk Qs QP hS vw vw fd fd (Qa (acc ++ Qc x1.regs)) (Qa (tysB x1.params)) (by simp only [List.length_append]; omega) ?_; intro vz2 w3 mcc2 mcl2 mcv2 hS; have hS := hS.ns; rw [Rep.LR.u8 rfl mcl2] at hS; refine zt ?_; refine zy ?_; refine Ql ?_; refine zR1 (c := QG hfr.2.2.1 hr1 (by omega) hS) (h := ?_); rintro v6 w1 ⟨hv6, hS⟩; refine zt ?_; refine zy ?_; refine Ql ?_; refine Qk Qs QP hS vw vw fd fd (Qa (acc ++ Qc x1.regs ++ tysB x1.params)) (Qa (tysB x1.results)) (by simp only [List.length_append]; omega) ?_; intro vz3 w3 mcc3 mcl3 mcv3 hS; have hS := hS.ns; rw [Rep.LR.u8 rfl mcl3] at hS; refine zt ?_; refine zy ?_; refine s_cf ?_; refine zB1 hS [_] ?_; intro br w1 hS; refine zt ?_; refine s_cf ?_; have hS := hS.out (r := blk br 3 [.int .i64 x1.blocks.length]) fd; refine zR1 (c := Qw (n := x1.blocks.length) (Q2u hlb) hS) (h := ?_); rintro v7 w1 ⟨hv7, hS⟩; simp only [List.eraseIdx_cons_zero, List.eraseIdx_cons_succ] at hS; refine zt ?_; refine s_cf ?_; refine Qk Qs QP hS vw vw fd fd (Qa (acc ++ Qc x1.regs ++ tysB x1.params ++ tysB x1.results)) (Qa (Qc x1.blocks.length)) (by simp only [List.length_append]; omega) ?_; intro vz4 w3 mcc4 mcl4 mcv4 hS; have hS := hS.ns; rw [Rep.LR.u8 rfl mcl4] at hS)
                    all_goals (refine zt ?_; refine s_cf ?_; refine zm ?_; refine zt ?_; refine zcn ?_; exact ⟨vz4, zh, zh, by assumption, hS.sp⟩)
                  · skip
                    all_goals (refine zC [(0, none), (1, none), (2, none), (6, none), (7, none), (10, none), (11, none), (14, none), (15, none), (16, none), (3, some (some [7, 11, 15])), (4, some (some [7, 11, 15])), (5, some (some [7, 11, 15])), (8, some (some [11, 15])), (9, some (some [11, 15])), (12, some (some [15])), (17, some none), (13, some (some [15])), (18, some none), (19, some none), (20, some none)] ?_; have hS := hS.drew; refine s_cq ?_; refine zm ?_; refine zt ?_; refine s_cq ?_; refine Q2 rfl ?_; refine zt ?_; refine s_cq ?_; refine zl hS ?_; refine zt ?_; refine s_cq ?_; refine Q2 rfl ?_; refine zt ?_; refine s_cq ?_; refine zl hS ?_; refine zt ?_; refine s_cq ?_; refine Q2 rfl ?_; refine zt ?_; refine s_cq ?_; refine zl hS ?_; refine zt ?_; refine s_cq ?_; refine Q2 rfl ?_; refine zt ?_; refine s_cq ?_; refine zl hS ?_; refine zt ?_; refine s_cq ?_; refine zL ?_; refine zt ?_; refine Ql ?_; refine zB1 hS [_] ?_; intro bq w1 hS; refine zt ?_; refine zy ?_; refine Ql ?_; have hS := hS.out (r := blk bq 3 [.int .i64 x1.regs]) fd; refine zR1 (c := Qw (n := x1.regs) (hfr.1) hS) (h := ?_); rintro v4 w1 ⟨hv4, hS⟩; simp only [List.eraseIdx_cons_zero, List.eraseIdx_cons_succ] at hS)
                    all_goals (refine zt ?_; refine zy ?_; refine Ql ?_; refine Qk Qs QP hS vw vw fd fd (Qa (acc)) (Qa (Qc x1.regs)) (by omega) ?_; intro vz1 w3 mcc1 mcl1 mcv1 hS; have hS := hS.ns; rw [Rep.LR.u8 rfl mcl1] at hS; refine zt ?_; refine zy ?_; refine Ql ?_; refine zR1 (c := QG hfr.2.1 hp1 (by omega) hS) (h := ?_); rintro v5 w1 ⟨hv5, hS⟩; refine zt ?_; refine zy ?_; refine Ql ?_; refine Qk Qs QP hS vw vw fd fd (Qa (acc ++ Qc x1.regs)) (Qa (tysB x1.params)) (by simp only [List.length_append]; omega) ?_; intro vz2 w3 mcc2 mcl2 mcv2 hS; have hS := hS.ns; rw [Rep.LR.u8 rfl mcl2] at hS; refine zt ?_; refine zy ?_; refine Ql ?_; refine zR1 (c := QG hfr.2.2.1 hr1 (by omega) hS) (h := ?_); rintro v6 w1 ⟨hv6, hS⟩; refine zt ?_; refine zy ?_; refine s_cf ?_; refine zB1 hS [_] ?_; intro br w1 hS; refine zt ?_; refine Ql ?_; refine Qk Qs QP hS vw vw fd fd (Qa (acc ++ Qc x1.regs ++ tysB x1.params)) (Qa (tysB x1.results)) (by simp only [List.length_append]; omega) ?_; intro vz3 w3 mcc3 mcl3 mcv3 hS; have hS := hS.ns; rw [Rep.LR.u8 rfl mcl3] at hS; refine zt ?_; refine zy ?_; refine s_cf ?_; have hS := hS.out (r := blk br 3 [.int .i64 x1.blocks.length]) fd; refine zR1 (c := Qw (n := x1.blocks.length) (Q2u hlb) hS) (h := ?_); rintro v7 w1 ⟨hv7, hS⟩; simp only [List.eraseIdx_cons_zero, List.eraseIdx_cons_succ] at hS; refine zt ?_; refine s_cf ?_; refine Qk Qs QP hS vw vw fd fd (Qa (acc ++ Qc x1.regs ++ tysB x1.params ++ tysB x1.results)) (Qa (Qc x1.blocks.length)) (by simp only [List.length_append]; omega) ?_; intro vz4 w3 mcc4 mcl4 mcv4 hS; have hS := hS.ns; rw [Rep.LR.u8 rfl mcl4] at hS)
                    all_goals (refine zt ?_; refine s_cf ?_; refine zm ?_; refine zt ?_; refine zcn ?_; exact ⟨vz4, zh, zh, by assumption, hS.sp⟩)
                · skip
                  all_goals (refine zC [(0, none), (1, none), (2, none), (6, none), (7, none), (10, none), (11, none), (14, none), (15, none), (16, none), (3, some (some [7, 11, 15])), (4, some (some [7, 11, 15])), (5, some (some [7, 11, 15])), (8, some (some [11, 15])), (9, some (some [11, 15])), (17, some (some [11])), (12, some (some [15])), (13, some (some [15])), (18, some none), (19, some none), (20, some none)] ?_; have hS := hS.drew; refine s_cq ?_; refine zm ?_; refine zt ?_; refine s_cq ?_; refine Q2 rfl ?_; refine zt ?_; refine s_cq ?_; refine zl hS ?_; refine zt ?_; refine s_cq ?_; refine Q2 rfl ?_; refine zt ?_; refine s_cq ?_; refine zl hS ?_; refine zt ?_; refine s_cq ?_; refine Q2 rfl ?_; refine zt ?_; refine s_cq ?_; refine zl hS ?_; refine zt ?_; refine s_cq ?_; refine Q2 rfl ?_; refine zt ?_; refine s_cq ?_; refine zl hS ?_; refine zt ?_; refine s_cq ?_; refine zL ?_; refine zt ?_; refine Ql ?_; refine zB1 hS [_] ?_; intro bq w1 hS; refine zt ?_; refine zy ?_; refine Ql ?_; have hS := hS.out (r := blk bq 3 [.int .i64 x1.regs]) fd; refine zR1 (c := Qw (n := x1.regs) (hfr.1) hS) (h := ?_); rintro v4 w1 ⟨hv4, hS⟩; simp only [List.eraseIdx_cons_zero, List.eraseIdx_cons_succ] at hS)
                  all_goals (refine zt ?_; refine zy ?_; refine Ql ?_; refine Qk Qs QP hS vw vw fd fd (Qa (acc)) (Qa (Qc x1.regs)) (by omega) ?_; intro vz1 w3 mcc1 mcl1 mcv1 hS; have hS := hS.ns; rw [Rep.LR.u8 rfl mcl1] at hS; refine zt ?_; refine zy ?_; refine Ql ?_; refine zR1 (c := QG hfr.2.1 hp1 (by omega) hS) (h := ?_); rintro v5 w1 ⟨hv5, hS⟩; refine zt ?_; refine zy ?_; refine Ql ?_; refine Qk Qs QP hS vw vw fd fd (Qa (acc ++ Qc x1.regs)) (Qa (tysB x1.params)) (by simp only [List.length_append]; omega) ?_; intro vz2 w3 mcc2 mcl2 mcv2 hS; have hS := hS.ns; rw [Rep.LR.u8 rfl mcl2] at hS; refine zt ?_; refine zy ?_; refine Ql ?_; refine zB1 hS [_] ?_; intro br w1 hS; refine zt ?_; refine zy ?_; refine Ql ?_; refine zR1 (c := QG hfr.2.2.1 hr1 (by omega) hS) (h := ?_); rintro v6 w1 ⟨hv6, hS⟩; refine zt ?_; refine zy ?_; refine Ql ?_; refine Qk Qs QP hS vw vw fd fd (Qa (acc ++ Qc x1.regs ++ tysB x1.params)) (Qa (tysB x1.results)) (by simp only [List.length_append]; omega) ?_; intro vz3 w3 mcc3 mcl3 mcv3 hS; have hS := hS.ns; rw [Rep.LR.u8 rfl mcl3] at hS; refine zt ?_; refine zy ?_; refine s_cf ?_; have hS := hS.out (r := blk br 3 [.int .i64 x1.blocks.length]) fd; refine zR1 (c := Qw (n := x1.blocks.length) (Q2u hlb) hS) (h := ?_); rintro v7 w1 ⟨hv7, hS⟩; simp only [List.eraseIdx_cons_zero, List.eraseIdx_cons_succ] at hS; refine zt ?_; refine s_cf ?_; refine Qk Qs QP hS vw vw fd fd (Qa (acc ++ Qc x1.regs ++ tysB x1.params ++ tysB x1.results)) (Qa (Qc x1.blocks.length)) (by simp only [List.length_append]; omega) ?_; intro vz4 w3 mcc4 mcl4 mcv4 hS; have hS := hS.ns; rw [Rep.LR.u8 rfl mcl4] at hS)
                  all_goals (refine zt ?_; refine s_cf ?_; refine zm ?_; refine zt ?_; refine zcn ?_; exact ⟨vz4, zh, zh, by assumption, hS.sp⟩)
              · skip
                all_goals (refine zC [(0, none), (1, none), (2, none), (6, none), (7, none), (10, none), (11, none), (14, none), (15, none), (16, none), (3, some (some [7, 11, 15])), (4, some (some [7, 11, 15])), (5, some (some [7, 11, 15])), (8, some (some [11, 15])), (17, some (some [11])), (9, some (some [11, 15])), (12, some (some [15])), (13, some (some [15])), (18, some none), (19, some none), (20, some none)] ?_; have hS := hS.drew; refine s_cq ?_; refine zm ?_; refine zt ?_; refine s_cq ?_; refine Q2 rfl ?_; refine zt ?_; refine s_cq ?_; refine zl hS ?_; refine zt ?_; refine s_cq ?_; refine Q2 rfl ?_; refine zt ?_; refine s_cq ?_; refine zl hS ?_; refine zt ?_; refine s_cq ?_; refine Q2 rfl ?_; refine zt ?_; refine s_cq ?_; refine zl hS ?_; refine zt ?_; refine s_cq ?_; refine Q2 rfl ?_; refine zt ?_; refine s_cq ?_; refine zl hS ?_; refine zt ?_; refine s_cq ?_; refine zL ?_; refine zt ?_; refine Ql ?_; refine zB1 hS [_] ?_; intro bq w1 hS; refine zt ?_; refine zy ?_; refine Ql ?_; have hS := hS.out (r := blk bq 3 [.int .i64 x1.regs]) fd; refine zR1 (c := Qw (n := x1.regs) (hfr.1) hS) (h := ?_); rintro v4 w1 ⟨hv4, hS⟩; simp only [List.eraseIdx_cons_zero, List.eraseIdx_cons_succ] at hS)
                all_goals (refine zt ?_; refine zy ?_; refine Ql ?_; refine Qk Qs QP hS vw vw fd fd (Qa (acc)) (Qa (Qc x1.regs)) (by omega) ?_; intro vz1 w3 mcc1 mcl1 mcv1 hS; have hS := hS.ns; rw [Rep.LR.u8 rfl mcl1] at hS; refine zt ?_; refine zy ?_; refine Ql ?_; refine zR1 (c := QG hfr.2.1 hp1 (by omega) hS) (h := ?_); rintro v5 w1 ⟨hv5, hS⟩; refine zt ?_; refine zy ?_; refine Ql ?_; refine zB1 hS [_] ?_; intro br w1 hS; refine zt ?_; refine zy ?_; refine Ql ?_; refine Qk Qs QP hS vw vw fd fd (Qa (acc ++ Qc x1.regs)) (Qa (tysB x1.params)) (by simp only [List.length_append]; omega) ?_; intro vz2 w3 mcc2 mcl2 mcv2 hS; have hS := hS.ns; rw [Rep.LR.u8 rfl mcl2] at hS; refine zt ?_; refine zy ?_; refine Ql ?_; refine zR1 (c := QG hfr.2.2.1 hr1 (by omega) hS) (h := ?_); rintro v6 w1 ⟨hv6, hS⟩; refine zt ?_; refine zy ?_; refine Ql ?_; refine Qk Qs QP hS vw vw fd fd (Qa (acc ++ Qc x1.regs ++ tysB x1.params)) (Qa (tysB x1.results)) (by simp only [List.length_append]; omega) ?_; intro vz3 w3 mcc3 mcl3 mcv3 hS; have hS := hS.ns; rw [Rep.LR.u8 rfl mcl3] at hS; refine zt ?_; refine zy ?_; refine s_cf ?_; have hS := hS.out (r := blk br 3 [.int .i64 x1.blocks.length]) fd; refine zR1 (c := Qw (n := x1.blocks.length) (Q2u hlb) hS) (h := ?_); rintro v7 w1 ⟨hv7, hS⟩; simp only [List.eraseIdx_cons_zero, List.eraseIdx_cons_succ] at hS; refine zt ?_; refine s_cf ?_; refine Qk Qs QP hS vw vw fd fd (Qa (acc ++ Qc x1.regs ++ tysB x1.params ++ tysB x1.results)) (Qa (Qc x1.blocks.length)) (by simp only [List.length_append]; omega) ?_; intro vz4 w3 mcc4 mcl4 mcv4 hS; have hS := hS.ns; rw [Rep.LR.u8 rfl mcl4] at hS)
                all_goals (refine zt ?_; refine s_cf ?_; refine zm ?_; refine zt ?_; refine zcn ?_; exact ⟨vz4, zh, zh, by assumption, hS.sp⟩)
            · skip
              all_goals (refine zC [(0, none), (1, none), (2, none), (6, none), (7, none), (10, none), (11, none), (14, none), (15, none), (16, none), (3, some (some [7, 11, 15])), (4, some (some [7, 11, 15])), (5, some (some [7, 11, 15])), (17, some (some [7, 11])), (8, some (some [11, 15])), (9, some (some [11, 15])), (12, some (some [15])), (13, some (some [15])), (18, some none), (19, some none), (20, some none)] ?_; have hS := hS.drew; refine s_cq ?_; refine zm ?_; refine zt ?_; refine s_cq ?_; refine Q2 rfl ?_; refine zt ?_; refine s_cq ?_; refine zl hS ?_; refine zt ?_; refine s_cq ?_; refine Q2 rfl ?_; refine zt ?_; refine s_cq ?_; refine zl hS ?_; refine zt ?_; refine s_cq ?_; refine Q2 rfl ?_; refine zt ?_; refine s_cq ?_; refine zl hS ?_; refine zt ?_; refine s_cq ?_; refine Q2 rfl ?_; refine zt ?_; refine s_cq ?_; refine zl hS ?_; refine zt ?_; refine s_cq ?_; refine zL ?_; refine zt ?_; refine Ql ?_; refine zB1 hS [_] ?_; intro bq w1 hS; refine zt ?_; refine zy ?_; refine Ql ?_; have hS := hS.out (r := blk bq 3 [.int .i64 x1.regs]) fd; refine zR1 (c := Qw (n := x1.regs) (hfr.1) hS) (h := ?_); rintro v4 w1 ⟨hv4, hS⟩; simp only [List.eraseIdx_cons_zero, List.eraseIdx_cons_succ] at hS)
              all_goals (refine zt ?_; refine zy ?_; refine Ql ?_; refine Qk Qs QP hS vw vw fd fd (Qa (acc)) (Qa (Qc x1.regs)) (by omega) ?_; intro vz1 w3 mcc1 mcl1 mcv1 hS; have hS := hS.ns; rw [Rep.LR.u8 rfl mcl1] at hS; refine zt ?_; refine zy ?_; refine Ql ?_; refine zB1 hS [_] ?_; intro br w1 hS; refine zt ?_; refine zy ?_; refine Ql ?_; refine zR1 (c := QG hfr.2.1 hp1 (by omega) hS) (h := ?_); rintro v5 w1 ⟨hv5, hS⟩; refine zt ?_; refine zy ?_; refine Ql ?_; refine Qk Qs QP hS vw vw fd fd (Qa (acc ++ Qc x1.regs)) (Qa (tysB x1.params)) (by simp only [List.length_append]; omega) ?_; intro vz2 w3 mcc2 mcl2 mcv2 hS; have hS := hS.ns; rw [Rep.LR.u8 rfl mcl2] at hS; refine zt ?_; refine zy ?_; refine Ql ?_; refine zR1 (c := QG hfr.2.2.1 hr1 (by omega) hS) (h := ?_); rintro v6 w1 ⟨hv6, hS⟩; refine zt ?_; refine zy ?_; refine Ql ?_; refine Qk Qs QP hS vw vw fd fd (Qa (acc ++ Qc x1.regs ++ tysB x1.params)) (Qa (tysB x1.results)) (by simp only [List.length_append]; omega) ?_; intro vz3 w3 mcc3 mcl3 mcv3 hS; have hS := hS.ns; rw [Rep.LR.u8 rfl mcl3] at hS; refine zt ?_; refine zy ?_; refine s_cf ?_; have hS := hS.out (r := blk br 3 [.int .i64 x1.blocks.length]) fd; refine zR1 (c := Qw (n := x1.blocks.length) (Q2u hlb) hS) (h := ?_); rintro v7 w1 ⟨hv7, hS⟩; simp only [List.eraseIdx_cons_zero, List.eraseIdx_cons_succ] at hS; refine zt ?_; refine s_cf ?_; refine Qk Qs QP hS vw vw fd fd (Qa (acc ++ Qc x1.regs ++ tysB x1.params ++ tysB x1.results)) (Qa (Qc x1.blocks.length)) (by simp only [List.length_append]; omega) ?_; intro vz4 w3 mcc4 mcl4 mcv4 hS; have hS := hS.ns; rw [Rep.LR.u8 rfl mcl4] at hS)
              all_goals (refine zt ?_; refine s_cf ?_; refine zm ?_; refine zt ?_; refine zcn ?_; exact ⟨vz4, zh, zh, by assumption, hS.sp⟩)
          · skip
            all_goals (refine zC [(0, none), (1, none), (2, none), (6, none), (7, none), (10, none), (11, none), (14, none), (15, none), (16, none), (3, some (some [7, 11, 15])), (4, some (some [7, 11, 15])), (17, some (some [7, 11])), (5, some (some [7, 11, 15])), (8, some (some [11, 15])), (9, some (some [11, 15])), (12, some (some [15])), (13, some (some [15])), (18, some none), (19, some none), (20, some none)] ?_; have hS := hS.drew; refine s_cq ?_; refine zm ?_; refine zt ?_; refine s_cq ?_; refine Q2 rfl ?_; refine zt ?_; refine s_cq ?_; refine zl hS ?_; refine zt ?_; refine s_cq ?_; refine Q2 rfl ?_; refine zt ?_; refine s_cq ?_; refine zl hS ?_; refine zt ?_; refine s_cq ?_; refine Q2 rfl ?_; refine zt ?_; refine s_cq ?_; refine zl hS ?_; refine zt ?_; refine s_cq ?_; refine Q2 rfl ?_; refine zt ?_; refine s_cq ?_; refine zl hS ?_; refine zt ?_; refine s_cq ?_; refine zL ?_; refine zt ?_; refine Ql ?_; refine zB1 hS [_] ?_; intro bq w1 hS; refine zt ?_; refine zy ?_; refine Ql ?_; have hS := hS.out (r := blk bq 3 [.int .i64 x1.regs]) fd; refine zR1 (c := Qw (n := x1.regs) (hfr.1) hS) (h := ?_); rintro v4 w1 ⟨hv4, hS⟩; simp only [List.eraseIdx_cons_zero, List.eraseIdx_cons_succ] at hS)
            all_goals (refine zt ?_; refine zy ?_; refine Ql ?_; refine zB1 hS [_] ?_; intro br w1 hS; refine zt ?_; refine zy ?_; refine Ql ?_; refine Qk Qs QP hS vw vw fd fd (Qa (acc)) (Qa (Qc x1.regs)) (by omega) ?_; intro vz1 w3 mcc1 mcl1 mcv1 hS; have hS := hS.ns; rw [Rep.LR.u8 rfl mcl1] at hS; refine zt ?_; refine zy ?_; refine Ql ?_; refine zR1 (c := QG hfr.2.1 hp1 (by omega) hS) (h := ?_); rintro v5 w1 ⟨hv5, hS⟩; refine zt ?_; refine zy ?_; refine Ql ?_; refine Qk Qs QP hS vw vw fd fd (Qa (acc ++ Qc x1.regs)) (Qa (tysB x1.params)) (by simp only [List.length_append]; omega) ?_; intro vz2 w3 mcc2 mcl2 mcv2 hS; have hS := hS.ns; rw [Rep.LR.u8 rfl mcl2] at hS; refine zt ?_; refine zy ?_; refine Ql ?_; refine zR1 (c := QG hfr.2.2.1 hr1 (by omega) hS) (h := ?_); rintro v6 w1 ⟨hv6, hS⟩; refine zt ?_; refine zy ?_; refine Ql ?_; refine Qk Qs QP hS vw vw fd fd (Qa (acc ++ Qc x1.regs ++ tysB x1.params)) (Qa (tysB x1.results)) (by simp only [List.length_append]; omega) ?_; intro vz3 w3 mcc3 mcl3 mcv3 hS; have hS := hS.ns; rw [Rep.LR.u8 rfl mcl3] at hS; refine zt ?_; refine zy ?_; refine s_cf ?_; have hS := hS.out (r := blk br 3 [.int .i64 x1.blocks.length]) fd; refine zR1 (c := Qw (n := x1.blocks.length) (Q2u hlb) hS) (h := ?_); rintro v7 w1 ⟨hv7, hS⟩; simp only [List.eraseIdx_cons_zero, List.eraseIdx_cons_succ] at hS; refine zt ?_; refine s_cf ?_; refine Qk Qs QP hS vw vw fd fd (Qa (acc ++ Qc x1.regs ++ tysB x1.params ++ tysB x1.results)) (Qa (Qc x1.blocks.length)) (by simp only [List.length_append]; omega) ?_; intro vz4 w3 mcc4 mcl4 mcv4 hS; have hS := hS.ns; rw [Rep.LR.u8 rfl mcl4] at hS)
            all_goals (refine zt ?_; refine s_cf ?_; refine zm ?_; refine zt ?_; refine zcn ?_; exact ⟨vz4, zh, zh, by assumption, hS.sp⟩)
        · skip
          all_goals (refine zC [(0, none), (1, none), (2, none), (6, none), (7, none), (10, none), (11, none), (14, none), (15, none), (16, none), (3, some (some [7, 11, 15])), (17, some (some [7, 11])), (4, some (some [7, 11, 15])), (5, some (some [7, 11, 15])), (8, some (some [11, 15])), (9, some (some [11, 15])), (12, some (some [15])), (13, some (some [15])), (18, some none), (19, some none), (20, some none)] ?_; have hS := hS.drew; refine s_cq ?_; refine zm ?_; refine zt ?_; refine s_cq ?_; refine Q2 rfl ?_; refine zt ?_; refine s_cq ?_; refine zl hS ?_; refine zt ?_; refine s_cq ?_; refine Q2 rfl ?_; refine zt ?_; refine s_cq ?_; refine zl hS ?_; refine zt ?_; refine s_cq ?_; refine Q2 rfl ?_; refine zt ?_; refine s_cq ?_; refine zl hS ?_; refine zt ?_; refine s_cq ?_; refine Q2 rfl ?_; refine zt ?_; refine s_cq ?_; refine zl hS ?_; refine zt ?_; refine s_cq ?_; refine zL ?_; refine zt ?_; refine Ql ?_; refine zB1 hS [_] ?_; intro bq w1 hS; refine zt ?_; refine zy ?_; refine Ql ?_; refine zB1 hS [_] ?_; intro br w1 hS; refine zt ?_; refine zy ?_)
          all_goals (refine Ql ?_; have hS := hS.out (r := blk bq 3 [.int .i64 x1.regs]) fd; refine zR1 (c := Qw (n := x1.regs) (hfr.1) hS) (h := ?_); rintro v4 w1 ⟨hv4, hS⟩; simp only [List.eraseIdx_cons_zero, List.eraseIdx_cons_succ] at hS; refine zt ?_; refine zy ?_; refine Ql ?_; refine Qk Qs QP hS vw vw fd fd (Qa (acc)) (Qa (Qc x1.regs)) (by omega) ?_; intro vz1 w3 mcc1 mcl1 mcv1 hS; have hS := hS.ns; rw [Rep.LR.u8 rfl mcl1] at hS; refine zt ?_; refine zy ?_; refine Ql ?_; refine zR1 (c := QG hfr.2.1 hp1 (by omega) hS) (h := ?_); rintro v5 w1 ⟨hv5, hS⟩; refine zt ?_; refine zy ?_; refine Ql ?_; refine Qk Qs QP hS vw vw fd fd (Qa (acc ++ Qc x1.regs)) (Qa (tysB x1.params)) (by simp only [List.length_append]; omega) ?_; intro vz2 w3 mcc2 mcl2 mcv2 hS; have hS := hS.ns; rw [Rep.LR.u8 rfl mcl2] at hS; refine zt ?_; refine zy ?_; refine Ql ?_; refine zR1 (c := QG hfr.2.2.1 hr1 (by omega) hS) (h := ?_); rintro v6 w1 ⟨hv6, hS⟩; refine zt ?_; refine zy ?_; refine Ql ?_; refine Qk Qs QP hS vw vw fd fd (Qa (acc ++ Qc x1.regs ++ tysB x1.params)) (Qa (tysB x1.results)) (by simp only [List.length_append]; omega) ?_; intro vz3 w3 mcc3 mcl3 mcv3 hS; have hS := hS.ns; rw [Rep.LR.u8 rfl mcl3] at hS; refine zt ?_; refine zy ?_; refine s_cf ?_; have hS := hS.out (r := blk br 3 [.int .i64 x1.blocks.length]) fd; refine zR1 (c := Qw (n := x1.blocks.length) (Q2u hlb) hS) (h := ?_); rintro v7 w1 ⟨hv7, hS⟩; simp only [List.eraseIdx_cons_zero, List.eraseIdx_cons_succ] at hS)
          all_goals (refine zt ?_; refine s_cf ?_; refine Qk Qs QP hS vw vw fd fd (Qa (acc ++ Qc x1.regs ++ tysB x1.params ++ tysB x1.results)) (Qa (Qc x1.blocks.length)) (by simp only [List.length_append]; omega) ?_; intro vz4 w3 mcc4 mcl4 mcv4 hS; have hS := hS.ns; rw [Rep.LR.u8 rfl mcl4] at hS; refine zt ?_; refine s_cf ?_; refine zm ?_; refine zt ?_; refine zcn ?_; exact ⟨vz4, zh, zh, by assumption, hS.sp⟩)
      · skip
        all_goals (refine zC [(0, none), (1, none), (2, none), (6, none), (7, none), (10, none), (11, none), (14, none), (15, none), (16, none), (17, some (some [2, 7, 11])), (3, some (some [7, 11, 15])), (4, some (some [7, 11, 15])), (5, some (some [7, 11, 15])), (8, some (some [11, 15])), (9, some (some [11, 15])), (12, some (some [15])), (13, some (some [15])), (18, some none), (19, some none), (20, some none)] ?_; have hS := hS.drew; refine s_cq ?_; refine zm ?_; refine zt ?_; refine s_cq ?_; refine Q2 rfl ?_; refine zt ?_; refine s_cq ?_; refine zl hS ?_; refine zt ?_; refine s_cq ?_; refine Q2 rfl ?_; refine zt ?_; refine s_cq ?_; refine zl hS ?_; refine zt ?_; refine s_cq ?_; refine Q2 rfl ?_; refine zt ?_; refine s_cq ?_; refine zl hS ?_; refine zt ?_; refine s_cq ?_; refine Q2 rfl ?_; refine zt ?_; refine s_cq ?_; refine zl hS ?_; refine zt ?_; refine s_cq ?_; refine zL ?_; refine zt ?_; refine Ql ?_; refine zB1 hS [_] ?_; intro br w1 hS; refine zt ?_; refine zy ?_; refine Ql ?_; refine zB1 hS [_] ?_; intro bq w1 hS; refine zt ?_; refine zy ?_)
        all_goals (refine Ql ?_; have hS := hS.out (r := blk bq 3 [.int .i64 x1.regs]) fd; refine zR1 (c := Qw (n := x1.regs) (hfr.1) hS) (h := ?_); rintro v4 w1 ⟨hv4, hS⟩; simp only [List.eraseIdx_cons_zero, List.eraseIdx_cons_succ] at hS; refine zt ?_; refine zy ?_; refine Ql ?_; refine Qk Qs QP hS vw vw fd fd (Qa (acc)) (Qa (Qc x1.regs)) (by omega) ?_; intro vz1 w3 mcc1 mcl1 mcv1 hS; have hS := hS.ns; rw [Rep.LR.u8 rfl mcl1] at hS; refine zt ?_; refine zy ?_; refine Ql ?_; refine zR1 (c := QG hfr.2.1 hp1 (by omega) hS) (h := ?_); rintro v5 w1 ⟨hv5, hS⟩; refine zt ?_; refine zy ?_; refine Ql ?_; refine Qk Qs QP hS vw vw fd fd (Qa (acc ++ Qc x1.regs)) (Qa (tysB x1.params)) (by simp only [List.length_append]; omega) ?_; intro vz2 w3 mcc2 mcl2 mcv2 hS; have hS := hS.ns; rw [Rep.LR.u8 rfl mcl2] at hS; refine zt ?_; refine zy ?_; refine Ql ?_; refine zR1 (c := QG hfr.2.2.1 hr1 (by omega) hS) (h := ?_); rintro v6 w1 ⟨hv6, hS⟩; refine zt ?_; refine zy ?_; refine Ql ?_; refine Qk Qs QP hS vw vw fd fd (Qa (acc ++ Qc x1.regs ++ tysB x1.params)) (Qa (tysB x1.results)) (by simp only [List.length_append]; omega) ?_; intro vz3 w3 mcc3 mcl3 mcv3 hS; have hS := hS.ns; rw [Rep.LR.u8 rfl mcl3] at hS; refine zt ?_; refine zy ?_; refine s_cf ?_; have hS := hS.out (r := blk br 3 [.int .i64 x1.blocks.length]) fd; refine zR1 (c := Qw (n := x1.blocks.length) (Q2u hlb) hS) (h := ?_); rintro v7 w1 ⟨hv7, hS⟩; simp only [List.eraseIdx_cons_zero, List.eraseIdx_cons_succ] at hS)
        all_goals (refine zt ?_; refine s_cf ?_; refine Qk Qs QP hS vw vw fd fd (Qa (acc ++ Qc x1.regs ++ tysB x1.params ++ tysB x1.results)) (Qa (Qc x1.blocks.length)) (by simp only [List.length_append]; omega) ?_; intro vz4 w3 mcc4 mcl4 mcv4 hS; have hS := hS.ns; rw [Rep.LR.u8 rfl mcl4] at hS; refine zt ?_; refine s_cf ?_; refine zm ?_; refine zt ?_; refine zcn ?_; exact ⟨vz4, zh, zh, by assumption, hS.sp⟩)
    rintro ρ w1 ⟨vj, hA, hρ, hvj, hS⟩; obtain ⟨ρ, rfl⟩ := env2 hA hρ
    all_goals (refine Q0 ?_; refine Q1 ?_; refine zm ?_; refine zn ?_; refine Q8 ?_)
    refine zo [1, 3, 6, 7] (fun A ρ' w' => ∃ (b : Nat) (vc : Value) (acc1 : List UInt8), Has ρ' A ∧ Has ρ' [(5, vc), (8, .int .i64 b)] ∧ (b ≤ x1.blocks.length) ∧ (oneC vc = true) ∧ (acc1 ++ ((x1.blocks.drop b).flatMap Block.bts ++ R1) = m.body) ∧ St cx w' (sl 5 1 vc (acc1.map QB) :: blk p7 53 [.int .i64 x1.regs, vp1, vr1, vb1] :: blk p3 30 [.int .i64 0, .int .i64 0] :: blk p1 24 [vf] :: L)) (fun ρ' _ => (x1.blocks.length - iv (ρ' 8)).toNat) ?_ ?_
    · exact ⟨0, vj, acc ++ Qc x1.regs ++ tysB x1.params ++ tysB x1.results ++ Qc x1.blocks.length, zh, zh, (by omega), by assumption, by rw [List.drop_zero, ← hd]; simp only [List.append_assoc], hS.sp⟩
    rintro ρ w1 ⟨b, vc, acc1, hA, hρ, hb, hvc, hd1, hS⟩; obtain ⟨ρ, rfl⟩ := env2 hA hρ
    unfold Qbz
    all_goals (refine Q0 ?_; refine Q0 ?_; refine Q1 ?_; refine zm ?_; refine Q2 rfl ?_; refine zl hS ?_; refine zL ?_; refine Qt rfl rfl ?_; refine zn ?_)
    refine Qm rfl (fun hc => ?_) (fun hc => ?_)
    · skip
      all_goals (refine zsk ?_; refine Q0 ?_; refine Q8 ?_; refine Q0 ?_; refine Q1 ?_; refine Q2 rfl ?_; refine zl hS ?_; refine zm ?_; refine zi ?_; intro b2 o2 cs2 x2 hat2 hx2 he2; obtain ⟨vp2, vc2, ve21, ve22, ve23, ve24, ve25, rfl, hp2, hc2, he21, he22, he23, he24, he25⟩ := Q1w he2; (first | (refine zv hS ?_) | (refine zvk hS ?_)); refine Qb hS ?_; intro p9 w1 hS; refine zsn hS ?_; intro w1 hS; have hS := hS.ns; refine zn ?_; have hbs := hfs.2.2.2 x2 (List.mem_of_getElem? hx2); have hbr := hfr.2.2.2 x2 (List.mem_of_getElem? hx2); have hend := (Qs7 hF hx1 hx2).2.2; rw [Q7 hx2, List.flatMap_cons] at hd1; obtain ⟨R2, hR2⟩ : ∃ R, (x1.blocks.drop (b + 1)).flatMap Block.bts = R := ⟨_, rfl⟩; rw [hR2] at hd1; unfold Block.bts Tail.bts at hd1; have hal1 := congrArg List.length hd1; simp only [List.length_append] at hal1; have hlc := hc2.len)
      refine zM [1, 3, 6, 7, 8, 9] (fun A ρ' w' => ∃ (vk : Value), Has ρ' A ∧ Has ρ' [(5, vk)] ∧ (oneC vk = true) ∧ St cx w' (sl 5 1 vk ((acc1 ++ Qc x2.regs ++ tysB x2.params ++ Qc x2.code.length).map QB) :: blk p9 79 [.int .i64 x2.regs, vp2, vc2, .int .i64 x2.fin.op, .int .i64 x2.fin.a, .int .i64 x2.fin.yes.block, ve21, ve22, .int .i64 x2.fin.no.block, ve23, ve24, ve25] :: blk p7 53 [.int .i64 x1.regs, vp1, vr1, vb1] :: blk p3 30 [.int .i64 0, .int .i64 0] :: blk p1 24 [vf] :: L)) ?_ ?_
      · skip
        refine Q2K 3 13 (by kernel_rfl) ?_ ?_
        · skip
          refine Q2K 4 13 (by kernel_rfl) ?_ ?_
          · skip
            refine Q2K 5 13 (by kernel_rfl) ?_ ?_
            · skip
              refine Q2K 8 13 (by kernel_rfl) ?_ ?_
              · skip
                refine Q2K 9 13 (by kernel_rfl) ?_ ?_
                · skip
                  all_goals (refine zC [(0, none), (1, none), (2, none), (6, none), (7, none), (10, none), (11, none), (12, none), (3, some (some [7, 11])), (4, some (some [7, 11])), (5, some (some [7, 11])), (8, some (some [11])), (9, some (some [11])), (13, some none), (14, some none), (15, some none), (16, some none)] ?_; have hS := hS.drew; refine s_cq ?_; refine zm ?_; refine zt ?_; refine s_cq ?_; refine Q2 rfl ?_; refine zt ?_; refine s_cq ?_; refine zl hS ?_; refine zt ?_; refine s_cq ?_; refine Q2 rfl ?_; refine zt ?_; refine s_cq ?_; refine zl hS ?_; refine zt ?_; refine s_cq ?_; refine Q2 rfl ?_; refine zt ?_; refine s_cq ?_; refine zl hS ?_; refine zt ?_; refine s_cq ?_; refine zL ?_; refine zt ?_; refine Ql ?_; refine zB1 hS [_] ?_; intro bq w1 hS; refine zt ?_; refine zy ?_; refine Ql ?_; have hS := hS.out (r := blk bq 3 [.int .i64 x2.regs]) fd; refine zR1 (c := Qw (n := x2.regs) (hbr.1) hS) (h := ?_); rintro v4 w1 ⟨hv4, hS⟩; simp only [List.eraseIdx_cons_zero, List.eraseIdx_cons_succ] at hS; refine zt ?_; refine zy ?_; refine Ql ?_; refine Qk Qs QP hS vw vw fd fd (Qa (acc1)) (Qa (Qc x2.regs)) (by omega) ?_; intro vz5 w3 mcc5 mcl5 mcv5 hS; have hS := hS.ns; rw [Rep.LR.u8 rfl mcl5] at hS)
                  all_goals (refine zt ?_; refine zy ?_; refine Ql ?_; refine zR1 (c := QG hbr.2.1 hp2 (by omega) hS) (h := ?_); rintro v5 w1 ⟨hv5, hS⟩; refine zt ?_; refine zy ?_; refine Ql ?_; refine Qk Qs QP hS vw vw fd fd (Qa (acc1 ++ Qc x2.regs)) (Qa (tysB x2.params)) (by simp only [List.length_append]; omega) ?_; intro vz6 w3 mcc6 mcl6 mcv6 hS; have hS := hS.ns; rw [Rep.LR.u8 rfl mcl6] at hS; refine zt ?_; refine zy ?_; refine s_cf ?_; refine zB1 hS [_] ?_; intro br w1 hS; refine zt ?_; refine s_cf ?_; have hS := hS.out (r := blk br 3 [.int .i64 x2.code.length]) fd; refine zR1 (c := Qw (n := x2.code.length) (Q2u hlc) hS) (h := ?_); rintro v7 w1 ⟨hv7, hS⟩; simp only [List.eraseIdx_cons_zero, List.eraseIdx_cons_succ] at hS; refine zt ?_; refine s_cf ?_; refine Qk Qs QP hS vw vw fd fd (Qa (acc1 ++ Qc x2.regs ++ tysB x2.params)) (Qa (Qc x2.code.length)) (by simp only [List.length_append]; omega) ?_; intro vz7 w3 mcc7 mcl7 mcv7 hS; have hS := hS.ns; rw [Rep.LR.u8 rfl mcl7] at hS; refine zt ?_; refine s_cf ?_; refine zm ?_; refine zt ?_; refine zcn ?_; exact ⟨vz7, zh, zh, by assumption, hS.sp⟩)
                · skip
                  all_goals (refine zC [(0, none), (1, none), (2, none), (6, none), (7, none), (10, none), (11, none), (12, none), (3, some (some [7, 11])), (4, some (some [7, 11])), (5, some (some [7, 11])), (8, some (some [11])), (13, some none), (9, some (some [11])), (14, some none), (15, some none), (16, some none)] ?_; have hS := hS.drew; refine s_cq ?_; refine zm ?_; refine zt ?_; refine s_cq ?_; refine Q2 rfl ?_; refine zt ?_; refine s_cq ?_; refine zl hS ?_; refine zt ?_; refine s_cq ?_; refine Q2 rfl ?_; refine zt ?_; refine s_cq ?_; refine zl hS ?_; refine zt ?_; refine s_cq ?_; refine Q2 rfl ?_; refine zt ?_; refine s_cq ?_; refine zl hS ?_; refine zt ?_; refine s_cq ?_; refine zL ?_; refine zt ?_; refine Ql ?_; refine zB1 hS [_] ?_; intro bq w1 hS; refine zt ?_; refine zy ?_; refine Ql ?_; have hS := hS.out (r := blk bq 3 [.int .i64 x2.regs]) fd; refine zR1 (c := Qw (n := x2.regs) (hbr.1) hS) (h := ?_); rintro v4 w1 ⟨hv4, hS⟩; simp only [List.eraseIdx_cons_zero, List.eraseIdx_cons_succ] at hS; refine zt ?_; refine zy ?_; refine Ql ?_; refine Qk Qs QP hS vw vw fd fd (Qa (acc1)) (Qa (Qc x2.regs)) (by omega) ?_; intro vz5 w3 mcc5 mcl5 mcv5 hS; have hS := hS.ns; rw [Rep.LR.u8 rfl mcl5] at hS)
                  all_goals (refine zt ?_; refine zy ?_; refine Ql ?_; refine zR1 (c := QG hbr.2.1 hp2 (by omega) hS) (h := ?_); rintro v5 w1 ⟨hv5, hS⟩; refine zt ?_; refine zy ?_; refine s_cf ?_; refine zB1 hS [_] ?_; intro br w1 hS; refine zt ?_; refine Ql ?_; refine Qk Qs QP hS vw vw fd fd (Qa (acc1 ++ Qc x2.regs)) (Qa (tysB x2.params)) (by simp only [List.length_append]; omega) ?_; intro vz6 w3 mcc6 mcl6 mcv6 hS; have hS := hS.ns; rw [Rep.LR.u8 rfl mcl6] at hS; refine zt ?_; refine zy ?_; refine s_cf ?_; have hS := hS.out (r := blk br 3 [.int .i64 x2.code.length]) fd; refine zR1 (c := Qw (n := x2.code.length) (Q2u hlc) hS) (h := ?_); rintro v7 w1 ⟨hv7, hS⟩; simp only [List.eraseIdx_cons_zero, List.eraseIdx_cons_succ] at hS; refine zt ?_; refine s_cf ?_; refine Qk Qs QP hS vw vw fd fd (Qa (acc1 ++ Qc x2.regs ++ tysB x2.params)) (Qa (Qc x2.code.length)) (by simp only [List.length_append]; omega) ?_; intro vz7 w3 mcc7 mcl7 mcv7 hS; have hS := hS.ns; rw [Rep.LR.u8 rfl mcl7] at hS; refine zt ?_; refine s_cf ?_; refine zm ?_; refine zt ?_; refine zcn ?_; exact ⟨vz7, zh, zh, by assumption, hS.sp⟩)
              · skip
                all_goals (refine zC [(0, none), (1, none), (2, none), (6, none), (7, none), (10, none), (11, none), (12, none), (3, some (some [7, 11])), (4, some (some [7, 11])), (5, some (some [7, 11])), (13, some (some [7])), (8, some (some [11])), (9, some (some [11])), (14, some none), (15, some none), (16, some none)] ?_; have hS := hS.drew; refine s_cq ?_; refine zm ?_; refine zt ?_; refine s_cq ?_; refine Q2 rfl ?_; refine zt ?_; refine s_cq ?_; refine zl hS ?_; refine zt ?_; refine s_cq ?_; refine Q2 rfl ?_; refine zt ?_; refine s_cq ?_; refine zl hS ?_; refine zt ?_; refine s_cq ?_; refine Q2 rfl ?_; refine zt ?_; refine s_cq ?_; refine zl hS ?_; refine zt ?_; refine s_cq ?_; refine zL ?_; refine zt ?_; refine Ql ?_; refine zB1 hS [_] ?_; intro bq w1 hS; refine zt ?_; refine zy ?_; refine Ql ?_; have hS := hS.out (r := blk bq 3 [.int .i64 x2.regs]) fd; refine zR1 (c := Qw (n := x2.regs) (hbr.1) hS) (h := ?_); rintro v4 w1 ⟨hv4, hS⟩; simp only [List.eraseIdx_cons_zero, List.eraseIdx_cons_succ] at hS; refine zt ?_; refine zy ?_; refine Ql ?_; refine Qk Qs QP hS vw vw fd fd (Qa (acc1)) (Qa (Qc x2.regs)) (by omega) ?_; intro vz5 w3 mcc5 mcl5 mcv5 hS; have hS := hS.ns; rw [Rep.LR.u8 rfl mcl5] at hS)
                all_goals (refine zt ?_; refine zy ?_; refine Ql ?_; refine zB1 hS [_] ?_; intro br w1 hS; refine zt ?_; refine zy ?_; refine Ql ?_; refine zR1 (c := QG hbr.2.1 hp2 (by omega) hS) (h := ?_); rintro v5 w1 ⟨hv5, hS⟩; refine zt ?_; refine zy ?_; refine Ql ?_; refine Qk Qs QP hS vw vw fd fd (Qa (acc1 ++ Qc x2.regs)) (Qa (tysB x2.params)) (by simp only [List.length_append]; omega) ?_; intro vz6 w3 mcc6 mcl6 mcv6 hS; have hS := hS.ns; rw [Rep.LR.u8 rfl mcl6] at hS; refine zt ?_; refine zy ?_; refine s_cf ?_; have hS := hS.out (r := blk br 3 [.int .i64 x2.code.length]) fd; refine zR1 (c := Qw (n := x2.code.length) (Q2u hlc) hS) (h := ?_); rintro v7 w1 ⟨hv7, hS⟩; simp only [List.eraseIdx_cons_zero, List.eraseIdx_cons_succ] at hS; refine zt ?_; refine s_cf ?_; refine Qk Qs QP hS vw vw fd fd (Qa (acc1 ++ Qc x2.regs ++ tysB x2.params)) (Qa (Qc x2.code.length)) (by simp only [List.length_append]; omega) ?_; intro vz7 w3 mcc7 mcl7 mcv7 hS; have hS := hS.ns; rw [Rep.LR.u8 rfl mcl7] at hS; refine zt ?_; refine s_cf ?_; refine zm ?_; refine zt ?_; refine zcn ?_; exact ⟨vz7, zh, zh, by assumption, hS.sp⟩)
            · skip
              all_goals (refine zC [(0, none), (1, none), (2, none), (6, none), (7, none), (10, none), (11, none), (12, none), (3, some (some [7, 11])), (4, some (some [7, 11])), (13, some (some [7])), (5, some (some [7, 11])), (8, some (some [11])), (9, some (some [11])), (14, some none), (15, some none), (16, some none)] ?_; have hS := hS.drew; refine s_cq ?_; refine zm ?_; refine zt ?_; refine s_cq ?_; refine Q2 rfl ?_; refine zt ?_; refine s_cq ?_; refine zl hS ?_; refine zt ?_; refine s_cq ?_; refine Q2 rfl ?_; refine zt ?_; refine s_cq ?_; refine zl hS ?_; refine zt ?_; refine s_cq ?_; refine Q2 rfl ?_; refine zt ?_; refine s_cq ?_; refine zl hS ?_; refine zt ?_; refine s_cq ?_; refine zL ?_; refine zt ?_; refine Ql ?_; refine zB1 hS [_] ?_; intro bq w1 hS; refine zt ?_; refine zy ?_; refine Ql ?_; have hS := hS.out (r := blk bq 3 [.int .i64 x2.regs]) fd; refine zR1 (c := Qw (n := x2.regs) (hbr.1) hS) (h := ?_); rintro v4 w1 ⟨hv4, hS⟩; simp only [List.eraseIdx_cons_zero, List.eraseIdx_cons_succ] at hS; refine zt ?_; refine zy ?_; refine Ql ?_; refine zB1 hS [_] ?_; intro br w1 hS; refine zt ?_; refine zy ?_; refine Ql ?_; refine Qk Qs QP hS vw vw fd fd (Qa (acc1)) (Qa (Qc x2.regs)) (by omega) ?_; intro vz5 w3 mcc5 mcl5 mcv5 hS; have hS := hS.ns; rw [Rep.LR.u8 rfl mcl5] at hS)
              all_goals (refine zt ?_; refine zy ?_; refine Ql ?_; refine zR1 (c := QG hbr.2.1 hp2 (by omega) hS) (h := ?_); rintro v5 w1 ⟨hv5, hS⟩; refine zt ?_; refine zy ?_; refine Ql ?_; refine Qk Qs QP hS vw vw fd fd (Qa (acc1 ++ Qc x2.regs)) (Qa (tysB x2.params)) (by simp only [List.length_append]; omega) ?_; intro vz6 w3 mcc6 mcl6 mcv6 hS; have hS := hS.ns; rw [Rep.LR.u8 rfl mcl6] at hS; refine zt ?_; refine zy ?_; refine s_cf ?_; have hS := hS.out (r := blk br 3 [.int .i64 x2.code.length]) fd; refine zR1 (c := Qw (n := x2.code.length) (Q2u hlc) hS) (h := ?_); rintro v7 w1 ⟨hv7, hS⟩; simp only [List.eraseIdx_cons_zero, List.eraseIdx_cons_succ] at hS; refine zt ?_; refine s_cf ?_; refine Qk Qs QP hS vw vw fd fd (Qa (acc1 ++ Qc x2.regs ++ tysB x2.params)) (Qa (Qc x2.code.length)) (by simp only [List.length_append]; omega) ?_; intro vz7 w3 mcc7 mcl7 mcv7 hS; have hS := hS.ns; rw [Rep.LR.u8 rfl mcl7] at hS; refine zt ?_; refine s_cf ?_; refine zm ?_; refine zt ?_; refine zcn ?_; exact ⟨vz7, zh, zh, by assumption, hS.sp⟩)
          · skip
            all_goals (refine zC [(0, none), (1, none), (2, none), (6, none), (7, none), (10, none), (11, none), (12, none), (3, some (some [7, 11])), (13, some (some [7])), (4, some (some [7, 11])), (5, some (some [7, 11])), (8, some (some [11])), (9, some (some [11])), (14, some none), (15, some none), (16, some none)] ?_; have hS := hS.drew; refine s_cq ?_; refine zm ?_; refine zt ?_; refine s_cq ?_; refine Q2 rfl ?_; refine zt ?_; refine s_cq ?_; refine zl hS ?_; refine zt ?_; refine s_cq ?_; refine Q2 rfl ?_; refine zt ?_; refine s_cq ?_; refine zl hS ?_; refine zt ?_; refine s_cq ?_; refine Q2 rfl ?_; refine zt ?_; refine s_cq ?_; refine zl hS ?_; refine zt ?_; refine s_cq ?_; refine zL ?_; refine zt ?_; refine Ql ?_; refine zB1 hS [_] ?_; intro bq w1 hS; refine zt ?_; refine zy ?_; refine Ql ?_; refine zB1 hS [_] ?_; intro br w1 hS; refine zt ?_; refine zy ?_; refine Ql ?_; have hS := hS.out (r := blk bq 3 [.int .i64 x2.regs]) fd; refine zR1 (c := Qw (n := x2.regs) (hbr.1) hS) (h := ?_); rintro v4 w1 ⟨hv4, hS⟩; simp only [List.eraseIdx_cons_zero, List.eraseIdx_cons_succ] at hS; refine zt ?_; refine zy ?_; refine Ql ?_; refine Qk Qs QP hS vw vw fd fd (Qa (acc1)) (Qa (Qc x2.regs)) (by omega) ?_; intro vz5 w3 mcc5 mcl5 mcv5 hS; have hS := hS.ns; rw [Rep.LR.u8 rfl mcl5] at hS)
            all_goals (refine zt ?_; refine zy ?_; refine Ql ?_; refine zR1 (c := QG hbr.2.1 hp2 (by omega) hS) (h := ?_); rintro v5 w1 ⟨hv5, hS⟩; refine zt ?_; refine zy ?_; refine Ql ?_; refine Qk Qs QP hS vw vw fd fd (Qa (acc1 ++ Qc x2.regs)) (Qa (tysB x2.params)) (by simp only [List.length_append]; omega) ?_; intro vz6 w3 mcc6 mcl6 mcv6 hS; have hS := hS.ns; rw [Rep.LR.u8 rfl mcl6] at hS; refine zt ?_; refine zy ?_; refine s_cf ?_; have hS := hS.out (r := blk br 3 [.int .i64 x2.code.length]) fd; refine zR1 (c := Qw (n := x2.code.length) (Q2u hlc) hS) (h := ?_); rintro v7 w1 ⟨hv7, hS⟩; simp only [List.eraseIdx_cons_zero, List.eraseIdx_cons_succ] at hS; refine zt ?_; refine s_cf ?_; refine Qk Qs QP hS vw vw fd fd (Qa (acc1 ++ Qc x2.regs ++ tysB x2.params)) (Qa (Qc x2.code.length)) (by simp only [List.length_append]; omega) ?_; intro vz7 w3 mcc7 mcl7 mcv7 hS; have hS := hS.ns; rw [Rep.LR.u8 rfl mcl7] at hS; refine zt ?_; refine s_cf ?_; refine zm ?_; refine zt ?_; refine zcn ?_; exact ⟨vz7, zh, zh, by assumption, hS.sp⟩)
        · skip
          all_goals (refine zC [(0, none), (1, none), (2, none), (6, none), (7, none), (10, none), (11, none), (12, none), (13, some (some [2, 7])), (3, some (some [7, 11])), (4, some (some [7, 11])), (5, some (some [7, 11])), (8, some (some [11])), (9, some (some [11])), (14, some none), (15, some none), (16, some none)] ?_; have hS := hS.drew; refine s_cq ?_; refine zm ?_; refine zt ?_; refine s_cq ?_; refine Q2 rfl ?_; refine zt ?_; refine s_cq ?_; refine zl hS ?_; refine zt ?_; refine s_cq ?_; refine Q2 rfl ?_; refine zt ?_; refine s_cq ?_; refine zl hS ?_; refine zt ?_; refine s_cq ?_; refine Q2 rfl ?_; refine zt ?_; refine s_cq ?_; refine zl hS ?_; refine zt ?_; refine s_cq ?_; refine zL ?_; refine zt ?_; refine Ql ?_; refine zB1 hS [_] ?_; intro br w1 hS; refine zt ?_; refine zy ?_; refine Ql ?_; refine zB1 hS [_] ?_; intro bq w1 hS; refine zt ?_; refine zy ?_; refine Ql ?_; have hS := hS.out (r := blk bq 3 [.int .i64 x2.regs]) fd; refine zR1 (c := Qw (n := x2.regs) (hbr.1) hS) (h := ?_); rintro v4 w1 ⟨hv4, hS⟩; simp only [List.eraseIdx_cons_zero, List.eraseIdx_cons_succ] at hS; refine zt ?_; refine zy ?_; refine Ql ?_; refine Qk Qs QP hS vw vw fd fd (Qa (acc1)) (Qa (Qc x2.regs)) (by omega) ?_; intro vz5 w3 mcc5 mcl5 mcv5 hS; have hS := hS.ns; rw [Rep.LR.u8 rfl mcl5] at hS)
          all_goals (refine zt ?_; refine zy ?_; refine Ql ?_; refine zR1 (c := QG hbr.2.1 hp2 (by omega) hS) (h := ?_); rintro v5 w1 ⟨hv5, hS⟩; refine zt ?_; refine zy ?_; refine Ql ?_; refine Qk Qs QP hS vw vw fd fd (Qa (acc1 ++ Qc x2.regs)) (Qa (tysB x2.params)) (by simp only [List.length_append]; omega) ?_; intro vz6 w3 mcc6 mcl6 mcv6 hS; have hS := hS.ns; rw [Rep.LR.u8 rfl mcl6] at hS; refine zt ?_; refine zy ?_; refine s_cf ?_; have hS := hS.out (r := blk br 3 [.int .i64 x2.code.length]) fd; refine zR1 (c := Qw (n := x2.code.length) (Q2u hlc) hS) (h := ?_); rintro v7 w1 ⟨hv7, hS⟩; simp only [List.eraseIdx_cons_zero, List.eraseIdx_cons_succ] at hS; refine zt ?_; refine s_cf ?_; refine Qk Qs QP hS vw vw fd fd (Qa (acc1 ++ Qc x2.regs ++ tysB x2.params)) (Qa (Qc x2.code.length)) (by simp only [List.length_append]; omega) ?_; intro vz7 w3 mcc7 mcl7 mcv7 hS; have hS := hS.ns; rw [Rep.LR.u8 rfl mcl7] at hS; refine zt ?_; refine s_cf ?_; refine zm ?_; refine zt ?_; refine zcn ?_; exact ⟨vz7, zh, zh, by assumption, hS.sp⟩)
      rintro ρ w1 ⟨vk, hA, hρ, hvk, hS⟩; obtain ⟨ρ, rfl⟩ := env2 hA hρ
      all_goals (refine Q0 ?_; refine Q0 ?_; refine Q1 ?_; refine zm ?_; refine zn ?_; refine Q8 ?_)
      refine zo [1, 3, 6, 7, 8, 9] (fun A ρ' w' => ∃ (i : Nat) (vd : Value) (acc2 : List UInt8), Has ρ' A ∧ Has ρ' [(5, vd), (10, .int .i64 i)] ∧ (i ≤ x2.code.length) ∧ (oneC vd = true) ∧ (acc2 ++ ((x2.code.drop i).flatMap Ins.bts ++ ((Qc x2.fin.op ++ (if x2.fin.op = 1 then x2.fin.yes.bts else if x2.fin.op = 2 then Qc x2.fin.a ++ x2.fin.yes.bts ++ x2.fin.no.bts else if x2.fin.op = 3 then Q24 x2.fin.args else [])) ++ (R2 ++ R1))) = m.body) ∧ St cx w' (sl 5 1 vd (acc2.map QB) :: blk p9 79 [.int .i64 x2.regs, vp2, vc2, .int .i64 x2.fin.op, .int .i64 x2.fin.a, .int .i64 x2.fin.yes.block, ve21, ve22, .int .i64 x2.fin.no.block, ve23, ve24, ve25] :: blk p7 53 [.int .i64 x1.regs, vp1, vr1, vb1] :: blk p3 30 [.int .i64 0, .int .i64 0] :: blk p1 24 [vf] :: L)) (fun ρ' _ => (x2.code.length - iv (ρ' 10)).toNat) ?_ ?_
      · exact ⟨0, vk, acc1 ++ Qc x2.regs ++ tysB x2.params ++ Qc x2.code.length, zh, zh, (by omega), by assumption, by rw [List.drop_zero, ← hd1]; simp only [List.append_assoc], hS.sp⟩
      rintro ρ w1 ⟨i, vd, acc2, hA, hρ, hi, hvd, hd2, hS⟩; obtain ⟨ρ, rfl⟩ := env2 hA hρ
      unfold Qby
      all_goals (refine Q0 ?_; refine Q0 ?_; refine Q1 ?_; refine zm ?_; refine Q2 rfl ?_; refine zl hS ?_; refine zL ?_; refine Qt rfl rfl ?_; refine zn ?_)
      refine Qm rfl (fun hc => ?_) (fun hc => ?_)
      · skip
        all_goals (refine zsk ?_; refine Q0 ?_; refine Q8 ?_; refine Q1 ?_; refine zm ?_; refine Q2 rfl ?_; refine zl hS ?_; refine zm ?_; refine zi ?_; intro b3 o3 cs3 x3 hat3 hx3 he3; obtain ⟨vr3, va3, rfl, hr3, ha3⟩ := Q22 he3; (first | (refine zv hS ?_) | (refine zvk hS ?_)); have hbi := hbs.2.2.1 x3 (List.mem_of_getElem? hx3); rw [Q7 hx3, List.flatMap_cons] at hd2; have hal2 := congrArg List.length hd2; simp only [List.length_append] at hal2; refine zR1 (c := QtF (hbr.2.2.1 x3 (List.mem_of_getElem? hx3)) he3 (ins_room hbi) hS) (h := ?_); rintro v8 w1 ⟨hv8, hS⟩; refine Qk Qs QP hS vw vw fd fd (Qa (acc2)) (Qa (x3.bts)) (by omega) ?_; intro vz8 w3 mcc8 mcl8 mcv8 hS; have hS := hS.ns; rw [Rep.LR.u8 rfl mcl8] at hS; refine zm ?_; refine zn ?_; refine Q1 ?_; refine zm ?_; refine zad ?_; refine zm ?_; refine zn ?_; exact ⟨⟨i + 1, vz8, acc2 ++ x3.bts, zh, zh, (by omega), by assumption, by rw [← hd2]; simp only [List.append_assoc], hS.sp⟩, Qh (by omega)⟩)
      · skip
        all_goals (refine zex ?_; rw [List.drop_of_length_le (by omega), List.flatMap_nil, List.nil_append] at hd2; have hal2 := congrArg List.length hd2; simp only [List.length_append] at hal2; refine Q0 ?_; refine Q1 ?_; refine zm ?_; refine Q2 rfl ?_; (first | refine Q2 rfl ?_ | refine Q1r rfl ?_); refine zl hS ?_; refine zB1 hS [_] ?_; intro b1 w1 hS; refine zR1 (c := Qw (n := x2.fin.op) (hbr.2.2.2.1) hS) (h := ?_); rintro v9 w1 ⟨hv9, hS⟩; refine Qk Qs QP hS vw vw fd fd (Qa (acc2)) (Qa (Qc x2.fin.op)) (by omega) ?_; intro vz9 w3 mcc9 mcl9 mcv9 hS; have hS := hS.ns; rw [Rep.LR.u8 rfl mcl9] at hS; refine zm ?_; refine zn ?_; refine Q0 ?_; refine Q1 ?_; refine Q2 rfl ?_; (first | refine Q2 rfl ?_ | refine Q1r rfl ?_); refine zl hS ?_; refine zn ?_; refine Q8 ?_; refine Q0 ?_; refine Q1 ?_)
        all_goals (first | (refine Qy ?_) | (refine QC ?_) | (refine Qn rfl rfl (fun hc => ?_) (fun hc => ?_)))
        all_goals (refine zm ?_; refine zn ?_)
        all_goals
          first
          | (refine Q3 rfl ?_ -- Q2U c4
             all_goals (refine Q1 ?_; refine zm ?_; refine Q2 rfl ?_; (first | refine Q2 rfl ?_ | refine Q1r rfl ?_); refine zv hS ?_; have ho : x2.fin.op = 1 := (by omega); rw [if_pos ho] at hd2; have hal3 := congrArg List.length hd2; simp only [List.length_append] at hal3; refine zR1 (c := Qgj (x := x2.fin.yes) hbr.2.2.2.2.2.1 ⟨_, _, rfl, he21, he22⟩ (by omega) hS) (h := ?_); rintro v10 w1 ⟨hv10, hS⟩; refine Qk Qs QP hS vw vw fd fd (Qa (acc2 ++ Qc x2.fin.op)) (Qa (x2.fin.yes.bts)) (by simp only [List.length_append]; omega) ?_; intro vz10 w3 mcc10 mcl10 mcv10 hS; have hS := hS.ns; rw [Rep.LR.u8 rfl mcl10] at hS; refine zm ?_)
             all_goals refine zn ?_)
          | (refine Q4 rfl ?_ -- Q2U c4
             all_goals (refine Q0 ?_; refine Q1 ?_)
             all_goals (first | (refine Qy ?_) | (refine QC ?_) | (refine Qn rfl rfl (fun hc => ?_) (fun hc => ?_)))
             all_goals (refine zm ?_; refine zn ?_)
             all_goals
               first
               | (refine Q3 rfl ?_ -- Q2U c5
                  all_goals (refine zC [(0, none), (1, none), (2, none), (3, none), (7, none), (8, none), (9, none), (12, none), (13, none), (14, none), (4, some (some [9, 14])), (5, some (some [9, 14])), (6, some (some [9, 14])), (10, some (some [14])), (11, some (some [14])), (15, some none), (16, some none), (17, some none)] ?_; have hS := hS.drew; refine s_cq ?_; refine zm ?_; refine zt ?_; refine s_cq ?_; refine Q2 rfl ?_; refine zt ?_; refine s_cq ?_; (first | refine Q2 rfl ?_ | refine Q1r rfl ?_); refine zt ?_; refine s_cq ?_; refine zl hS ?_; refine zt ?_; refine s_cq ?_; refine Q2 rfl ?_; refine zt ?_; refine s_cq ?_; (first | refine Q2 rfl ?_ | refine Q1r rfl ?_); refine zt ?_; refine s_cq ?_; refine zv hS ?_; refine zt ?_; refine s_cq ?_; refine Q2 rfl ?_; refine zt ?_; refine s_cq ?_; (first | refine Q2 rfl ?_ | refine Q1r rfl ?_); refine zt ?_; refine s_cq ?_; refine zv hS ?_; refine zt ?_; refine Ql ?_; refine zB1 hS [_] ?_; intro ba w1 hS; refine zt ?_; refine zy ?_; refine Ql ?_; have ho : x2.fin.op = 2 := (by omega); rw [if_neg (show ¬ x2.fin.op = 1 by omega), if_pos ho] at hd2; have hal3 := congrArg List.length hd2; simp only [List.length_append] at hal3; have hS := hS.out (r := blk ba 3 [.int .i64 x2.fin.a]) fd; refine zR1 (c := Qw (n := x2.fin.a) (hbr.2.2.2.2.1) hS) (h := ?_); rintro v11 w1 ⟨hv11, hS⟩; simp only [List.eraseIdx_cons_zero, List.eraseIdx_cons_succ] at hS)
                  all_goals (refine zt ?_; refine zy ?_; refine Ql ?_; refine Qk Qs QP hS vw vw fd fd (Qa (acc2 ++ Qc x2.fin.op)) (Qa (Qc x2.fin.a)) (by simp only [List.length_append]; omega) ?_; intro vz11 w3 mcc11 mcl11 mcv11 hS; have hS := hS.ns; rw [Rep.LR.u8 rfl mcl11] at hS; refine zt ?_; refine zy ?_; refine Ql ?_; refine zR1 (c := Qgj (x := x2.fin.yes) hbr.2.2.2.2.2.1 ⟨_, _, rfl, he21, he22⟩ (by omega) hS) (h := ?_); rintro v12 w1 ⟨hv12, hS⟩; refine zt ?_; refine zy ?_; refine Ql ?_; refine Qk Qs QP hS vw vw fd fd (Qa (acc2 ++ Qc x2.fin.op ++ Qc x2.fin.a)) (Qa (x2.fin.yes.bts)) (by simp only [List.length_append]; omega) ?_; intro vz12 w3 mcc12 mcl12 mcv12 hS; have hS := hS.ns; rw [Rep.LR.u8 rfl mcl12] at hS; refine zt ?_; refine zy ?_; refine s_cf ?_; refine zR1 (c := Qgj (x := x2.fin.no) hbr.2.2.2.2.2.2.1 ⟨_, _, rfl, he23, he24⟩ (by omega) hS) (h := ?_); rintro v13 w1 ⟨hv13, hS⟩; refine zt ?_; refine s_cf ?_; refine Qk Qs QP hS vw vw fd fd (Qa (acc2 ++ Qc x2.fin.op ++ Qc x2.fin.a ++ x2.fin.yes.bts)) (Qa (x2.fin.no.bts)) (by simp only [List.length_append]; omega) ?_; intro vz13 w3 mcc13 mcl13 mcv13 hS; have hS := hS.ns; rw [Rep.LR.u8 rfl mcl13] at hS; refine zt ?_; refine s_cf ?_; refine zm ?_; refine zt ?_)
                  all_goals refine zcn ?_)
               | (refine Q4 rfl ?_ -- Q2U c5
                  all_goals (refine Q1 ?_; refine zm ?_; refine Q2 rfl ?_; (first | refine Q2 rfl ?_ | refine Q1r rfl ?_); refine zl hS ?_; have ho : x2.fin.op = 3 := (by have := end_op hend; omega); rw [if_neg (show ¬ x2.fin.op = 1 by omega), if_neg (show ¬ x2.fin.op = 2 by omega), if_pos ho] at hd2; have hal3 := congrArg List.length hd2; simp only [List.length_append] at hal3; refine zR1 (c := Q47 hbr.2.2.2.2.2.2.2 he25 (by omega) hS) (h := ?_); rintro v14 w1 ⟨hv14, hS⟩; refine Qk Qs QP hS vw vw fd fd (Qa (acc2 ++ Qc x2.fin.op)) (Qa (Q24 x2.fin.args)) (by simp only [List.length_append]; omega) ?_; intro vz14 w3 mcc14 mcl14 mcv14 hS; have hS := hS.ns; rw [Rep.LR.u8 rfl mcl14] at hS; refine zm ?_)
                  all_goals refine zn ?_))
        all_goals (refine Q1 ?_; refine zm ?_; refine zad ?_; refine zm ?_; refine zn ?_; (first | (exact ⟨⟨b + 1, vz10, acc2 ++ Qc x2.fin.op ++ x2.fin.yes.bts, zh, zh, (by omega), by assumption, by rw [hR2, ← hd2]; simp only [List.append_assoc], hS.sp⟩, Qh (by omega)⟩) | (exact ⟨⟨b + 1, vz13, acc2 ++ Qc x2.fin.op ++ Qc x2.fin.a ++ x2.fin.yes.bts ++ x2.fin.no.bts, zh, zh, (by omega), by assumption, by rw [hR2, ← hd2]; simp only [List.append_assoc], hS.sp⟩, Qh (by omega)⟩) | (exact ⟨⟨b + 1, vz14, acc2 ++ Qc x2.fin.op ++ Q24 x2.fin.args, zh, zh, (by omega), by assumption, by rw [hR2, ← hd2]; simp only [List.append_assoc], hS.sp⟩, Qh (by omega)⟩)))
    · skip
      all_goals (refine zex ?_; refine Q1 ?_; refine zm ?_; refine zad ?_; refine zm ?_; refine zn ?_; exact ⟨⟨q + 1, vc, acc1, zh, zh, (by omega), hvc, by rw [hR1, ← hd1, List.drop_of_length_le (by omega), List.flatMap_nil, List.nil_append], hS.sp⟩, Qh (by omega)⟩)
  · skip
    all_goals (refine zex ?_; rw [List.drop_of_length_le (by omega), List.flatMap_nil, List.append_nil] at hd; subst hd; refine Q0 ?_; refine Q0 ?_; refine Q1 ?_; refine zm ?_; (first | (refine zL ?_) | (refine zLe hS ?_)); refine zad ?_)
    all_goals (first | (refine QK ?_) | (refine QM ?_) | (refine Qi rfl rfl (fun hc => ?_) (fun hc => ?_)))
    all_goals (refine zn ?_)
    all_goals
      first
      | (refine Q3 rfl ?_ -- Q2U c6
         all_goals (refine Q0 ?_; refine Q1 ?_; refine zR2 (c := rF_c hS) (h := ?_); rintro v1 w1 ⟨rfl, hS⟩; refine zm ?_; refine zsn hS ?_; intro w1 hS; have hS := hS.ns; refine zn ?_; refine zr ?_; refine QbJ vw vw (Q9 (n := 2) (by kernel_rfl) (by kernel_rfl) (hS.blkAt fd) (by rfl) (by rfl)) ?_)
         all_goals (first | (exact ⟨_, rfl, .inr (.inr ⟨hF, by omega, _, rfl, by assumption, hS.sp⟩)⟩) | (exact ⟨_, rfl, .inr (.inl ⟨hF, by omega, rfl, hS.sp⟩)⟩)))
      | (refine Q4 rfl ?_ -- Q2U c6
         all_goals refine zsk ?_)
    all_goals (refine Q0 ?_; refine Q1 ?_; refine zm ?_; obtain ⟨c7, hle7, hS, hk7, hback⟩ := St.lend (r := u8R) (hS.out (r := sl 5 1 vb (m.body.map QB)) fd) (Qa m.body) rfl (by omega); simp only [List.eraseIdx_cons_zero, List.eraseIdx_cons_succ] at hS; refine zR1 (c := QmJ hk7 hS) (h := ?_); rintro v9 w9 ⟨rfl, hS⟩; have hS := hback hS; obtain ⟨cr, hcr⟩ : ∃ c, Q3B m.body = c := ⟨_, rfl⟩; rw [hcr]; refine zm ?_; refine zn ?_; refine Q0 ?_; refine Q1 ?_; refine zm ?_; refine zm ?_; refine Q28 rfl ?_; rw [Q3V]; refine zm ?_; refine Q7Q rfl rfl (by decide) ?_; rw [show (8 : Int) = ((8 : Nat) : Int) from rfl, Q7s _ _ (by decide)]; refine Q28 rfl ?_; rw [Q3V]; refine zm ?_; refine Q7Q rfl rfl (by decide) ?_; rw [show (16 : Int) = ((16 : Nat) : Int) from rfl, Q7s _ _ (by decide)]; refine Q28 rfl ?_; rw [Q3V]; refine zm ?_; refine Q7Q rfl rfl (by decide) ?_; rw [show (24 : Int) = ((24 : Nat) : Int) from rfl, Q7s _ _ (by decide)]; refine Q28 rfl ?_; rw [Q3V]; refine zB4 hS [_, _, _, _] ?_; intro b1 w1 hS; have hS := St.slOf (es := 1) (n := 4) (css := (crc4 cr).map QB) hS rfl (by simp [crc4, QB]) rfl; refine Qk Qs QP hS vw vw fd fd (Qa (m.body)) (Qa (crc4 cr)) (by rw [show (crc4 cr).length = 4 from rfl]; omega) ?_; intro vz15 w3 mcc15 mcl15 mcv15 hS; have hS := hS.ns; rw [Rep.LR.u8 rfl mcl15] at hS; subst hcr; refine zb0 [_, _] ?_; refine zm ?_; refine zsn hS ?_; intro w1 hS; have hS := hS.ns)
    all_goals (refine zn ?_; refine zr ?_; refine QbJ vw vw (Q9 (n := 2) (by kernel_rfl) (by kernel_rfl) (hS.blkAt fd) (by rfl) (by rfl)) ?_; exact ⟨_, rfl, .inr (.inr ⟨hF, by omega, _, rfl, by assumption, hS.sp⟩)⟩)
end Go.Proofs.YtanlkfeogoganaaGreat
namespace Go.Lir
section
variable {α β : Type} {bs : List UInt8} {at0 at1 at2 : Nat} {e0 e1 e2 : Flt} {a : α} {b : β}
/-- There is a fault; or there is none, and the place is one of the bytes'. -/
def Fine (bs : List UInt8) (at0 : Nat) (e0 : Flt) : Prop := e0.1 ≠ 0 ∨ (e0 = (0, 0) ∧ at0 ≤ bs.length)
/-- What is read of the bytes from a place on; behind a fault nothing. -/
def Take (rd : List UInt8 → Got α) (bs : List UInt8) (at0 : Nat) (e0 : Flt) (a : α) (at1 : Nat) (e1 : Flt) : Prop :=
  (e0.1 ≠ 0 ∧ e1 = e0) ∨ (e0 = (0, 0) ∧ at0 ≤ bs.length ∧ ((rd (bs.drop at0) = .ok (a, bs.drop at1) ∧ e1 = (0, 0) ∧ at0 ≤ at1 ∧ at1 ≤ bs.length) ∨ (rd (bs.drop at0) = .error e1 ∧ e1.1 ≠ 0)))
theorem Take.fine {rd : List UInt8 → Got α} (h : Take rd bs at0 e0 a at1 e1) : Fine bs at1 e1 := by
  rcases h with ⟨h, rfl⟩ | ⟨h, h2, ⟨h3, rfl, h4, h5⟩ | ⟨h3, h4⟩⟩
  · exact .inl h
  · exact .inr ⟨rfl, h5⟩
  · exact .inl h4
theorem Q7D {rd : List UInt8 → Got α} (h : e0.1 ≠ 0) : Take rd bs at0 e0 a at1 e0 := .inl ⟨h, rfl⟩
theorem Take.weak_at {rd : List UInt8 → Got α} {p : Nat} {a' : α} (h : Take rd bs at0 e0 a at1 e1) (hb : e1.1 ≠ 0) : Take rd bs at0 e0 a' p e1 := by
  rcases h with h | ⟨h, h2, ⟨_, rfl, _⟩ | h3⟩
  · exact .inl h
  · exact absurd rfl hb
  · exact .inr ⟨h, h2, .inr h3⟩
theorem Q4t {rd : List UInt8 → Got α} (h : rd (bs.drop at0) = .ok (a, bs.drop at1)) (h1 : at0 ≤ at1) (h2 : at1 ≤ bs.length) : Take rd bs at0 (0, 0) a at1 (0, 0) := .inr ⟨rfl, by omega, .inl ⟨h, rfl, h1, h2⟩⟩
theorem Q4k {rd : List UInt8 → Got α} (ha : at0 ≤ bs.length) (h : rd (bs.drop at0) = .error e1) (h1 : e1.1 ≠ 0) : Take rd bs at0 (0, 0) a at1 e1 := .inr ⟨rfl, ha, .inr ⟨h, h1⟩⟩
theorem QF {f : List UInt8 → Got α} {g : α → List UInt8 → Got β} (h1 : Take f bs at0 e0 a at1 e1) (h2 : Take (g a) bs at1 e1 b at2 e2) : Take (fun r => Qz (f r) g) bs at0 e0 b at2 e2 := by
  rcases h1 with ⟨h, rfl⟩ | ⟨rfl, h3, ⟨h4, rfl, h5, h6⟩ | ⟨h4, h5⟩⟩
  · rcases h2 with ⟨_, rfl⟩ | ⟨rfl, _⟩
    · exact .inl ⟨h, rfl⟩
    · exact absurd rfl h
  · rcases h2 with ⟨h, _⟩ | ⟨_, h7, ⟨h8, rfl, h9, h10⟩ | ⟨h8, h9⟩⟩
    · exact absurd rfl h
    · exact Q4t (by show Qz (f _) g = _; rw [h4]; exact h8) (by omega) h10
    · exact Q4k h3 (by show Qz (f _) g = _; rw [h4]; exact h8) h9
  · rcases h2 with ⟨_, rfl⟩ | ⟨rfl, _⟩
    · exact Q4k h3 (by show Qz (f _) g = _; rw [h4]; rfl) h5
    · exact absurd rfl h5
theorem Q36 (hf : Fine bs at0 e0) : Take (fun r => .ok (a, r)) bs at0 e0 a at0 e0 := by
  rcases hf with h | ⟨rfl, h⟩
  · exact Q7D h
  · exact Q4t rfl (Nat.le_refl _) h
theorem Q2j {c : Prop} [Decidable c] {z : α} {f : List UInt8 → Got α} (hc : c) (h : Take f bs at0 e0 a at1 e1) : Take (rdIf c z f) bs at0 e0 a at1 e1 := by
  have e : rdIf c z f = f := by funext r; unfold rdIf; rw [if_pos hc]
  rw [e]; exact h
theorem Q27 {c : Prop} [Decidable c] {z : α} {f : List UInt8 → Got α} (hc : ¬ c) (hf : Fine bs at0 e0) : Take (rdIf c z f) bs at0 e0 z at0 e0 := by
  have e : rdIf c z f = fun r => .ok (z, r) := by funext r; unfold rdIf; rw [if_neg hc]
  rw [e]; exact Q36 hf
/-- How many of a list. -/
def Q7R (n : Nat) (r : List UInt8) : Got Nat := Qz (rdLong n r) fun c r' => if c < 0 ∨ (r'.length : Int) < c then .error (2, (n : Int) - r.length) else .ok (c.toNat, r')
theorem Qtv (n : Nat) (f : List UInt8 → Got α) : Q14 n f = fun r => Qz (Q7R n r) fun k => rdMany f k := by
  funext r
  unfold Q14 Q7R Qz
  cases rdLong n r with
  | error e => rfl
  | ok p =>
    obtain ⟨c, r'⟩ := p
    dsimp only
    by_cases h : c < 0 ∨ (r'.length : Int) < c
    · rw [if_pos h, if_pos h]
    · rw [if_neg h, if_neg h]
theorem Qmv {n : Int} {q : Nat} (h : Take (rdLong bs.length) bs at0 e0 n at1 e1) (h1 : e1.1 = 0 → 0 ≤ n ∧ (n : Int) ≤ bs.length - at1) (hq : e1.1 = 0 → q = n.toNat) : Take (Q7R bs.length) bs at0 e0 q at1 e1 := by
  rcases h with ⟨h, rfl⟩ | ⟨rfl, h3, ⟨h4, rfl, h5, h6⟩ | ⟨h4, h5⟩⟩
  · exact Q7D h
  · have h7 := h1 rfl
    have h8 := hq rfl
    subst h8
    refine Q4t ?_ h5 h6
    unfold Q7R Qz
    rw [h4]
    dsimp only
    rw [if_neg]
    rw [List.length_drop]; omega
  · exact Q4k h3 (by unfold Q7R Qz; rw [h4]) h5
theorem Qpy {n : Int} {q : Nat} (h : Take (rdLong bs.length) bs at0 e0 n at1 (0, 0)) (h1 : n < 0 ∨ (bs.length - at1 : Int) < n) : Take (Q7R bs.length) bs at0 e0 q at1 (2, at0) := by
  rcases h with ⟨h, rfl⟩ | ⟨rfl, h3, ⟨h4, _, h5, h6⟩ | ⟨h4, h5⟩⟩
  · exact absurd rfl h
  · refine Q4k h3 ?_ (by show (2 : Int) ≠ 0; decide)
    unfold Q7R Qz
    rw [h4]
    dsimp only
    rw [if_pos (by rw [List.length_drop]; omega), Qaw h3]
  · exact absurd rfl h5
/-- A list, one by one: what was read, and what is still to be read. -/
def More (f : List UInt8 → Got α) (bs : List UInt8) (at0 : Nat) (e0 : Flt) (acc : List α) (k : Nat) (at1 : Nat) (e1 : Flt) : Prop :=
  Fine bs at1 e1 ∧ ∀ (rest : List α) at2 e2, Take (rdMany f k) bs at1 e1 rest at2 e2 → Take (Q14 bs.length f) bs at0 e0 (acc ++ rest) at2 e2
theorem More.fine {f : List UInt8 → Got α} {acc : List α} {k : Nat} (h : More f bs at0 e0 acc k at1 e1) : Fine bs at1 e1 := h.1
theorem QpR {f : List UInt8 → Got α} {k : Nat} (h : Take (Q7R bs.length) bs at0 e0 k at1 e1) : More f bs at0 e0 [] k at1 e1 := ⟨h.fine, fun rest at2 e2 h2 => by
  rw [Qtv]; exact QF h h2⟩
theorem QpQ {f : List UInt8 → Got α} {acc : List α} {k : Nat} {x : α} (h : More f bs at0 e0 acc (k + 1) at1 e1) (hx : Take f bs at1 e1 x at2 e2) : More f bs at0 e0 (acc ++ [x]) k at2 e2 := ⟨hx.fine, fun rest at3 e3 h3 => by
  rw [List.append_assoc]
  refine h.2 ([x] ++ rest) at3 e3 ?_
  have e : rdMany f (k + 1) = fun r => Qz (f r) fun x r => Qz (rdMany f k r) fun l r => .ok (x :: l, r) := by funext r; rw [rdMany]
  rw [e]
  exact QF hx (QF h3 (Q36 h3.fine))⟩
theorem Qaq {f : List UInt8 → Got α} {acc : List α} {k : Nat} (h : More f bs at0 e0 acc k at1 e1) (hk : k = 0 ∨ e1.1 ≠ 0) : Take (Q14 bs.length f) bs at0 e0 acc at1 e1 := by
  have h1 := h.2 [] at1 e1
  rw [List.append_nil] at h1
  apply h1
  rcases hk with rfl | hk
  · have e : rdMany f 0 = fun r => .ok ([], r) := by funext r; rw [rdMany]
    rw [e]; exact Q36 h.1
  · exact Q7D hk
end
theorem tk_mul {i y : Nat} (hi : i ≤ 9) (hy : y < 128) (h9 : i = 9 → y ≤ 1) : IntKind.u64.wrap ((y : Int) * ((128 ^ i : Nat) : Int)) = ((y * 128 ^ i : Nat) : Int) := by
  rw [show ((y : Int) * ((128 ^ i : Nat) : Int)) = ((y * 128 ^ i : Nat) : Int) by push_cast; rfl, Q1X (acc_lt hi hy h9)]
theorem tk_unit {i : Nat} (h : i < 9) : IntKind.u64.wrap (((128 ^ i : Nat) : Int) * 128) = ((128 ^ (i + 1) : Nat) : Int) := by
  have := Qgt (i := i + 1) (by omega)
  rw [show (((128 ^ i : Nat) : Int) * 128) = ((128 ^ (i + 1) : Nat) : Int) by rw [Nat.pow_succ]; push_cast; rfl, Q1X (by omega)]
theorem rem2 (u : Nat) : (u : Int).tmod 2 = ((u % 2 : Nat) : Int) := by
  rw [Int.tmod_eq_emod_of_nonneg (by omega)]; omega
theorem quo2 {u : Nat} (h : u < 18446744073709551616) : IntKind.u64.wrap ((u : Int).tdiv 2) = ((u / 2 : Nat) : Int) := by
  rw [Int.tdiv_eq_ediv_of_nonneg (by omega), show ((u : Int) / 2) = ((u / 2 : Nat) : Int) by omega, Q1X (by omega)]
theorem Q8Y {U : Nat} (h : U < 18446744073709551616) : Q3n U = if U % 2 = 1 then -((U / 2 : Nat) : Int) - 1 else ((U / 2 : Nat) : Int) := by
  unfold Q3n
  by_cases h2 : U % 2 = 0
  · rw [if_pos h2, if_neg (by omega)]
  · rw [if_neg h2, if_pos (by omega)]
end Go.Lir
namespace Go.Proofs.YtanlkfeogoganaaGreat
open Go.Lir
set_option maxHeartbeats 1000000
attribute [local irreducible] LC.wp Q5 QN Q11 retQ Q1T LO.wp Qr Calls
set_option linter.unusedSimpArgs false
set_option linter.unusedVariables false
attribute [local irreducible] bitI IntKind.wrap Q3n rdU rmap rdLong Q7R
variable {cx : Cx} {w : World} {L : List Res}
@[reducible] def tkb (rb : Nat) (v : Value) (at0 : Nat) (e : Flt) : Res := blk rb 107 [v, .int .i64 (at0 : Int), .int .i64 e.1, .int .i64 e.2]
theorem Q5E {rb at0 : Nat} {v : Value} {e : Flt} (hS : St cx w (tkb rb v at0 e :: L)) : Rets Tryz.prog Qa9 [.pointer (some ⟨rb, 0, none⟩)] w fun u w' => u = .bool (decide (e.1 = 0)) ∧ St cx w' (tkb rb v at0 e :: L) := by
  all_goals refine Qkh ?_
  all_goals (unfold R_taking_ok_lc; refine Q0 ?_; refine Q1 ?_; refine zm ?_; refine zn ?_; refine Q0 ?_; refine Q1 ?_; refine zm ?_; refine Qv rfl ?_; refine Q2 rfl ?_; (first | refine Q2 rfl ?_ | refine Q1r rfl ?_); refine zl hS ?_; refine QbF rfl rfl ?_; refine zm ?_; refine zn ?_; refine zr ?_; refine zf ?_; refine ⟨_, rfl, ?_, hS.sp⟩; exact rfl; done)
theorem tkok_c {rb at0 i : Nat} {v : Value} {e : Flt} (hS : St cx w L) (hi : nth L i = some (tkb rb v at0 e)) : Rets Tryz.prog Qa9 [.pointer (some ⟨rb, 0, none⟩)] w fun u w' => u = .bool (decide (e.1 = 0)) ∧ St cx w' L :=
  (Q5E (hS.out hi)).mono fun _ _ ⟨h1, h2⟩ => ⟨h1, h2.back0 hi⟩
theorem Qad {rb at0 : Nat} {c a : Int} {v : Value} {e : Flt} (hS : St cx w (tkb rb v at0 e :: L)) : Rets Tryz.prog Q2S [.pointer (some ⟨rb, 0, none⟩), .int .i64 c, .int .i64 a] w fun u w' => u = .tuple #[] ∧ St cx w' (tkb rb v at0 (if e.1 = 0 then (c, a) else e) :: L) := by
  all_goals refine Qcy ?_
  all_goals (unfold R_taking_wrong_lc; refine Q0 ?_; refine Q1 ?_; refine zm ?_)
  all_goals (refine zR1 (c := Q5E hS) (h := ?_); rintro v1 w1 ⟨rfl, hS⟩; cases hq : decide (e.1 = 0))
  all_goals (refine zn ?_)
  all_goals
    first
    | (refine Q3 rfl ?_ -- Q2S c0
       all_goals (refine Q1 ?_; refine zm ?_; refine zm ?_; refine zm ?_; refine zR2 (c := rF_c hS) (h := ?_); rintro v1 w1 ⟨rfl, hS⟩; refine Qv rfl ?_; refine Q2 rfl ?_; (first | (refine zsn hS ?_; intro w1 hS; have hS := hS.ns) | (refine zsm hS ?_; intro w1 hS; have hS := hS.ns)))
       all_goals refine zn ?_)
    | (refine Q4 rfl ?_ -- Q2S c0
       all_goals refine zsk ?_)
  all_goals (refine Q3j ?_; first | (rw [if_pos (of_decide_eq_true hq)]; exact ⟨_, rfl, rfl, hS.sp⟩) | (rw [if_neg (of_decide_eq_false hq)]; exact ⟨_, rfl, rfl, hS.sp⟩))
theorem Qmu {bs : List UInt8} {rb at0 : Nat} {v : Value} {e0 : Flt} (hv : u8R.sl cx v bs) (hf : Fine bs at0 e0) (hS : St cx w (tkb rb v at0 e0 :: L)) :
    Rets Tryz.prog Q1p [.pointer (some ⟨rb, 0, none⟩)] w fun u w' => ∃ n at1 e1, Take (rdLong bs.length) bs at0 e0 n at1 e1 ∧ u = .int .i64 n ∧ St cx w' (tkb rb v at1 e1 :: L) := by
  have hbl := hv.len
  obtain ⟨va, vn, rfl⟩ := Rep.SR.shape hv
  rcases hf with hbad | ⟨rfl, ha⟩
  · skip
    all_goals refine Q5J ?_
    all_goals (unfold R_taking_long_lc; refine Q0 ?_; refine Q1 ?_; refine zm ?_; refine zn ?_; refine Q0 ?_; refine Q1 ?_; refine zm ?_; refine zm ?_; refine zn ?_; refine Q0 ?_; refine Q0 ?_; refine Q1 ?_; refine zm ?_; refine zn ?_; refine Q8 ?_)
    refine zo [0] (fun A ρ' w' => ∃ (qa qb qc : Value), Has ρ' A ∧ Has ρ' [(3, qa), (4, qb), (5, qc)] ∧ St cx w' (tkb rb (.slice va bs.length vn) at0 e0 :: L)) (fun _ _ => 0) ?_ ?_
    · exact ⟨_, _, _, zh, zh, hS.sp⟩
    rintro ρ w1 ⟨qa, qb, qc, hA, hρ, hS⟩; obtain ⟨ρ, rfl⟩ := env2 hA hρ
    unfold Q3K
    all_goals (refine Q0 ?_; refine Q0 ?_; refine Q1 ?_; refine zm ?_; refine zR1 (c := Q5E hS) (h := ?_); rintro v1 w1 ⟨rfl, hS⟩; rw [decide_eq_false hbad]; refine zn ?_)
    all_goals refine Q4 rfl ?_
    all_goals (refine zex ?_; refine Q0 ?_; refine Q1 ?_; refine zm ?_; refine zn ?_; refine zr ?_; refine zf ?_; exact ⟨_, rfl, 0, at0, e0, Q7D hbad, rfl, hS.sp⟩)
  · skip
    all_goals refine Q5J ?_
    all_goals (unfold R_taking_long_lc; refine Q0 ?_; refine Q1 ?_; refine zm ?_; refine zn ?_; refine Q0 ?_; refine Q1 ?_; refine zm ?_; refine zm ?_; refine zn ?_; refine Q0 ?_; refine Q0 ?_; refine Q1 ?_; refine zm ?_; refine zn ?_; refine Q8 ?_)
    refine zo [0] (fun A ρ' w' => ∃ (i u : Nat), Has ρ' A ∧ Has ρ' [(5, .int .i64 i), (3, .int .u64 (u : Int)), (4, .int .u64 ((128 ^ i : Nat) : Int))] ∧ (i ≤ 9) ∧ (u < 128 ^ i) ∧ (at0 + i ≤ bs.length) ∧ (rdU bs.length 10 (bs.drop at0) = rmap u (128 ^ i) (rdU bs.length (10 - i) (bs.drop (at0 + i)))) ∧ St cx w' (tkb rb (.slice va bs.length vn) (at0 + i) (0, 0) :: L)) (fun ρ' _ => (10 - iv (ρ' 5)).toNat) ?_ ?_
    · exact ⟨0, 0, zh, zh, by omega, by simp, by omega, by rw [Nat.pow_zero, rmap_0]; rfl, hS.sp⟩
    rintro ρ w1 ⟨i, u, hA, hρ, hi, hu, hat, hd, hS⟩; obtain ⟨ρ, rfl⟩ := env2 hA hρ
    unfold Q3K
    all_goals (refine Q0 ?_; refine Q0 ?_; refine Q1 ?_; refine zm ?_; refine zR1 (c := Q5E hS) (h := ?_); rintro v1 w1 ⟨rfl, hS⟩; refine zn ?_)
    all_goals refine Q3 rfl ?_
    all_goals (refine zsk ?_; refine Q0 ?_; refine Q8 ?_; refine Q0 ?_; refine Q0 ?_; refine zD [(0, none), (1, none), (2, none), (3, none), (4, none), (5, none), (6, none), (7, none), (8, none), (9, some none)] ?_; have hS := hS.drew; refine zm ?_; refine Qv rfl ?_; refine Q2 rfl ?_; refine zl hS ?_; refine zm ?_; refine Qv rfl ?_; refine Q2 rfl ?_; refine zl hS ?_; refine zL ?_)
    all_goals (first | (refine QdO ?_) | (refine QdP ?_) | (refine Q3G rfl rfl (fun hc => ?_) (fun hc => ?_)))
    all_goals (refine zn ?_)
    all_goals
      first
      | (refine Q3 rfl ?_ -- Q1p c1
         all_goals (refine Q0 ?_; refine Q1 ?_; refine zm ?_; refine zm ?_; refine Qv rfl ?_; refine Q2 rfl ?_; refine zl hS ?_; refine zL ?_; refine zR3 (c := Qad hS) (h := ?_); rintro v1 w1 ⟨rfl, hS⟩; rw [if_pos rfl] at hS; refine zn ?_; refine zex ?_; refine Q0 ?_; refine Q1 ?_; refine zm ?_; refine zn ?_; refine zr ?_; refine zf ?_)
         all_goals ((first | exact ⟨_, rfl, _, at0 + i + 1, (0, 0), Q4t (Q3T hl) (by omega) (by omega), (by rw [Q8Y hlt2.1, if_pos (by omega)]; congr 1; omega), hS.sp⟩ | exact ⟨_, rfl, _, at0 + i + 1, (0, 0), Q4t (Q3T hl) (by omega) (by omega), (by rw [Q8Y hlt2.1, if_neg (by omega)]), hS.sp⟩ | exact ⟨_, rfl, 0, at0 + i, (5, bs.length), Q4k ha (Q7G (Qmy hd hi (by omega))) (by show (5 : Int) ≠ 0; decide), rfl, hS.sp⟩)))
      | (refine Q4 rfl ?_ -- Q1p c1
         all_goals (refine zsk ?_; refine Q0 ?_; refine zD [(0, none), (1, none), (2, none), (3, none), (4, none), (5, none), (6, none), (7, none), (8, none), (9, none), (10, none), (11, some none)] ?_; have hS := hS.drew; refine zm ?_; refine Qv rfl ?_; refine Q2 rfl ?_; refine zl hS ?_; refine zm ?_; refine Qv rfl ?_; refine Q2 rfl ?_; refine zl hS ?_; refine zi ?_; intro b1 o1 cs1 x1 hat1 hx1 he1; (first | (obtain rfl := Q25 he1) | (obtain rfl := Q35 he1)); (first | (refine zl hS ?_) | (refine zlk hS ?_)); refine Q28 rfl ?_; have hxl := x1.toNat_lt; rw [Q1X (n := x1.toNat) (by omega)]; refine zm ?_; refine zn ?_)
         refine zML hS [0, 3, 4, 5, 6] (fun A LL ρ' w' => Has ρ' A ∧ Has ρ' [] ∧ (¬ ((i = 9 ∧ 1 < x1.toNat) ∨ (0 < i ∧ x1.toNat = 0))) ∧ St cx w' (LL)) ?_ ?_
         · skip
           all_goals (refine Q0 ?_; refine Q1 ?_; refine zm ?_)
           all_goals (first | (refine Qy ?_) | (refine QC ?_) | (refine Qn rfl rfl (fun hc => ?_) (fun hc => ?_)))
           all_goals (refine zm ?_; (first | refine s_gn rfl rfl ?_ | (refine s_gy rfl ?_; refine zm ?_)))
           all_goals (first | refine s_gn rfl rfl ?_ | (refine s_gy rfl ?_; (first | (refine QK ?_) | (refine QM ?_) | (refine Qi rfl rfl (fun hc => ?_) (fun hc => ?_)))))
           all_goals ((first | (refine zpt ?_) | (refine zpf ?_)); refine zm ?_; (first | refine s_gn rfl rfl ?_ | (refine s_gy rfl ?_; refine zm ?_)))
           all_goals (first | refine s_gn rfl rfl ?_ | (refine s_gy rfl ?_; (first | (refine QK ?_) | (refine QM ?_) | (refine Qi rfl rfl (fun hc => ?_) (fun hc => ?_)))))
           all_goals ((first | refine s_gn rfl rfl ?_ | (refine s_gy rfl ?_; refine zm ?_)); (first | refine s_gn rfl rfl ?_ | (refine s_gy rfl ?_; refine zm ?_)))
           all_goals (first | refine s_gn rfl rfl ?_ | (refine s_gy rfl ?_; (first | (refine Qy ?_) | (refine QC ?_) | (refine Qn rfl rfl (fun hc => ?_) (fun hc => ?_)))))
           all_goals ((first | refine s_gn rfl rfl ?_ | (refine s_gy rfl ?_; (first | (refine zpt ?_) | (refine zpf ?_)))); (first | (refine zpt ?_) | (refine zpf ?_)); refine zn ?_)
           all_goals
             first
             | (refine Q4 rfl ?_ -- Q1p c2
                all_goals (refine zsk ?_)
                all_goals (exact ⟨zh, zh, by omega, hS.sp⟩))
             | (refine Q3 rfl ?_ -- Q1p c2
                all_goals (refine Q0 ?_; refine Q1 ?_; refine zm ?_; refine zm ?_; refine Qv rfl ?_; refine Q2 rfl ?_; refine zl hS ?_; refine zR3 (c := Qad hS) (h := ?_); rintro v1 w1 ⟨rfl, hS⟩; rw [if_pos rfl] at hS; refine zn ?_; refine zex ?_; refine Q0 ?_; refine Q1 ?_; refine zm ?_; refine zn ?_; refine zr ?_; refine zf ?_)
                all_goals ((first | exact ⟨_, rfl, _, at0 + i + 1, (0, 0), Q4t (Q3T hl) (by omega) (by omega), (by rw [Q8Y hlt2.1, if_pos (by omega)]; congr 1; omega), hS.sp⟩ | exact ⟨_, rfl, _, at0 + i + 1, (0, 0), Q4t (Q3T hl) (by omega) (by omega), (by rw [Q8Y hlt2.1, if_neg (by omega)]), hS.sp⟩ | exact ⟨_, rfl, 0, at0 + i, (5, bs.length), Q4k ha (Q7G (Qmy hd hi (by omega))) (by show (5 : Int) ≠ 0; decide), rfl, hS.sp⟩ | exact ⟨_, rfl, 0, at0 + i, (1, (at0 + i : Nat)), Q4k ha (Q7G (QuT hd hi hx1 (by omega))) (by show (1 : Int) ≠ 0; decide), rfl, hS.sp⟩)))
         rintro ρ w1 ⟨hA, hρ, hok, hS⟩; obtain ⟨ρ, rfl⟩ := env2 hA hρ
         all_goals (refine Q0 ?_; refine Q1 ?_; refine zm ?_; refine Qv rfl ?_; refine Q2 rfl ?_; refine zl hS ?_; refine zad ?_; refine Qv rfl ?_; refine Q2 rfl ?_; refine zst hS ?_; intro w1 hS; have hS := hS.ns; refine zn ?_; refine Q0 ?_; refine Q1 ?_; refine zm ?_; refine zm ?_; refine s_rem rfl rfl (by decide) ?_; rw [rem128 (by omega)]; refine zm ?_; refine QsW rfl rfl ?_; rw [tk_mul hi (by omega) (by omega)]; refine QuE rfl rfl ?_; have hlt2 := QvF hu hi (y := x1.toNat % 128) (by omega) (by omega); rw [show ((u : Int) + ((x1.toNat % 128 * 128 ^ i : Nat) : Int)) = ((u + x1.toNat % 128 * 128 ^ i : Nat) : Int) from rfl, Q1X hlt2.1]; refine zm ?_; refine zn ?_; refine Q0 ?_; refine Q1 ?_; refine zm ?_)
         all_goals (refine QsW rfl rfl ?_; rcases Nat.lt_or_ge i 9 with h9 | h9; rw [tk_unit h9])
         all_goals (refine zm ?_; refine zn ?_; refine Q0 ?_; refine Q1 ?_; refine zm ?_)
         all_goals (first | (refine Q1Q ?_) | (refine Q1R ?_) | (refine QD rfl rfl (fun hc => ?_) (fun hc => ?_)))
         all_goals (refine zn ?_)
         all_goals
           first
           | (refine Q4 rfl ?_ -- Q1p c3
              all_goals refine zsk ?_)
           | (refine Q3 rfl ?_ -- Q1p c3
              all_goals (refine Q0 ?_; refine Q0 ?_)
              all_goals (rcases (⟨_, rfl⟩ : ∃ U, u + x1.toNat % 128 * 128 ^ i = U) with ⟨U, hU⟩; have hl := Qt1 hd hi hx1 hok (by omega); rw [hU] at hl hlt2; rw [hU])
              all_goals (refine Q1 ?_; refine zm ?_; refine s_rem rfl rfl (by decide) ?_; rw [rem2])
              all_goals (first | (refine Qy ?_) | (refine QC ?_) | (refine Qn rfl rfl (fun hc => ?_) (fun hc => ?_)))
              all_goals (refine zn ?_)
              all_goals
                first
                | (refine Q3 rfl ?_ -- Q1p c4
                   all_goals (refine Q0 ?_; refine Q1 ?_; refine zm ?_; refine s_quo rfl rfl (by decide) ?_; rw [quo2 hlt2.1]; refine Q7E rfl (by omega) (by omega) ?_; refine Qux rfl ?_; rw [Q4h (by omega) (by omega)]; refine zsu ?_; refine zm ?_; refine zn ?_; refine zr ?_; refine zf ?_)
                   all_goals (exact ⟨_, rfl, _, at0 + i + 1, (0, 0), Q4t (Q3T hl) (by omega) (by omega), (by rw [Q8Y hlt2.1, if_pos (by omega)]; congr 1; omega), hS.sp⟩))
                | (refine Q4 rfl ?_ -- Q1p c4
                   all_goals refine zsk ?_)
              all_goals (refine Q0 ?_; refine Q1 ?_; refine zm ?_; refine s_quo rfl rfl (by decide) ?_; rw [quo2 hlt2.1]; refine Q7E rfl (by omega) (by omega) ?_; refine zm ?_; refine zn ?_; refine zr ?_; refine zf ?_)
              all_goals ((first | exact ⟨_, rfl, _, at0 + i + 1, (0, 0), Q4t (Q3T hl) (by omega) (by omega), (by rw [Q8Y hlt2.1, if_pos (by omega)]; congr 1; omega), hS.sp⟩ | exact ⟨_, rfl, _, at0 + i + 1, (0, 0), Q4t (Q3T hl) (by omega) (by omega), (by rw [Q8Y hlt2.1, if_neg (by omega)]), hS.sp⟩)))
         all_goals (refine Q1 ?_; refine zm ?_; refine zad ?_; refine zm ?_; refine zn ?_)
         all_goals (exact ⟨⟨i + 1, u + x1.toNat % 128 * 128 ^ i, zh, zh, by omega, hlt2.2, by omega, Qt0 hd hi hx1 hok (by omega), hS.sp⟩, Qh (by omega)⟩))
end Go.Proofs.YtanlkfeogoganaaGreat
