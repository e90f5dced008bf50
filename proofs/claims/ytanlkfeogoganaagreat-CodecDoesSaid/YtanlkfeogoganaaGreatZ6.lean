/- Lemmas of the proof, part 6: what the functions of the program do (contracts), and what follows. -/
import Derived.Test.YtanlkfeogoganaaGreatZ2
import Derived.Test.YtanlkfeogoganaaGreatZ5
import Derived.Test.YtanlkfeogoganaaGreatZ4
import Derived.Test.YtanlkfeogoganaaGreatZ3
namespace Go.Proofs.YtanlkfeogoganaaGreat
open Go.Lir
set_option maxHeartbeats 1000000
attribute [local irreducible] LC.wp Q5 QN Q11 retQ Q1T LO.wp Qr Calls
set_option linter.unusedSimpArgs false
set_option linter.unusedVariables false
attribute [local irreducible] bitI IntKind.wrap Q3n rdLong rdMany Q14 mmap Q3U Q3B Module.fault Lir.decode sumB
variable {cx : Cx} {w : World} {L : List Res}
theorem Qth {bs : List UInt8} {v : Value} (hv : u8R.sl cx v bs) (hS : St cx w L) : Rets Tryz.prog Q1P [v] w fun u w' =>
    (∃ e, Lir.decode bs = .error e ∧ u = .tuple #[.agg ⟨[vn]⟩, fltV e] ∧ St cx w' L) ∨ (∃ m c' vf, Lir.decode bs = .ok m ∧ u = .tuple #[.agg ⟨[vf]⟩, fltV (0, 0)] ∧ cx.Le c' ∧ modR.at c' [vf] m ∧ St c' w' L) := by
  have hle := St.refl hS
  have hvl := hv.len
  have ho := Rep.SR.oneC hv
  all_goals refine Qha ?_
  all_goals (unfold codec_Decode_ld; refine d_seq ?_; refine d_pl ?_; refine Q1 ?_; refine Qb hS ?_; intro p2 w1 hS; refine Qb hS ?_; intro p3 w1 hS; refine zn ?_; refine d_seq ?_; refine d_sp ?_; refine Quy ?_; refine zn ?_; refine ⟨_, _, rfl, ?_⟩; refine zn ?_; refine d_pl ?_; refine Q0 ?_; refine Q1 ?_; refine zm ?_; refine zL ?_; refine zsu ?_; refine zm ?_; refine zn ?_; refine Q0 ?_; refine Q0 ?_; refine Q1 ?_; refine zm ?_)
  all_goals (first | (refine Q1Q ?_) | (refine Q1R ?_) | (refine QD rfl rfl (fun hc => ?_) (fun hc => ?_)))
  all_goals (refine zn ?_)
  all_goals
    first
    | (refine Q4 rfl ?_ -- Q1P c0
       all_goals refine zsk ?_)
    | (refine Q3 rfl ?_ -- Q1P c0
       all_goals (refine Q0 ?_; refine Q1 ?_; refine zv hS ?_; refine zm ?_; refine zL ?_; refine zb2 [_, _] ?_; refine zsn hS ?_; intro w1 hS; have hS := hS.ns; refine zsn hS ?_; intro w1 hS; have hS := hS.ns; refine zn ?_; refine zr ?_)
       all_goals (refine Qgs ?_; refine Q3y (by intro h; cases h) (by kernel_rfl) (Q49 hS.sp) ?_; rintro u1 w1 ⟨rfl, hS⟩; refine Q33 ?_)
       all_goals (refine Q2L vw (Q9 (n := 1) (by kernel_rfl) (by kernel_rfl) (hS.blkAt fd) (by rfl) (by rfl)) vw (Q9 (n := 2) (by kernel_rfl) (by kernel_rfl) (hS.blkAt fd) (by rfl) (by rfl)) ?_)
       all_goals (exact ⟨_, rfl, .inl ⟨_, Q1N (by omega), rfl, hS.sp⟩⟩))
  all_goals (refine Q0 ?_; refine Q0 ?_; obtain ⟨N, hN⟩ : ∃ N, bs.length = N + 4 := ⟨bs.length - 4, by omega⟩; rw [show ((bs.length : Int) - 4) = (N : Int) by omega]; refine Q1 ?_; refine zm ?_; refine zL ?_)
  all_goals (first | (refine QK ?_) | (refine QM ?_) | (refine Qi rfl rfl (fun hc => ?_) (fun hc => ?_)))
  all_goals (refine zn ?_)
  all_goals
    first
    | (refine Q4 rfl ?_ -- Q1P c1
       all_goals refine zsk ?_)
    | (refine Q3 rfl ?_ -- Q1P c1
       all_goals (refine Q0 ?_; refine Q1 ?_; refine zv hS ?_; refine zb2 [_, _] ?_; refine zsn hS ?_; intro w1 hS; have hS := hS.ns; refine zsn hS ?_; intro w1 hS; have hS := hS.ns; refine zn ?_; refine zr ?_)
       all_goals (refine Qgs ?_; refine Q3y (by intro h; cases h) (by kernel_rfl) (Q49 hS.sp) ?_; rintro u1 w1 ⟨rfl, hS⟩; refine Q33 ?_)
       all_goals (refine Q2L vw (Q9 (n := 1) (by kernel_rfl) (by kernel_rfl) (hS.blkAt fd) (by rfl) (by rfl)) vw (Q9 (n := 2) (by kernel_rfl) (by kernel_rfl) (hS.blkAt fd) (by rfl) (by rfl)) ?_)
       all_goals ((first | exact ⟨_, rfl, .inl ⟨_, Q1N (by omega), rfl, hS.sp⟩⟩ | exact ⟨_, rfl, .inl ⟨_, Q2y (by omega) (by omega), rfl, hS.sp⟩⟩)))
  all_goals (refine Q0 ?_; refine Q0 ?_; refine Q1 ?_; refine zm ?_; refine QpB vw hv rfl rfl (h' := 3) ⟨_, rfl⟩ rfl (by omega) (by omega) ?_; intro v4 hs4; rw [List.drop_zero] at hs4; refine Qmw (e := 5) (by kernel_rfl) (by kernel_rfl) (by kernel_rfl) hS rfl hs4 ?_; refine s_sneql rfl (b := [67, 72, 1]) rfl ?_; refine zn ?_)
  refine Qm rfl (fun hc => ?_) (fun hc => ?_)
  · skip
    all_goals (refine Q0 ?_; have hh := hc; refine Q1 ?_; refine zv hS ?_; refine zb2 [_, _] ?_; refine zsn hS ?_; intro w1 hS; have hS := hS.ns; refine zsn hS ?_; intro w1 hS; have hS := hS.ns; refine zn ?_; refine zr ?_)
    all_goals (refine Qgs ?_; refine Q3y (by intro h; cases h) (by kernel_rfl) (Q49 hS.sp) ?_; rintro u1 w1 ⟨rfl, hS⟩; refine Q33 ?_)
    all_goals (refine Q2L vw (Q9 (n := 1) (by kernel_rfl) (by kernel_rfl) (hS.blkAt fd) (by rfl) (by rfl)) vw (Q9 (n := 2) (by kernel_rfl) (by kernel_rfl) (hS.blkAt fd) (by rfl) (by rfl)) ?_; (first | exact ⟨_, rfl, .inl ⟨_, Q1N (by omega), rfl, hS.sp⟩⟩ | exact ⟨_, rfl, .inl ⟨_, Q2y (by omega) (by omega), rfl, hS.sp⟩⟩ | exact ⟨_, rfl, .inl ⟨_, Q3c (by omega) (by omega) hh, rfl, hS.sp⟩⟩))
  · skip
    all_goals (refine zsk ?_; refine Q0 ?_; have hh := hc; refine zD [(0, none), (1, none), (2, none), (3, none), (4, none), (5, none), (6, none), (7, none), (8, none), (9, none), (10, none), (11, none), (12, none), (13, none), (14, none), (15, none), (16, none), (17, none), (18, none), (19, none), (20, none), (21, none), (22, none), (23, none), (24, none), (25, none), (26, none), (27, none), (28, none), (29, some none)] ?_; have hS := hS.drew; refine zm ?_; refine zm ?_; refine zi ?_; intro b1 o1 cs1 x1 hat1 hx1 he1; (first | (obtain rfl := Q25 he1) | (obtain rfl := Q35 he1)); (first | (refine zl hS ?_) | (refine zlk hS ?_)); refine Q28 rfl ?_; rw [QsT]; have hb1 := x1.toNat_lt; refine zm ?_; refine zm ?_; refine zad ?_; refine zi ?_; intro b2 o2 cs2 x2 hat2 hx2 he2; (first | (obtain rfl := Q25 he2) | (obtain rfl := Q35 he2)); (first | (refine zl hS ?_) | (refine zlk hS ?_)); refine Q28 rfl ?_; rw [QsT]; have hb2 := x2.toNat_lt; refine Quv rfl rfl (by decide) ?_; refine s_or rfl rfl ?_; rw [QmB (z := 8) (k := 8) rfl (by decide) (by omega) (by omega)]; refine zm ?_; refine zm ?_; refine zad ?_; refine zi ?_; intro b3 o3 cs3 x3 hat3 hx3 he3; (first | (obtain rfl := Q25 he3) | (obtain rfl := Q35 he3)); (first | (refine zl hS ?_) | (refine zlk hS ?_)))
    all_goals (refine Q28 rfl ?_; rw [QsT]; have hb3 := x3.toNat_lt; refine Quv rfl rfl (by decide) ?_; refine s_or rfl rfl ?_; rw [QmB (z := 16) (k := 16) rfl (by decide) (by omega) (by omega)]; refine zm ?_; refine zm ?_; refine zad ?_; refine zi ?_; intro b4 o4 cs4 x4 hat4 hx4 he4; (first | (obtain rfl := Q25 he4) | (obtain rfl := Q35 he4)); (first | (refine zl hS ?_) | (refine zlk hS ?_)); refine Q28 rfl ?_; rw [QsT]; have hb4 := x4.toNat_lt; refine Quv rfl rfl (by decide) ?_; refine s_or rfl rfl ?_; rw [QmB (z := 24) (k := 24) rfl (by decide) (by omega) (by omega)]; refine zm ?_; refine zn ?_; refine Q0 ?_; refine Q0 ?_; refine Q1 ?_; refine zm ?_; refine zm ?_; refine QpB vw hv rfl rfl (h' := N) ⟨_, rfl⟩ rfl (by omega) (by omega) ?_; intro v5 hs5; rw [List.drop_zero] at hs5; refine zR1 (c := sum_c hs5 hS) (h := ?_); rintro v1 w1 ⟨rfl, hS⟩; refine zm ?_; refine Q6n rfl rfl ?_; refine zn ?_)
    refine Qm rfl (fun hc => ?_) (fun hc => ?_)
    · skip
      all_goals (refine Q0 ?_; have hs : sumB (Q3B (bs.take N)) ≠ bs.drop N := (by rw [drop4 hN hx1 hx2 hx3 hx4]; intro h0; have h1 := sumB_eq.1 h0; omega); refine Q1 ?_; refine zv hS ?_; refine zm ?_; refine zb2 [_, _] ?_; refine zsn hS ?_; intro w1 hS; have hS := hS.ns; refine zsn hS ?_; intro w1 hS; have hS := hS.ns; refine zn ?_; refine zr ?_)
      all_goals (refine Qgs ?_; refine Q3y (by intro h; cases h) (by kernel_rfl) (Q49 hS.sp) ?_; rintro u1 w1 ⟨rfl, hS⟩; refine Q33 ?_)
      all_goals (refine Q2L vw (Q9 (n := 1) (by kernel_rfl) (by kernel_rfl) (hS.blkAt fd) (by rfl) (by rfl)) vw (Q9 (n := 2) (by kernel_rfl) (by kernel_rfl) (hS.blkAt fd) (by rfl) (by rfl)) ?_; (first | exact ⟨_, rfl, .inl ⟨_, Q1N (by omega), rfl, hS.sp⟩⟩ | exact ⟨_, rfl, .inl ⟨_, Q2y (by omega) (by omega), rfl, hS.sp⟩⟩ | exact ⟨_, rfl, .inl ⟨_, Q3c (by omega) (by omega) hh, rfl, hS.sp⟩⟩ | exact ⟨_, rfl, .inl ⟨_, Q5d hN (by omega) (by omega) hh hs, rfl, hS.sp⟩⟩))
    · skip
      all_goals (refine zsk ?_; refine Q0 ?_; have hs : ¬ sumB (Q3B (bs.take N)) ≠ bs.drop N := (by rw [drop4 hN hx1 hx2 hx3 hx4]; intro h0; exact h0 (sumB_eq.2 (by omega))); have hl6 : (bs.take N).length = N := (by simp [hN]); refine Q1 ?_; refine zm ?_; refine zm ?_; refine QpB vw hv rfl rfl (h' := N) ⟨_, rfl⟩ rfl (by omega) (by omega) ?_; intro v6 hs6; rw [List.drop_zero] at hs6; obtain ⟨a6, n6, rfl⟩ := Rep.SR.shape hs6; refine zb2 [_, _] ?_; refine zb hS ?_; intro p71 w1 hS; refine zm ?_; refine zn ?_; refine Q0 ?_; refine Q1 ?_; refine zm ?_; refine zm ?_; refine s_mkb (u := [.pointer (some ⟨p71, 0, none⟩)]) rfl ?_)
      all_goals (have hS : St cx _ (blk p71 102 [.slice a6 (bs.take N).length n6, .int .i64 ((3 : Nat) : Int)] :: blk p2 24 [vn] :: blk p3 30 [vi 0, vi 0] :: L) := hS.sp; refine Q2k rfl (QpJ (cx := cx) ⟨[_], [], rfl, rfl⟩ (by kernel_rfl) (by omega) (QuQ (by omega) hs6) hs6 (by omega) hS) (by rintro v9 w9 ⟨e, at2, e2, rfl, hS⟩; rw [hl6] at e2; (repeat (first | refine Q12 ?_ | refine Q13 ?_ | refine fun _ => ?_)); refine q_panD ?_; refine Q3y (by intro h; cases h) (by kernel_rfl) (Qvt hS.sp) ?_; rintro u' w' ⟨rfl, hS⟩; refine Q33 ?_; refine Q2L vw (Q9 (n := 1) (by kernel_rfl) (by kernel_rfl) (hS.blkAt fd) (by rfl) (by rfl)) vw (Q9 (n := 2) (by kernel_rfl) (by kernel_rfl) (hS.blkAt fd) (by rfl) (by rfl)) ?_; exact ⟨_, rfl, .inl ⟨e, Qvu hN (by omega) (by omega) hh hs e2, rfl, hS.sp⟩⟩) ?_; rintro v7 w7 ⟨l, at1, c1, e1, h4, h5, hle1, hl1, hS⟩; rw [hl6] at e1; have ho7 := Rep.SR.oneC hl1; have hm := QdH (by omega) e1; have hx' : modR.at c1 [v7] ⟨l⟩ := ⟨_, rfl, hl1⟩)
      all_goals (refine Q2 rfl ?_; refine zst hS ?_; intro w1 hS; have hS := hS.ns; refine zn ?_; refine Q0 ?_; refine Q0 ?_; refine Q1 ?_; refine zm ?_; refine Qv rfl ?_; refine Q2 rfl ?_; refine zl hS ?_; refine zm ?_)
      all_goals (first | (refine Q1Q ?_) | (refine Q1R ?_) | (refine QD rfl rfl (fun hc => ?_) (fun hc => ?_)))
      all_goals (refine zn ?_)
      all_goals
        first
        | (refine Q3 rfl ?_ -- Q1P c4
           all_goals (refine Q0 ?_; refine zC [(0, none), (1, none), (2, none), (3, none), (4, none), (5, none), (6, some (some [4])), (7, some none)] ?_; have hS := hS.drew; refine s_cq ?_; refine zb0 [_] ?_; refine zt ?_; refine s_cq ?_; refine zm ?_; refine zt ?_; refine s_cq ?_; refine Qv rfl ?_; refine zt ?_; refine s_cq ?_; refine Q2 rfl ?_; refine zt ?_; refine s_cq ?_; refine zl hS ?_; refine zt ?_; refine s_cq ?_; refine zb2 [_, _] ?_; refine zt ?_; refine Ql ?_; refine zsn hS ?_; intro w1 hS; have hS := hS.ns; refine zt ?_; refine zy ?_; refine s_cf ?_; refine zsn hS ?_; intro w1 hS; have hS := hS.ns; refine zt ?_; refine zcn ?_; refine zr ?_)
           all_goals (refine Qgs ?_; refine Q3y (by intro h; cases h) (by kernel_rfl) (Q49 hS.sp) ?_; rintro u1 w1 ⟨rfl, hS⟩; refine Q33 ?_)
           all_goals (refine Q2L vw (Q9 (n := 1) (by kernel_rfl) (by kernel_rfl) (hS.blkAt fd) (by rfl) (by rfl)) vw (Q9 (n := 2) (by kernel_rfl) (by kernel_rfl) (hS.blkAt fd) (by rfl) (by rfl)) ?_)
           all_goals ((first | exact ⟨_, rfl, .inl ⟨_, Q1N (by omega), rfl, hS.sp⟩⟩ | exact ⟨_, rfl, .inl ⟨_, Q2y (by omega) (by omega), rfl, hS.sp⟩⟩ | exact ⟨_, rfl, .inl ⟨_, Q3c (by omega) (by omega) hh, rfl, hS.sp⟩⟩ | exact ⟨_, rfl, .inl ⟨_, Q5d hN (by omega) (by omega) hh hs, rfl, hS.sp⟩⟩ | exact ⟨_, rfl, .inl ⟨_, Q4P hN (by omega) (by omega) hh hs e1 (by omega), rfl, St.weak hS.sp hle1⟩⟩)))
        | (refine Q4 rfl ?_ -- Q1P c4
           all_goals refine zsk ?_)
      all_goals (refine Q0 ?_; refine Q0 ?_; refine Q1 ?_; refine zv hS ?_; refine zR1 (c := Qt5 hm hx' hS) (h := ?_); rintro v1 w1 ⟨rfl, hS⟩; unfold fltV; refine Qb hS ?_; intro p7 w1 hS; refine zsn hS ?_; intro w1 hS; have hS := hS.ns; refine zn ?_; refine Q0 ?_; refine Q1 ?_; refine Q2 rfl ?_; refine zl hS ?_)
      all_goals (first | (refine Q1c ?_) | (refine Q1d ?_) | (refine Qp rfl rfl (fun hc => ?_) (fun hc => ?_)))
      all_goals (refine zn ?_)
      all_goals
        first
        | (refine Q3 rfl ?_ -- Q1P c5
           all_goals (refine Q0 ?_; refine Q1 ?_; refine zb0 [_] ?_; refine zm ?_; refine zb2 [_, _] ?_; refine zsn hS ?_; intro w1 hS; have hS := hS.ns; refine zsn hS ?_; intro w1 hS; have hS := hS.ns; refine zn ?_; refine zr ?_)
           all_goals (refine Qgs ?_; refine Q3y (by intro h; cases h) (by kernel_rfl) (Q49 hS.sp) ?_; rintro u1 w1 ⟨rfl, hS⟩; refine Q33 ?_)
           all_goals (refine Q2L vw (Q9 (n := 1) (by kernel_rfl) (by kernel_rfl) (hS.blkAt fd) (by rfl) (by rfl)) vw (Q9 (n := 2) (by kernel_rfl) (by kernel_rfl) (hS.blkAt fd) (by rfl) (by rfl)) ?_)
           all_goals ((first | exact ⟨_, rfl, .inl ⟨_, Q1N (by omega), rfl, hS.sp⟩⟩ | exact ⟨_, rfl, .inl ⟨_, Q2y (by omega) (by omega), rfl, hS.sp⟩⟩ | exact ⟨_, rfl, .inl ⟨_, Q3c (by omega) (by omega) hh, rfl, hS.sp⟩⟩ | exact ⟨_, rfl, .inl ⟨_, Q5d hN (by omega) (by omega) hh hs, rfl, hS.sp⟩⟩ | exact ⟨_, rfl, .inl ⟨_, Q4P hN (by omega) (by omega) hh hs e1 (by omega), rfl, St.weak hS.sp hle1⟩⟩ | exact ⟨_, rfl, .inl ⟨_, Qax hN (by omega) (by omega) hh hs e1 (Q7O hN (by omega)) (by omega), rfl, St.weak hS.sp hle1⟩⟩)))
        | (refine Q4 rfl ?_ -- Q1P c5
           all_goals refine zsk ?_)
      all_goals (refine Q0 ?_; refine Q1 ?_; refine zv hS ?_; refine zb0 [_, _] ?_; refine zsn hS ?_; intro w1 hS; have hS := hS.ns; refine zsn hS ?_; intro w1 hS; have hS := hS.ns; refine zn ?_; refine zr ?_)
      all_goals (refine Qgs ?_; refine Q3y (by intro h; cases h) (by kernel_rfl) (Q49 hS.sp) ?_; rintro u1 w1 ⟨rfl, hS⟩; refine Q33 ?_)
      all_goals (refine Q2L vw (Q9 (n := 1) (by kernel_rfl) (by kernel_rfl) (hS.blkAt fd) (by rfl) (by rfl)) vw (Q9 (n := 2) (by kernel_rfl) (by kernel_rfl) (hS.blkAt fd) (by rfl) (by rfl)) ?_; (first | exact ⟨_, rfl, .inl ⟨_, Q1N (by omega), rfl, hS.sp⟩⟩ | exact ⟨_, rfl, .inl ⟨_, Q2y (by omega) (by omega), rfl, hS.sp⟩⟩ | exact ⟨_, rfl, .inl ⟨_, Q3c (by omega) (by omega) hh, rfl, hS.sp⟩⟩ | exact ⟨_, rfl, .inl ⟨_, Q5d hN (by omega) (by omega) hh hs, rfl, hS.sp⟩⟩ | exact ⟨_, rfl, .inl ⟨_, Q4P hN (by omega) (by omega) hh hs e1 (by omega), rfl, St.weak hS.sp hle1⟩⟩ | exact ⟨_, rfl, .inl ⟨_, Qax hN (by omega) (by omega) hh hs e1 (Q7O hN (by omega)) (by omega), rfl, St.weak hS.sp hle1⟩⟩ | exact ⟨_, rfl, .inr ⟨_, c1, v7, dec_ok hN (by omega) (by omega) hh hs e1 (Q7O hN (by omega)) (by omega), rfl, hle1, hx', hS.sp⟩⟩))
end Go.Proofs.YtanlkfeogoganaaGreat
namespace Go.Proofs.YtanlkfeogoganaaGreat
open Go.Lir
set_option maxHeartbeats 1000000
attribute [local irreducible] LC.wp Q5 QN Q11 retQ Q1T LO.wp Qr Calls
set_option linter.unusedSimpArgs false
set_option linter.unusedVariables false
attribute [local irreducible] bitI IntKind.wrap zig leb Qo Qc Q24 To.bts
variable {cx : Cx} {w : World} {L : List Res}
theorem wins_c {x : Ins} {wb : Nat} {v : Value} {cs : List Value} {bs : List UInt8} (hv : oneC v = true) (hx : insR.at cx cs x) (hb : bs.length + x.bts.length ≤ 60000000000000)
    (hS : St cx w (blk wb 85 [v] :: sl 5 1 v (bs.map QB) :: L)) :
    Rets Tryz.prog Q15 [.pointer (some ⟨wb, 0, none⟩), .agg ⟨cs⟩] w fun u w' => ∃ v', u = .tuple #[] ∧ oneC v' = true ∧ St cx w' (blk wb 85 [v'] :: sl 5 1 v' ((bs ++ x.bts).map QB) :: L) := by
  obtain ⟨vr, va, rfl, hr, ha⟩ := Q22 hx
  obtain ⟨ar, lr, rfl⟩ := Rep.SR.shape hr
  obtain ⟨aa, la, rfl⟩ := Rep.SR.shape ha
  unfold Ins.bts at hb ⊢
  obtain ⟨h, hh⟩ : ∃ h, Qo x.op = h := ⟨_, rfl⟩
  have hlt := Qm5 x.op
  rw [hh] at hb hlt ⊢
  simp only [List.length_append] at hb
  rw [← List.append_assoc, ← List.append_assoc, ← List.append_assoc, ← List.append_assoc]
  have h4 : ([x.a, x.b, x.c, x.k] : List Int).length = 4 := rfl
  all_goals refine Q9j ?_
  all_goals (unfold codec_writer_ins_lc; refine Q0 ?_; refine Q1 ?_; refine zb hS ?_; intro p3 w1 hS; refine zn ?_; refine Q0 ?_; refine Q1 ?_; refine Q2 rfl ?_; refine zl hS ?_; refine zR1 (c := Qpv hS) (h := ?_); rintro v1 w1 ⟨rfl, hS⟩; rw [hh]; refine zm ?_; refine zn ?_; refine Q0 ?_; refine Q1 ?_; refine zm ?_; refine Q2 rfl ?_; refine zl hS ?_; refine zB1 hS [_] ?_; intro b1 w1 hS; have hS : St cx _ (blk _ 3 [.int .i64 x.op] :: blk wb 85 [v] :: sl 5 1 v (bs.map QB) :: blk p3 57 [.int .i64 x.op, .int .i64 x.a, .int .i64 x.b, .int .i64 x.c, .int .i64 x.k, .int .i64 x.n, .slice ar x.regs.length lr, .slice aa x.args.length la] :: L) := hS.sp; refine zR2 (c := Q4j (n := x.op) hv (by omega) hS) (h := ?_); rintro v1 w1 ⟨v3, rfl, hv3, hS⟩; refine zn ?_; refine Q0 ?_; refine Q0 ?_; refine Q1 ?_; refine Q2 rfl ?_; refine zl hS ?_; refine Q2 rfl ?_; refine zl hS ?_; refine Q2 rfl ?_; refine zl hS ?_; refine Q2 rfl ?_)
  all_goals (refine zl hS ?_; refine zB4 hS [_, _, _, _] ?_; intro b1 w1 hS; obtain ⟨c1, hle1, hS, hf⟩ := St.freezeL (r := intR) (es := 1) (l := [x.a, x.b, x.c, x.k]) (css := [[_], [_], [_], [_]]) (hS.slOf (es := 1) (css := [[_], [_], [_], [_]]) rfl (by simp) rfl) (((((Rep.LR.nil _ _ _).push rfl).push rfl).push rfl).push rfl) rfl (by omega); have hr := Rep.SR.up hr hle1; have ha := Rep.SR.up ha hle1; refine zL ?_; refine zm ?_; refine zn ?_; refine Q8 ?_)
  refine zo [0, 3, 4, 23, 24] (fun A ρ' w' => ∃ (j : Nat) (vb : Value) (acc : List UInt8), Has ρ' A ∧ Has ρ' [(25, .int .i64 j)] ∧ (j ≤ 4) ∧ (oneC vb = true) ∧ (acc ++ Qag h j (([x.a, x.b, x.c, x.k] : List Int).drop j) = bs ++ Qc x.op ++ Qag h 0 [x.a, x.b, x.c, x.k]) ∧ St c1 w' (blk wb 85 [vb] :: sl 5 1 vb (acc.map QB) :: blk p3 57 [.int .i64 x.op, .int .i64 x.a, .int .i64 x.b, .int .i64 x.c, .int .i64 x.k, .int .i64 x.n, .slice ar x.regs.length lr, .slice aa x.args.length la] :: L)) (fun ρ' _ => (4 - iv (ρ' 25)).toNat) ?_ ?_
  · exact ⟨0, v3, _, zh, zh, (by omega), by assumption, by rw [List.drop_zero], hS.sp⟩
  rintro ρ w1 ⟨j, vb, acc, hA, hρ, hj, hvb, hd, hS⟩; obtain ⟨ρ, rfl⟩ := env2 hA hρ
  unfold Q4b
  all_goals (refine Q0 ?_; refine Q1 ?_; refine Qt rfl rfl ?_; refine zn ?_; refine Q0 ?_)
  refine Qm rfl (fun hc => ?_) (fun hc => ?_)
  · skip
    all_goals (refine zsk ?_; refine Q0 ?_; refine Q8 ?_; refine Q0 ?_; refine Q1 ?_; refine zm ?_; refine zi ?_; intro b1 o1 cs1 x1 hat1 hx1 he1; obtain rfl := Q25 he1; (first | (refine zl hS ?_) | (refine zlk hS ?_)); refine zm ?_; refine zm ?_; refine zn ?_; have hal := congrArg List.length hd; rw [QbI hx1] at hal; simp only [List.length_append] at hal; refine Q0 ?_; refine Q1 ?_; refine zm ?_; refine zm ?_; refine Q7Q rfl rfl (by omega) ?_; refine Q8Z rfl rfl ?_; rw [bit_at hlt (by omega)]; obtain ⟨q, hq⟩ : ∃ q, h / 2 ^ j % 2 = q := ⟨_, rfl⟩; rw [hq] at hal ⊢)
    all_goals (first | (refine Qy ?_) | (refine QC ?_) | (refine Qn rfl rfl (fun hc => ?_) (fun hc => ?_)))
    all_goals (refine zn ?_)
    all_goals
      first
      | (refine Q3 rfl ?_ -- Q15 c1
         all_goals (refine Q1 ?_; refine zm ?_; refine zm ?_; refine zB1 hS [_] ?_; intro b1 w1 hS; rw [if_pos (show q = 1 by omega)] at hal; have hS : St c1 _ (blk _ 3 [.int .i64 x1] :: blk wb 85 [vb] :: sl 5 1 vb (acc.map QB) :: blk p3 57 [.int .i64 x.op, .int .i64 x.a, .int .i64 x.b, .int .i64 x.c, .int .i64 x.k, .int .i64 x.n, .slice ar x.regs.length lr, .slice aa x.args.length la] :: L) := hS.sp; refine zR2 (c := Q4j (n := x1) hvb (by omega) hS) (h := ?_); rintro v1 w1 ⟨v4, rfl, hv4, hS⟩)
         all_goals refine zn ?_)
      | (refine Q4 rfl ?_ -- Q15 c1
         all_goals refine zsk ?_)
    all_goals (refine Q1 ?_; refine zad ?_; refine zm ?_; refine zn ?_; (first | (exact ⟨⟨j + 1, v4, acc ++ Qc x1, zh, zh, (by omega), by assumption, by rw [← hd, QbI hx1, hq, if_pos (show q = 1 by omega), List.append_assoc], hS.sp⟩, Qh (by omega)⟩) | (exact ⟨⟨j + 1, vb, acc, zh, zh, (by omega), by assumption, by rw [← hd, QbI hx1, hq, if_neg (show ¬ q = 1 by omega), List.nil_append], hS.sp⟩, Qh (by omega)⟩)))
  · skip
    all_goals (refine zex ?_; rw [List.drop_of_length_le (by omega), Qag, List.append_nil] at hd; subst hd)
    refine zM [0, 3, 4] (fun A ρ' w' => ∃ (vc : Value), Has ρ' A ∧ Has ρ' [] ∧ (oneC vc = true) ∧ St c1 w' (blk wb 85 [vc] :: sl 5 1 vc ((bs ++ Qc x.op ++ Qag h 0 [x.a, x.b, x.c, x.k] ++ (if h / 64 % 2 = 1 then Qc x.n else [])).map QB) :: blk p3 57 [.int .i64 x.op, .int .i64 x.a, .int .i64 x.b, .int .i64 x.c, .int .i64 x.k, .int .i64 x.n, .slice ar x.regs.length lr, .slice aa x.args.length la] :: L)) ?_ ?_
    · skip
      all_goals (refine Q0 ?_; refine Q1 ?_; refine zm ?_; refine Q8Z rfl rfl ?_; rw [and64 hlt])
      all_goals (first | (refine Q1c ?_) | (refine Q1d ?_) | (refine Qp rfl rfl (fun hc => ?_) (fun hc => ?_)))
      all_goals (refine zn ?_)
      all_goals
        first
        | (refine Q3 rfl ?_ -- Q15 c2
           all_goals (refine Q1 ?_; refine zm ?_; refine Q2 rfl ?_; refine zl hS ?_; refine zB1 hS [_] ?_; intro b1 w1 hS; rw [if_pos (show h / 64 % 2 = 1 by omega)] at hb; have hS : St c1 _ (blk _ 2 [.int .i64 x.n] :: blk wb 85 [vb] :: sl 5 1 vb ((bs ++ Qc x.op ++ Qag h 0 [x.a, x.b, x.c, x.k]).map QB) :: blk p3 57 [.int .i64 x.op, .int .i64 x.a, .int .i64 x.b, .int .i64 x.c, .int .i64 x.k, .int .i64 x.n, .slice ar x.regs.length lr, .slice aa x.args.length la] :: L) := hS.sp; obtain ⟨c2, hle2, hS, hf9⟩ := St.freeze1 (r := intR) (x := x.n) hS rfl; refine zR2 (c := Que (l := [x.n]) hvb hf9 (by rw [Q32]; simp only [List.length_append]; omega) hS) (h := ?_); rintro v1 w1 ⟨v5, rfl, hv5, hS⟩; rw [Q32] at hS; have hS := St.weak hS hle2)
           all_goals refine zn ?_)
        | (refine Q4 rfl ?_ -- Q15 c2
           all_goals refine zsk ?_)
      all_goals ((first | (exact ⟨_, zh, zh, by assumption, by rw [if_pos (show h / 64 % 2 = 1 by omega)]; exact hS.sp⟩) | (exact ⟨_, zh, zh, by assumption, by rw [if_neg (show ¬ h / 64 % 2 = 1 by omega), List.append_nil]; exact hS.sp⟩)))
    rintro ρ w1 ⟨vc, hA, hρ, hvc, hS⟩; obtain ⟨ρ, rfl⟩ := env2 hA hρ
    refine zM [0, 3, 4] (fun A ρ' w' => ∃ (vd : Value), Has ρ' A ∧ Has ρ' [] ∧ (oneC vd = true) ∧ St c1 w' (blk wb 85 [vd] :: sl 5 1 vd ((bs ++ Qc x.op ++ Qag h 0 [x.a, x.b, x.c, x.k] ++ (if h / 64 % 2 = 1 then Qc x.n else []) ++ (if h / 16 % 2 = 1 then Q24 x.regs else [])).map QB) :: blk p3 57 [.int .i64 x.op, .int .i64 x.a, .int .i64 x.b, .int .i64 x.c, .int .i64 x.k, .int .i64 x.n, .slice ar x.regs.length lr, .slice aa x.args.length la] :: L)) ?_ ?_
    · skip
      all_goals (refine Q0 ?_; refine Q1 ?_; refine zm ?_; refine Q8Z rfl rfl ?_; rw [and16 hlt])
      all_goals (first | (refine Q1c ?_) | (refine Q1d ?_) | (refine Qp rfl rfl (fun hc => ?_) (fun hc => ?_)))
      all_goals (refine zn ?_)
      all_goals
        first
        | (refine Q3 rfl ?_ -- Q15 c3
           all_goals (refine Q1 ?_; refine zm ?_; refine Q2 rfl ?_; refine zl hS ?_; rw [if_pos (show h / 16 % 2 = 1 by omega)] at hb; refine zR2 (c := Qg1 hvc hr (by simp only [List.length_append]; omega) hS) (h := ?_); rintro v1 w1 ⟨v6, rfl, hv6, hS⟩)
           all_goals refine zn ?_)
        | (refine Q4 rfl ?_ -- Q15 c3
           all_goals refine zsk ?_)
      all_goals ((first | (exact ⟨_, zh, zh, by assumption, by rw [if_pos (show h / 16 % 2 = 1 by omega)]; exact hS.sp⟩) | (exact ⟨_, zh, zh, by assumption, by rw [if_neg (show ¬ h / 16 % 2 = 1 by omega), List.append_nil]; exact hS.sp⟩)))
    rintro ρ w1 ⟨vd, hA, hρ, hvd, hS⟩; obtain ⟨ρ, rfl⟩ := env2 hA hρ
    all_goals (refine Q0 ?_; refine Q1 ?_; refine zm ?_; refine Q8Z rfl rfl ?_; rw [and32 hlt])
    all_goals (first | (refine Q1c ?_) | (refine Q1d ?_) | (refine Qp rfl rfl (fun hc => ?_) (fun hc => ?_)))
    all_goals (refine zn ?_)
    all_goals
      first
      | (refine Q3 rfl ?_ -- Q15 c4
         all_goals (refine Q1 ?_; refine zm ?_; refine Q2 rfl ?_; refine zl hS ?_; rw [if_pos (show h / 32 % 2 = 1 by omega)] at hb; refine zR2 (c := Qg1 hvd ha (by simp only [List.length_append]; omega) hS) (h := ?_); rintro v1 w1 ⟨v7, rfl, hv7, hS⟩)
         all_goals refine zn ?_)
      | (refine Q4 rfl ?_ -- Q15 c4
         all_goals refine zsk ?_)
    all_goals (refine Q3j ?_; rcases Decidable.em (h / 32 % 2 = 1) with h9 | h9; (rw [if_pos h9]; first | (exact ⟨_, rfl, _, rfl, hv7, St.weak hS.sp hle1⟩) | (exfalso; omega)); rw [if_neg h9, List.append_nil]; first | (exact ⟨_, rfl, _, rfl, hvd, St.weak hS.sp hle1⟩) | (exfalso; omega))
theorem wend_c {x : Tail} {wb : Nat} {v : Value} {cs : List Value} {bs : List UInt8} (hv : oneC v = true) (hx : endR.at cx cs x) (hb : bs.length + x.bts.length ≤ 60000000000000)
    (hS : St cx w (blk wb 85 [v] :: sl 5 1 v (bs.map QB) :: L)) :
    Rets Tryz.prog Q1j [.pointer (some ⟨wb, 0, none⟩), .agg ⟨cs⟩] w fun u w' => ∃ v', u = .tuple #[] ∧ oneC v' = true ∧ St cx w' (blk wb 85 [v'] :: sl 5 1 v' ((bs ++ x.bts).map QB) :: L) := by
  obtain ⟨v1, v2, v3, v4, v5, rfl, h1, h2, h3, h4, h5⟩ := QfW hx
  obtain ⟨a1, n1, rfl⟩ := Rep.SR.shape h1
  obtain ⟨a2, n2, rfl⟩ := Rep.SR.shape h2
  obtain ⟨a3, n3, rfl⟩ := Rep.SR.shape h3
  obtain ⟨a4, n4, rfl⟩ := Rep.SR.shape h4
  obtain ⟨a5, n5, rfl⟩ := Rep.SR.shape h5
  have hy : toR.at cx [.int .i64 x.yes.block, .slice a1 x.yes.regs.length n1, .slice a2 x.yes.args.length n2] x.yes := ⟨_, _, rfl, h1, h2⟩
  have hn : toR.at cx [.int .i64 x.no.block, .slice a3 x.no.regs.length n3, .slice a4 x.no.args.length n4] x.no := ⟨_, _, rfl, h3, h4⟩
  unfold Tail.bts at hb ⊢
  rw [List.length_append] at hb
  rw [← List.append_assoc]
  all_goals refine Q9u ?_
  all_goals (unfold codec_writer_end_lc; refine Q0 ?_; refine Q1 ?_; refine zb hS ?_; intro p3 w1 hS; refine zn ?_; refine Q0 ?_; refine Q1 ?_; refine zm ?_; refine Q2 rfl ?_; refine zl hS ?_; refine zB1 hS [_] ?_; intro b1 w1 hS; have hS : St cx _ (blk _ 3 [.int .i64 x.op] :: blk wb 85 [v] :: sl 5 1 v (bs.map QB) :: blk p3 45 [.int .i64 x.op, .int .i64 x.a, .int .i64 x.yes.block, .slice a1 x.yes.regs.length n1, .slice a2 x.yes.args.length n2, .int .i64 x.no.block, .slice a3 x.no.regs.length n3, .slice a4 x.no.args.length n4, .slice a5 x.args.length n5] :: L) := hS.sp; refine zR2 (c := Q4j (n := x.op) hv (by omega) hS) (h := ?_); rintro v1 w1 ⟨u1, rfl, hu1, hS⟩; refine zn ?_; refine Q0 ?_; refine Q1 ?_; refine Q2 rfl ?_; refine zl hS ?_; refine zn ?_; refine Q8 ?_; refine Q0 ?_; refine Q1 ?_)
  all_goals (first | (refine Qy ?_) | (refine QC ?_) | (refine Qn rfl rfl (fun hc => ?_) (fun hc => ?_)))
  all_goals (refine zm ?_; refine zn ?_)
  all_goals
    first
    | (refine Q3 rfl ?_ -- Q1j c0
       all_goals (refine Q1 ?_; refine zm ?_; refine Q2 rfl ?_; refine zv hS ?_; rw [if_pos (show x.op = 1 by omega)] at hb; refine zR2 (c := wto_c (x := x.yes) (cs := [_, _, _]) hu1 hy (by simp only [List.length_append]; omega) hS) (h := ?_); rintro v1 w1 ⟨u2, rfl, hu2, hS⟩)
       all_goals refine zn ?_)
    | (refine Q4 rfl ?_ -- Q1j c0
       all_goals (refine Q0 ?_; refine Q1 ?_)
       all_goals (first | (refine Qy ?_) | (refine QC ?_) | (refine Qn rfl rfl (fun hc => ?_) (fun hc => ?_)))
       all_goals (refine zm ?_; refine zn ?_)
       all_goals
         first
         | (refine Q3 rfl ?_ -- Q1j c1
            all_goals (refine Q0 ?_; refine Q1 ?_; refine zm ?_; refine Q2 rfl ?_; refine zl hS ?_; refine zB1 hS [_] ?_; intro b1 w1 hS; rw [if_neg (show ¬ x.op = 1 by omega), if_pos (show x.op = 2 by omega)] at hb; simp only [List.length_append] at hb; have hS : St cx _ (blk _ 3 [.int .i64 x.a] :: blk wb 85 [u1] :: sl 5 1 u1 ((bs ++ Qc x.op).map QB) :: blk p3 45 [.int .i64 x.op, .int .i64 x.a, .int .i64 x.yes.block, .slice a1 x.yes.regs.length n1, .slice a2 x.yes.args.length n2, .int .i64 x.no.block, .slice a3 x.no.regs.length n3, .slice a4 x.no.args.length n4, .slice a5 x.args.length n5] :: L) := hS.sp; refine zR2 (c := Q4j (n := x.a) hu1 (by simp only [List.length_append]; omega) hS) (h := ?_); rintro v1 w1 ⟨u3, rfl, hu3, hS⟩; refine zn ?_; refine Q0 ?_; refine Q1 ?_; refine zm ?_; refine Q2 rfl ?_; refine zv hS ?_; refine zR2 (c := wto_c (x := x.yes) (cs := [_, _, _]) hu3 hy (by simp only [List.length_append]; omega) hS) (h := ?_); rintro v1 w1 ⟨u4, rfl, hu4, hS⟩; refine zn ?_; refine Q1 ?_; refine zm ?_; refine Q2 rfl ?_; refine zv hS ?_; refine zR2 (c := wto_c (x := x.no) (cs := [_, _, _]) hu4 hn (by simp only [List.length_append]; omega) hS) (h := ?_); rintro v1 w1 ⟨u5, rfl, hu5, hS⟩)
            all_goals refine zn ?_)
         | (refine Q4 rfl ?_ -- Q1j c1
            all_goals (refine Q0 ?_; refine Q1 ?_)
            all_goals (first | (refine Qy ?_) | (refine QC ?_) | (refine Qn rfl rfl (fun hc => ?_) (fun hc => ?_)))
            all_goals (refine zm ?_; refine zn ?_)
            all_goals
              first
              | (refine Q3 rfl ?_ -- Q1j c2
                 all_goals (refine Q1 ?_; refine zm ?_; refine Q2 rfl ?_; refine zl hS ?_; rw [if_neg (show ¬ x.op = 1 by omega), if_neg (show ¬ x.op = 2 by omega), if_pos (show x.op = 3 by omega)] at hb; refine zR2 (c := Qg1 hu1 h5 (by simp only [List.length_append]; omega) hS) (h := ?_); rintro v1 w1 ⟨u6, rfl, hu6, hS⟩)
                 all_goals refine zn ?_)
              | (refine Q4 rfl ?_ -- Q1j c2
                 all_goals refine zsk ?_)))
  all_goals (refine Q3j ?_; rcases Decidable.em (x.op = 1) with h9 | h9; (rw [if_pos h9]; first | (exact ⟨_, rfl, u2, rfl, hu2, hS.sp⟩) | (exfalso; omega)); rcases Decidable.em (x.op = 2) with h8 | h8; (rw [if_neg h9, if_pos h8, ← List.append_assoc, ← List.append_assoc]; first | (exact ⟨_, rfl, u5, rfl, hu5, hS.sp⟩) | (exfalso; omega)); rcases Decidable.em (x.op = 3) with h7 | h7; (rw [if_neg h9, if_neg h8, if_pos h7]; first | (exact ⟨_, rfl, u6, rfl, hu6, hS.sp⟩) | (exfalso; omega)); rw [if_neg h9, if_neg h8, if_neg h7, List.append_nil]; first | (exact ⟨_, rfl, u1, rfl, hu1, hS.sp⟩) | (exfalso; omega))
end Go.Proofs.YtanlkfeogoganaaGreat
namespace Go.Lir
section
variable {P : Program} {l : List GO} {Q : QT} {ρ : Env} {w : World} {c : Cx} {L : List Res}
theorem QlX {d src e Ty T b n m : Nat} {x : Operand} {cs : List Value} (hs : P.underlying src = some (.slice e)) (he : P.underlying e = some (.int .u8)) (hS : St c w (blk b T cs :: L)) (hx : ρ.ev x = .slice (some ⟨b, 0, none⟩) n m)
    (h : ∀ w', St c w' (blk b T cs :: L) → Q5 P l Q (upd ρ d (.slice (some ⟨b, 0, none⟩) n m)) w') : Q5 P (⟨none, .raw ⟨some d, .convert src src x, Ty, "", #[], none⟩⟩ :: l) Q ρ w := by
  obtain ⟨F, ⟨⟨⟨lo, hi⟩, hb, hfz, hle⟩, hF⟩, hst⟩ := hS.step0
  have hsh : w.shape? b = some (T, cs.length) := by simp [World.shape?, hb]
  refine Q19 (v := .slice (some ⟨b, 0, none⟩) n m) (w' := w.freeze ⟨b, cs.length, none⟩ 1) ?_ (h _ ?_)
  · simp only [execOp, hx, Sem.run_bind]
    simp [convert, Qe P src _ w hs, Qe P e _ w he, markStringish, hsh]
  · simp only at hfz hle
    refine hst _ F _ ⟨⟨if lo == hi then (cs.length, cs.length + 1) else (min lo cs.length, max hi (cs.length + 1)), ?_, ?_, ?_⟩, hF⟩ (Step.same ⟨rfl, rfl, rfl, ?_, ?_⟩)
    · simp [World.freeze, Array.getElem?_modify, hb]
    · intro i h1 h2
      by_cases he2 : lo = hi
      · rw [if_pos (by simpa using he2)] at h1
        exact h1
      · have := hfz lo (Nat.le_refl _) (by omega)
        rw [if_neg (by simpa using he2)] at h1
        simp only at h1; omega
    · by_cases he2 : lo = hi
      · rw [if_pos (by simpa using he2)]; simp
      · rw [if_neg (by simpa using he2)]; simp only; omega
    · simp [World.freeze]
    · intro q hq hn
      simp only [World.freeze, if_neg (show ¬ (1 : Nat) = 0 by decide), Array.getElem?_modify]
      rw [if_neg (fun h => hn ((hF q).2 h.symm))]
end
end Go.Lir
namespace Go.Proofs.YtanlkfeogoganaaGreat
open Go.Lir
set_option maxHeartbeats 1000000
attribute [local irreducible] LC.wp Q5 QN Q11 retQ Q1T LO.wp Qr Calls
set_option linter.unusedSimpArgs false
set_option linter.unusedVariables false
attribute [local irreducible] bitI IntKind.wrap zig leb Qo Qc Q24 tysB To.bts Ins.bts Tail.bts Module.fault Q3B
variable {cx : Cx} {w : World} {L : List Res}
theorem encode_b {m : Module} {cs : List Value} (hB : m.body.length ≤ 10000000000) (hsm : m.Short) (hx : modR.at cx cs m) (hS : St cx w L) : Rets Tryz.prog Q2c [.agg ⟨cs⟩] w fun u w' =>
    (m.fault.1 ≠ 0 ∧ u = .tuple #[.slice none 0 0, fltV m.fault] ∧ St cx w' L) ∨ (m.fault.1 = 0 ∧ 20000 < m.body.length + 4 ∧ u = .tuple #[.slice none 0 0, fltV (2, -1)] ∧ St cx w' L) ∨
    (m.fault.1 = 0 ∧ m.body.length + 4 ≤ 20000 ∧ ∃ v, u = .tuple #[v, fltV (0, 0)] ∧ oneC v = true ∧ St cx w' (sl 5 1 v (m.enc.map QB) :: L)) := by
  have hx' := hx
  obtain ⟨vf, rfl, hf⟩ := Q2l hx
  have hlf := hf.len
  have hn0 := QE m.funcs.length
  all_goals refine QgY ?_
  all_goals (unfold codec_Encode_lc; refine Q0 ?_; refine Q1 ?_; refine zb hS ?_; intro p1 w1 hS; refine zm ?_; refine Qb hS ?_; intro p3 w1 hS; refine zn ?_; refine Q0 ?_; refine Q0 ?_; refine Q1 ?_; refine zv hS ?_; refine zR1 (c := Qt5 hsm hx' hS) (h := ?_); rintro v1 w1 ⟨rfl, hS⟩; unfold fltV; refine Qb hS ?_; intro p4 w1 hS; refine zsn hS ?_; intro w1 hS; have hS := hS.ns; refine zn ?_; refine Q0 ?_; refine Q1 ?_; refine Q2 rfl ?_; refine zl hS ?_)
  all_goals (first | (refine Q1c ?_) | (refine Q1d ?_) | (refine Qp rfl rfl (fun hc => ?_) (fun hc => ?_)))
  all_goals (refine zn ?_)
  all_goals
    first
    | (refine Q3 rfl ?_ -- Q2c c0
       all_goals (refine Q0 ?_; refine zD [(0, none), (1, none), (2, some none)] ?_; have hS := hS.drew; refine zv hS ?_; refine zm ?_; refine zsn hS ?_; intro w1 hS; have hS := hS.ns; refine zn ?_; refine zr ?_; refine QbJ vw vw (Q9 (n := 2) (by kernel_rfl) (by kernel_rfl) (hS.blkAt fd) (by rfl) (by rfl)) ?_)
       all_goals (exact ⟨_, rfl, .inl ⟨by assumption, rfl, hS.sp⟩⟩))
    | (refine Q4 rfl ?_ -- Q2c c0
       all_goals refine zsk ?_)
  all_goals (refine Q0 ?_; have hF : m.fault.1 = 0 := (by omega); refine Q1 ?_; refine zB3 hS [_, _, _] ?_; intro b1 w1 hS; refine QlX (e := 5) (by kernel_rfl) (by kernel_rfl) hS vw ?_; intro w9 hS; refine zb1 [_] ?_; refine zb hS ?_; intro p22 w1 hS; refine zm ?_; refine zn ?_; have hS : St cx _ (blk b1 5 [.int .u8 67, .int .u8 72, .int .u8 1] :: blk p22 85 [.slice (some ⟨b1, 0, none⟩) 3 3] :: blk p3 30 [.int .i64 0, .int .i64 0] :: blk p1 24 [vf] :: L) := hS.sp; have hS := St.slOf (es := 1) (n := 3) (css := ([67, 72, 1] : List UInt8).map QB) hS rfl (by simp [QB]) rfl; refine Q0 ?_; refine Q1 ?_; refine zm ?_; refine Q2 rfl ?_; refine zl hS ?_; refine zL ?_; refine zB1 hS [_] ?_; intro b1 w1 hS; have hS : St cx _ (blk b1 3 [.int .i64 m.funcs.length] :: blk p22 85 [_] :: sl 5 1 _ (([67, 72, 1] : List UInt8).map QB) :: blk p3 30 [.int .i64 0, .int .i64 0] :: blk p1 24 [vf] :: L) := hS.sp; refine zR2 (c := Q4j (n := m.funcs.length) rfl (by simp; omega) hS) (h := ?_); rintro v1 w1 ⟨v3, rfl, hv3, hS⟩; refine zn ?_; refine Q0 ?_; refine Q0 ?_; refine Q1 ?_; refine Q2 rfl ?_; refine zl hS ?_)
  all_goals (refine zL ?_; refine zm ?_; refine zn ?_; refine Q8 ?_)
  refine zo [3, 5, 30, 31] (fun A ρ' w' => ∃ (q : Nat) (vb : Value) (acc : List UInt8), Has ρ' A ∧ Has ρ' [(32, .int .i64 q)] ∧ (q ≤ m.funcs.length) ∧ (oneC vb = true) ∧ (acc ++ (m.funcs.drop q).flatMap Fun.bts = m.body) ∧ St cx w' (blk p22 85 [vb] :: sl 5 1 vb (acc.map QB) :: blk p3 30 [.int .i64 0, .int .i64 0] :: L)) (fun ρ' _ => (m.funcs.length - iv (ρ' 32)).toNat) ?_ ?_
  · exact ⟨0, v3, [67, 72, 1] ++ Qc m.funcs.length, zh, zh, (by omega), hv3, by unfold Module.body; rw [List.drop_zero], hS.sp⟩
  rintro ρ w1 ⟨q, vb, acc, hA, hρ, hq, hvb, hd, hS⟩; obtain ⟨ρ, rfl⟩ := env2 hA hρ
  unfold Q7p
  all_goals (refine Q0 ?_; refine Q1 ?_; refine Qt rfl rfl ?_; refine zn ?_; refine Q0 ?_)
  refine Qm rfl (fun hc => ?_) (fun hc => ?_)
  · skip
    all_goals (refine zsk ?_; refine Q0 ?_; refine Q8 ?_; refine Q0 ?_; refine Q1 ?_; refine zi ?_; intro b1 o1 cs1 x1 hat1 hx1 he1; obtain ⟨vp1, vr1, vb1, rfl, hp1, hr1, hb1⟩ := Q1t he1; (first | (refine zv hS ?_) | (refine zvk hS ?_)); refine Qb hS ?_; intro p7 w1 hS; refine zsn hS ?_; intro w1 hS; have hS := hS.ns; refine zn ?_; rw [Q7 hx1, List.flatMap_cons] at hd; obtain ⟨R1, hR1⟩ : ∃ R, (m.funcs.drop (q + 1)).flatMap Fun.bts = R := ⟨_, rfl⟩; rw [hR1] at hd; unfold Fun.bts at hd; have hal := congrArg List.length hd; simp only [List.length_append] at hal; refine Q0 ?_; refine Q1 ?_; refine zm ?_; refine Q2 rfl ?_; refine zl hS ?_; refine zB1 hS [_] ?_; intro b1 w1 hS; have hS : St cx _ (blk b1 3 [.int .i64 x1.regs] :: blk p22 85 [vb] :: sl 5 1 vb (acc.map QB) :: blk p7 53 [.int .i64 x1.regs, vp1, vr1, vb1] :: blk p3 30 [.int .i64 0, .int .i64 0] :: L) := hS.sp; refine zR2 (c := Q4j (n := x1.regs) hvb (by omega) hS) (h := ?_); rintro v1 w1 ⟨v4, rfl, hv4, hS⟩; refine zn ?_; refine Q0 ?_; refine Q1 ?_; refine zm ?_; refine Q2 rfl ?_; refine zl hS ?_)
    all_goals (refine zR2 (c := Qmc hv4 hp1 (by simp only [List.length_append]; omega) hS) (h := ?_); rintro v1 w1 ⟨v5, rfl, hv5, hS⟩; refine zn ?_; refine Q0 ?_; refine Q1 ?_; refine zm ?_; refine Q2 rfl ?_; refine zl hS ?_; refine zR2 (c := Qmc hv5 hr1 (by simp only [List.length_append]; omega) hS) (h := ?_); rintro v1 w1 ⟨v6, rfl, hv6, hS⟩; refine zn ?_; refine Q0 ?_; refine Q1 ?_; refine zm ?_; refine Q2 rfl ?_; refine zl hS ?_; refine zL ?_; refine zB1 hS [_] ?_; intro b1 w1 hS; have hS : St cx _ (blk b1 3 [.int .i64 x1.blocks.length] :: blk p22 85 [v6] :: sl 5 1 v6 ((acc ++ Qc x1.regs ++ tysB x1.params ++ tysB x1.results).map QB) :: blk p7 53 [.int .i64 x1.regs, vp1, vr1, vb1] :: blk p3 30 [.int .i64 0, .int .i64 0] :: L) := hS.sp; refine zR2 (c := Q4j (n := x1.blocks.length) hv6 (by simp only [List.length_append]; omega) hS) (h := ?_); rintro v1 w1 ⟨v7, rfl, hv7, hS⟩; refine zn ?_; refine Q0 ?_; have hbl := hb1.len; refine Q1 ?_; refine Q2 rfl ?_; refine zl hS ?_; refine zL ?_)
    all_goals (refine zm ?_; refine zn ?_; refine Q8 ?_)
    refine zo [3, 5, 30, 31, 32, 56, 57] (fun A ρ' w' => ∃ (b : Nat) (vc : Value) (acc1 : List UInt8), Has ρ' A ∧ Has ρ' [(58, .int .i64 b)] ∧ (b ≤ x1.blocks.length) ∧ (oneC vc = true) ∧ (acc1 ++ ((x1.blocks.drop b).flatMap Block.bts ++ R1) = m.body) ∧ St cx w' (blk p22 85 [vc] :: sl 5 1 vc (acc1.map QB) :: blk p3 30 [.int .i64 0, .int .i64 0] :: L)) (fun ρ' _ => (x1.blocks.length - iv (ρ' 58)).toNat) ?_ ?_
    · exact ⟨0, v7, acc ++ Qc x1.regs ++ tysB x1.params ++ tysB x1.results ++ Qc x1.blocks.length, zh, zh, (by omega), hv7, by rw [List.drop_zero, ← hd]; simp only [List.append_assoc], hS.sp⟩
    rintro ρ w1 ⟨b, vc, acc1, hA, hρ, hb, hvc, hd1, hS⟩; obtain ⟨ρ, rfl⟩ := env2 hA hρ
    unfold Q5G
    all_goals (refine Q0 ?_; refine Q1 ?_; refine Qt rfl rfl ?_; refine zn ?_; refine Q0 ?_)
    refine Qm rfl (fun hc => ?_) (fun hc => ?_)
    · skip
      all_goals (refine zsk ?_; refine Q0 ?_; refine Q8 ?_; refine Q0 ?_; refine Q1 ?_; refine zi ?_; intro b2 o2 cs2 x2 hat2 hx2 he2; obtain ⟨vp2, vc2, ve21, ve22, ve23, ve24, ve25, rfl, hp2, hc2, he21, he22, he23, he24, he25⟩ := Q1w he2; (first | (refine zv hS ?_) | (refine zvk hS ?_)); refine Qb hS ?_; intro p9 w1 hS; refine zsn hS ?_; intro w1 hS; have hS := hS.ns; refine zn ?_; rw [Q7 hx2, List.flatMap_cons] at hd1; obtain ⟨R2, hR2⟩ : ∃ R, (x1.blocks.drop (b + 1)).flatMap Block.bts = R := ⟨_, rfl⟩; rw [hR2] at hd1; unfold Block.bts at hd1; have hal1 := congrArg List.length hd1; simp only [List.length_append] at hal1; refine Q0 ?_; refine Q1 ?_; refine zm ?_; refine Q2 rfl ?_; refine zl hS ?_; refine zB1 hS [_] ?_; intro b1 w1 hS; have hS : St cx _ (blk b1 3 [.int .i64 x2.regs] :: blk p22 85 [vc] :: sl 5 1 vc (acc1.map QB) :: blk p9 79 [.int .i64 x2.regs, vp2, vc2, .int .i64 x2.fin.op, .int .i64 x2.fin.a, .int .i64 x2.fin.yes.block, ve21, ve22, .int .i64 x2.fin.no.block, ve23, ve24, ve25] :: blk p3 30 [.int .i64 0, .int .i64 0] :: L) := hS.sp; refine zR2 (c := Q4j (n := x2.regs) hvc (by omega) hS) (h := ?_); rintro v1 w1 ⟨v8, rfl, hv8, hS⟩)
      all_goals (refine zn ?_; refine Q0 ?_; refine Q1 ?_; refine zm ?_; refine Q2 rfl ?_; refine zl hS ?_; refine zR2 (c := Qmc hv8 hp2 (by simp only [List.length_append]; omega) hS) (h := ?_); rintro v1 w1 ⟨v9, rfl, hv9, hS⟩; refine zn ?_; refine Q0 ?_; refine Q1 ?_; refine zm ?_; refine Q2 rfl ?_; refine zl hS ?_; refine zL ?_; refine zB1 hS [_] ?_; intro b1 w1 hS; have hS : St cx _ (blk b1 3 [.int .i64 x2.code.length] :: blk p22 85 [v9] :: sl 5 1 v9 ((acc1 ++ Qc x2.regs ++ tysB x2.params).map QB) :: blk p9 79 [.int .i64 x2.regs, vp2, vc2, .int .i64 x2.fin.op, .int .i64 x2.fin.a, .int .i64 x2.fin.yes.block, ve21, ve22, .int .i64 x2.fin.no.block, ve23, ve24, ve25] :: blk p3 30 [.int .i64 0, .int .i64 0] :: L) := hS.sp; refine zR2 (c := Q4j (n := x2.code.length) hv9 (by simp only [List.length_append]; omega) hS) (h := ?_); rintro v1 w1 ⟨v10, rfl, hv10, hS⟩; refine zn ?_; refine Q0 ?_; refine Q0 ?_; have hcl := hc2.len; refine Q1 ?_; refine Q2 rfl ?_; refine zl hS ?_; refine zL ?_)
      all_goals (refine zm ?_; refine zn ?_; refine Q8 ?_)
      refine zo [3, 5, 9, 30, 31, 32, 56, 57, 58, 78, 79] (fun A ρ' w' => ∃ (i : Nat) (vd : Value) (acc2 : List UInt8), Has ρ' A ∧ Has ρ' [(80, .int .i64 i)] ∧ (i ≤ x2.code.length) ∧ (oneC vd = true) ∧ (acc2 ++ ((x2.code.drop i).flatMap Ins.bts ++ (x2.fin.bts ++ (R2 ++ R1))) = m.body) ∧ St cx w' (blk p22 85 [vd] :: sl 5 1 vd (acc2.map QB) :: blk p9 79 [.int .i64 x2.regs, vp2, vc2, .int .i64 x2.fin.op, .int .i64 x2.fin.a, .int .i64 x2.fin.yes.block, ve21, ve22, .int .i64 x2.fin.no.block, ve23, ve24, ve25] :: blk p3 30 [.int .i64 0, .int .i64 0] :: L)) (fun ρ' _ => (x2.code.length - iv (ρ' 80)).toNat) ?_ ?_
      · exact ⟨0, v10, acc1 ++ Qc x2.regs ++ tysB x2.params ++ Qc x2.code.length, zh, zh, (by omega), hv10, by rw [List.drop_zero, ← hd1]; simp only [List.append_assoc], hS.sp⟩
      rintro ρ w1 ⟨i, vd, acc2, hA, hρ, hi, hvd, hd2, hS⟩; obtain ⟨ρ, rfl⟩ := env2 hA hρ
      unfold Q5F
      all_goals (refine Q0 ?_; refine Q1 ?_; refine Qt rfl rfl ?_; refine zn ?_; refine Q0 ?_)
      refine Qm rfl (fun hc => ?_) (fun hc => ?_)
      · skip
        all_goals (refine zsk ?_; refine Q0 ?_; refine Q8 ?_; refine Q0 ?_; refine Q1 ?_; refine zi ?_; intro b3 o3 cs3 x3 hat3 hx3 he3; obtain ⟨vr3, va3, rfl, hr3, ha3⟩ := Q22 he3; (first | (refine zv hS ?_) | (refine zvk hS ?_)); refine Qb hS ?_; intro p11 w1 hS; refine zsn hS ?_; intro w1 hS; have hS := hS.ns; refine zn ?_; rw [Q7 hx3, List.flatMap_cons] at hd2; have hal2 := congrArg List.length hd2; simp only [List.length_append] at hal2; refine Q1 ?_; refine zm ?_; refine zv hS ?_; have hS : St cx _ (blk p22 85 [vd] :: sl 5 1 vd (acc2.map QB) :: blk p9 79 [.int .i64 x2.regs, vp2, vc2, .int .i64 x2.fin.op, .int .i64 x2.fin.a, .int .i64 x2.fin.yes.block, ve21, ve22, .int .i64 x2.fin.no.block, ve23, ve24, ve25] :: blk p3 30 [.int .i64 0, .int .i64 0] :: L) := hS.sp; refine zR2 (c := wins_c hvd he3 (by omega) hS) (h := ?_); rintro v1 w1 ⟨v11, rfl, hv11, hS⟩; refine zn ?_; refine Q1 ?_; refine zad ?_; refine zm ?_; refine zn ?_; exact ⟨⟨i + 1, v11, acc2 ++ x3.bts, zh, zh, (by omega), hv11, by rw [← hd2]; simp only [List.append_assoc], hS.sp⟩, Qh (by omega)⟩)
      · skip
        all_goals (refine zex ?_; rw [List.drop_of_length_le (by omega), List.flatMap_nil, List.nil_append] at hd2; have hal2 := congrArg List.length hd2; simp only [List.length_append] at hal2; refine Q1 ?_; refine zm ?_; refine Q2 rfl ?_; refine zv hS ?_; refine zR2 (c := wend_c hvd ⟨_, _, _, _, _, rfl, he21, he22, he23, he24, he25⟩ (by omega) hS) (h := ?_); rintro v1 w1 ⟨v12, rfl, hv12, hS⟩; refine zn ?_; refine Q1 ?_; refine zad ?_; refine zm ?_; refine zn ?_; exact ⟨⟨b + 1, v12, acc2 ++ x2.fin.bts, zh, zh, (by omega), hv12, by rw [hR2, ← hd2]; simp only [List.append_assoc], hS.sp⟩, Qh (by omega)⟩)
    · skip
      all_goals (refine zex ?_; refine Q1 ?_; refine zad ?_; refine zm ?_; refine zn ?_; exact ⟨⟨q + 1, vc, acc1, zh, zh, (by omega), hvc, by rw [hR1, ← hd1, List.drop_of_length_le (by omega), List.flatMap_nil, List.nil_append], hS.sp⟩, Qh (by omega)⟩)
  · skip
    all_goals (refine zex ?_; rw [List.drop_of_length_le (by omega), List.flatMap_nil, List.append_nil] at hd; subst hd; refine Q0 ?_; refine Q0 ?_; refine Q1 ?_; refine zm ?_; refine Qv rfl ?_; refine Q2 rfl ?_; refine zl hS ?_; (first | (refine zL ?_) | (refine zLe hS ?_)); refine zad ?_)
    all_goals (first | (refine QK ?_) | (refine QM ?_) | (refine Qi rfl rfl (fun hc => ?_) (fun hc => ?_)))
    all_goals (refine zn ?_)
    all_goals
      first
      | (refine Q3 rfl ?_ -- Q2c c4
         all_goals (refine Q0 ?_; refine Q1 ?_; refine zb2 [_, _] ?_; refine zm ?_; refine zsn hS ?_; intro w1 hS; have hS := hS.ns; refine zn ?_; refine zr ?_; refine QbJ vw vw (Q9 (n := 2) (by kernel_rfl) (by kernel_rfl) (hS.blkAt fd) (by rfl) (by rfl)) ?_)
         all_goals (first | (exact ⟨_, rfl, .inl ⟨by assumption, rfl, hS.sp⟩⟩) | (exact ⟨_, rfl, .inr (.inl ⟨hF, by omega, rfl, hS.sp⟩)⟩)))
      | (refine Q4 rfl ?_ -- Q2c c4
         all_goals refine zsk ?_)
    all_goals (refine Q0 ?_; refine Q1 ?_; refine zm ?_; refine Qv rfl ?_; refine Q2 rfl ?_; refine zl hS ?_; obtain ⟨c7, hle7, hS, hk7, hback⟩ := St.lend (r := u8R) (hS.out (r := sl 5 1 vb (m.body.map QB)) fd) (Qa m.body) rfl (by omega); simp only [List.eraseIdx_cons_zero, List.eraseIdx_cons_succ] at hS; refine zR1 (c := sum_c hk7 hS) (h := ?_); rintro v9 w9 ⟨rfl, hS⟩; have hS := hback hS; obtain ⟨cr, hcr⟩ : ∃ c, Q3B m.body = c := ⟨_, rfl⟩; rw [hcr]; refine zm ?_; refine zn ?_; refine Q0 ?_; refine Q1 ?_; refine zm ?_; refine Qv rfl ?_; refine Q2 rfl ?_; refine zl hS ?_; refine zm ?_; refine Q28 rfl ?_; rw [Q3V]; refine zm ?_; refine Q7Q rfl rfl (by decide) ?_; rw [show (8 : Int) = ((8 : Nat) : Int) from rfl, Q7s _ _ (by decide)]; refine Q28 rfl ?_; rw [Q3V]; refine zm ?_; refine Q7Q rfl rfl (by decide) ?_; rw [show (16 : Int) = ((16 : Nat) : Int) from rfl, Q7s _ _ (by decide)]; refine Q28 rfl ?_; rw [Q3V]; refine zm ?_; refine Q7Q rfl rfl (by decide) ?_; rw [show (24 : Int) = ((24 : Nat) : Int) from rfl, Q7s _ _ (by decide)]; refine Q28 rfl ?_; rw [Q3V]; refine zB4 hS [_, _, _, _] ?_; intro b1 w1 hS; have hS := St.slOf (es := 1) (n := 4) (css := (crc4 cr).map QB) hS rfl (by simp [crc4, QB]) rfl; refine Qk Qs QP hS vw vw fd fd (Qa m.body) (Qa (crc4 cr)) (by rw [show (crc4 cr).length = 4 from rfl]; omega) ?_; intro vp w3 cssp hlsp hvp hS; have hS := hS.ns; rw [Rep.LR.u8 rfl hlsp] at hS; subst hcr)
    all_goals (refine zb0 [_, _] ?_; refine zm ?_; refine zsn hS ?_; intro w1 hS; have hS := hS.ns; refine zn ?_; refine zr ?_; refine QbJ vw vw (Q9 (n := 2) (by kernel_rfl) (by kernel_rfl) (hS.blkAt fd) (by rfl) (by rfl)) ?_; (first | (exact ⟨_, rfl, .inl ⟨by assumption, rfl, hS.sp⟩⟩) | (exact ⟨_, rfl, .inr (.inl ⟨hF, by omega, rfl, hS.sp⟩)⟩) | (exact ⟨_, rfl, .inr (.inr ⟨hF, by omega, _, rfl, by assumption, hS.sp⟩)⟩)))
theorem Qtf {m : Module} {cs : List Value} (hm : m.Few) (hsm : m.Short) (hx : modR.at cx cs m) (hS : St cx w L) : Rets Tryz.prog Q2c [.agg ⟨cs⟩] w fun u w' =>
    (m.fault.1 ≠ 0 ∧ u = .tuple #[.slice none 0 0, fltV m.fault] ∧ St cx w' L) ∨ (m.fault.1 = 0 ∧ 20000 < m.body.length + 4 ∧ u = .tuple #[.slice none 0 0, fltV (2, -1)] ∧ St cx w' L) ∨
    (m.fault.1 = 0 ∧ m.body.length + 4 ≤ 20000 ∧ ∃ v, u = .tuple #[v, fltV (0, 0)] ∧ oneC v = true ∧ St cx w' (sl 5 1 v (m.enc.map QB) :: L)) := encode_b (Module.body_few hm) hsm hx hS
end Go.Proofs.YtanlkfeogoganaaGreat
namespace Go.Proofs.YtanlkfeogoganaaGreat
open Go.Lir
set_option maxHeartbeats 1000000
attribute [local irreducible] LC.wp Q5 QN Q11 retQ Q1T LO.wp Qr Calls
set_option linter.unusedSimpArgs false
set_option linter.unusedVariables false
theorem QuI {x : Module} (hsm : x.Short) {cx : Cx} {w : World} {L : List Res} {cs : List Value} (hx : modR.at cx cs x) (hS : St cx w L) : Rets Tryz.prog QiI [.agg ⟨cs⟩] w fun u w' => ∃ c' ds, u = .agg ⟨ds⟩ ∧ cx.Le c' ∧ modR.at c' ds x ∧ St c' w' L := by
  obtain ⟨vf, rfl, hf⟩ := Q2l hx
  obtain ⟨l⟩ := x
  have hf : funcR.sl cx vf l := hf
  have hsl : l.length ≤ 100000 := hsm.1
  have hsm : ∀ f ∈ l, f.Short := hsm.2
  have hle := St.refl hS
  all_goals refine Qln ?_
  all_goals (unfold R_OwnModule_lc; refine Q0 ?_; refine Q1 ?_; refine zb hS ?_; intro p1 w1 hS; refine Qb hS ?_; intro p2 w1 hS; refine zn ?_; refine Q0 ?_; refine Q1 ?_; refine Qb hS ?_; intro p3 w1 hS; refine zn ?_; refine Q0 ?_; refine Q0 ?_; refine Q1 ?_; refine zm ?_; refine zn ?_; refine Q8 ?_)
  refine zo [1, 2, 3] (fun A ρ' w' => ∃ (k0 : Cx) (j : Nat) (u : Value) (css : List (List Value)), Has ρ' A ∧ Has ρ' [(4, .int .i64 j)] ∧ (cx.Le k0) ∧ (j ≤ l.length) ∧ (funcR.ls k0 css (l.take j)) ∧ (oneC u = true) ∧ St k0 w' (sl 53 4 u css :: blk p3 24 [u] :: blk p2 24 [.slice none 0 0] :: blk p1 24 [vf] :: L)) (fun ρ' _ => (l.length - iv (ρ' 4)).toNat) ?_ ?_
  · exact ⟨cx, 0, .slice none 0 0, [], zh, zh, St.refl hS, (by omega), Rep.LR.nil _ _ _, rfl, by have hS := hS.nil (T := 53) (es := 4); exact hS⟩
  rintro ρ w1 ⟨k0, j, u, css, hA, hρ, hle2, hj, hls, hu, hS⟩; obtain ⟨ρ, rfl⟩ := env2 hA hρ; have hL0 := hle2; (try have hle := hle.trans hle2); (try have hf := hf.up hle2)
  unfold Q8V
  all_goals (refine Q0 ?_; refine Q0 ?_; refine Q1 ?_; refine zm ?_; refine Q2 rfl ?_; refine zl hS ?_; refine zL ?_; refine Qt rfl rfl ?_; refine zn ?_)
  refine Qm rfl (fun hc => ?_) (fun hc => ?_)
  · skip
    all_goals (refine zsk ?_; refine Q0 ?_; refine Q8 ?_; refine Q0 ?_; refine Q1 ?_; refine Q2 rfl ?_; refine zl hS ?_; refine zm ?_; refine zi ?_; intro b1 o1 cs1 x1 hat1 hx1 he1; obtain ⟨vp1, vr1, vb1, rfl, hp1, hr1, hb1⟩ := Q1t he1; (first | (refine zv hS ?_) | (refine zvk hS ?_)); refine Qb hS ?_; intro p5 w1 hS; refine zsn hS ?_; intro w1 hS; have hS := hS.ns; refine zn ?_; have hsh := hsm x1 (List.mem_of_getElem? hx1); have hlb := hsh.2.2.1)
    have hJ6 := St.refl hS
    refine zML hS [1, 2, 3, 4, 5] (fun A LL ρ' w' => ∃ (k6 : Cx) (a1 a2 : Option Addr) (n1 n2 p6 : Nat), Has ρ' A ∧ Has ρ' [(6, .pointer (some ⟨p6, 0, none⟩))] ∧ (k0.Le k6) ∧ (tyR.sl k6 (.slice a1 x1.params.length n1) x1.params) ∧ (tyR.sl k6 (.slice a2 x1.results.length n2) x1.results) ∧ St k6 w' (blk p6 53 [.int .i64 x1.regs, .slice a1 x1.params.length n1, .slice a2 x1.results.length n2, .slice none 0 0] :: LL)) ?_ ?_
    · skip
      refine Q2K 4 9 (by kernel_rfl) ?_ ?_
      · skip
        refine Q2K 7 9 (by kernel_rfl) ?_ ?_
        · skip
          all_goals (refine zC [(0, none), (1, none), (2, none), (3, none), (5, none), (6, none), (4, some (some [1, 6])), (7, some (some [1])), (8, none), (9, some (some [1])), (10, some none)] ?_; have hS := hS.drew; refine s_cq ?_; refine Q2 rfl ?_; refine zt ?_; refine s_cq ?_; refine zl hS ?_; refine zt ?_; refine s_cq ?_; refine Q2 rfl ?_; refine zt ?_; refine s_cq ?_; refine zl hS ?_; refine zt ?_; refine s_cq ?_; refine Q2 rfl ?_; refine zt ?_; refine s_cq ?_; refine zl hS ?_; refine zt ?_; refine Ql ?_)
          all_goals (refine zR1 (c := Q6q hsh.1.1 hsh.1.2 hp1 hS) (h := ?_); rintro v1 w1 ⟨c1, hle2, hk1, hS⟩; obtain ⟨a1, n1, rfl⟩ := Rep.SR.shape hk1; (try have hle := hle.trans hle2); (try have hL0 := hL0.trans hle2); (try have hJ6 := hJ6.trans hle2); (try have hf := hf.up hle2); (try have hp1 := hp1.up hle2); (try have hr1 := hr1.up hle2); (try have hb1 := hb1.up hle2); (try have he1 := he1.up hle2); (try have hls := hls.up hle2))
          all_goals (refine zt ?_; refine zy ?_; refine Ql ?_)
          all_goals (refine zR1 (c := Q6q hsh.2.1.1 hsh.2.1.2 hr1 hS) (h := ?_); rintro v1 w1 ⟨c2, hle2, hk2, hS⟩; obtain ⟨a2, n2, rfl⟩ := Rep.SR.shape hk2; (try have hle := hle.trans hle2); (try have hL0 := hL0.trans hle2); (try have hJ6 := hJ6.trans hle2); (try have hf := hf.up hle2); (try have hk1 := hk1.up hle2); (try have hp1 := hp1.up hle2); (try have hr1 := hr1.up hle2); (try have hb1 := hb1.up hle2); (try have he1 := he1.up hle2); (try have hls := hls.up hle2))
          all_goals (refine zt ?_; refine zy ?_; refine s_cq ?_; refine zb3 [_, _, _, _] ?_; refine zt ?_; refine Ql ?_; refine Qb hS ?_; intro p6 w1 hS; refine zt ?_; refine zy ?_; refine s_cf ?_; refine zsn hS ?_; intro w1 hS; have hS := hS.ns; refine zt ?_; refine zcn ?_; exact ⟨_, a1, a2, n1, n2, p6, zh, zh, hJ6, by assumption, by assumption, hS.sp⟩)
        · skip
          all_goals (refine zC [(0, none), (1, none), (2, none), (3, none), (5, none), (6, none), (4, some (some [1, 6])), (9, some (some [1, 6])), (7, some (some [1])), (8, none), (10, some none)] ?_; have hS := hS.drew; refine s_cq ?_; refine Q2 rfl ?_; refine zt ?_; refine s_cq ?_; refine zl hS ?_; refine zt ?_; refine s_cq ?_; refine Q2 rfl ?_; refine zt ?_; refine s_cq ?_; refine zl hS ?_; refine zt ?_; refine s_cq ?_; refine Q2 rfl ?_; refine zt ?_; refine s_cq ?_; refine zl hS ?_; refine zt ?_; refine Ql ?_)
          all_goals (refine zR1 (c := Q6q hsh.1.1 hsh.1.2 hp1 hS) (h := ?_); rintro v1 w1 ⟨c1, hle2, hk1, hS⟩; obtain ⟨a1, n1, rfl⟩ := Rep.SR.shape hk1; (try have hle := hle.trans hle2); (try have hL0 := hL0.trans hle2); (try have hJ6 := hJ6.trans hle2); (try have hf := hf.up hle2); (try have hp1 := hp1.up hle2); (try have hr1 := hr1.up hle2); (try have hb1 := hb1.up hle2); (try have he1 := he1.up hle2); (try have hls := hls.up hle2))
          all_goals (refine zt ?_; refine zy ?_; refine Ql ?_; refine Qb hS ?_; intro p6 w1 hS; refine zt ?_; refine zy ?_; refine Ql ?_)
          all_goals (refine zR1 (c := Q6q hsh.2.1.1 hsh.2.1.2 hr1 hS) (h := ?_); rintro v1 w1 ⟨c2, hle2, hk2, hS⟩; obtain ⟨a2, n2, rfl⟩ := Rep.SR.shape hk2; (try have hle := hle.trans hle2); (try have hL0 := hL0.trans hle2); (try have hJ6 := hJ6.trans hle2); (try have hf := hf.up hle2); (try have hk1 := hk1.up hle2); (try have hp1 := hp1.up hle2); (try have hr1 := hr1.up hle2); (try have hb1 := hb1.up hle2); (try have he1 := he1.up hle2); (try have hls := hls.up hle2))
          all_goals (refine zt ?_; refine zy ?_; refine s_cq ?_; refine zb3 [_, _, _, _] ?_; refine zt ?_; refine s_cf ?_; refine zsn hS ?_; intro w1 hS; have hS := hS.ns; refine zt ?_; refine zcn ?_; exact ⟨_, a1, a2, n1, n2, p6, zh, zh, hJ6, by assumption, by assumption, hS.sp⟩)
      · skip
        all_goals (refine zC [(0, none), (1, none), (2, none), (3, none), (5, none), (6, none), (9, some (some [1, 3, 6])), (4, some (some [1, 6])), (7, some (some [1])), (8, none), (10, some none)] ?_; have hS := hS.drew; refine s_cq ?_; refine Q2 rfl ?_; refine zt ?_; refine s_cq ?_; refine zl hS ?_; refine zt ?_; refine s_cq ?_; refine Q2 rfl ?_; refine zt ?_; refine s_cq ?_; refine zl hS ?_; refine zt ?_; refine s_cq ?_; refine Q2 rfl ?_; refine zt ?_; refine s_cq ?_; refine zl hS ?_; refine zt ?_; refine Ql ?_; refine Qb hS ?_; intro p6 w1 hS; refine zt ?_; refine zy ?_; refine Ql ?_)
        all_goals (refine zR1 (c := Q6q hsh.1.1 hsh.1.2 hp1 hS) (h := ?_); rintro v1 w1 ⟨c1, hle2, hk1, hS⟩; obtain ⟨a1, n1, rfl⟩ := Rep.SR.shape hk1; (try have hle := hle.trans hle2); (try have hL0 := hL0.trans hle2); (try have hJ6 := hJ6.trans hle2); (try have hf := hf.up hle2); (try have hp1 := hp1.up hle2); (try have hr1 := hr1.up hle2); (try have hb1 := hb1.up hle2); (try have he1 := he1.up hle2); (try have hls := hls.up hle2))
        all_goals (refine zt ?_; refine zy ?_; refine Ql ?_)
        all_goals (refine zR1 (c := Q6q hsh.2.1.1 hsh.2.1.2 hr1 hS) (h := ?_); rintro v1 w1 ⟨c2, hle2, hk2, hS⟩; obtain ⟨a2, n2, rfl⟩ := Rep.SR.shape hk2; (try have hle := hle.trans hle2); (try have hL0 := hL0.trans hle2); (try have hJ6 := hJ6.trans hle2); (try have hf := hf.up hle2); (try have hk1 := hk1.up hle2); (try have hp1 := hp1.up hle2); (try have hr1 := hr1.up hle2); (try have hb1 := hb1.up hle2); (try have he1 := he1.up hle2); (try have hls := hls.up hle2))
        all_goals (refine zt ?_; refine zy ?_; refine s_cq ?_; refine zb3 [_, _, _, _] ?_; refine zt ?_; refine s_cf ?_; refine zsn hS ?_; intro w1 hS; have hS := hS.ns; refine zt ?_; refine zcn ?_; exact ⟨_, a1, a2, n1, n2, p6, zh, zh, hJ6, by assumption, by assumption, hS.sp⟩)
    rintro ρ w1 ⟨k6, a1, a2, n1, n2, p6, hA, hρ, hle2, hk1, hk2, hS⟩; obtain ⟨ρ, rfl⟩ := env2 hA hρ; (try have hle := hle.trans hle2); (try have hL0 := hL0.trans hle2); (try have hJ6 := hJ6.trans hle2); (try have hf := hf.up hle2); (try have hp1 := hp1.up hle2); (try have hr1 := hr1.up hle2); (try have hb1 := hb1.up hle2); (try have he1 := he1.up hle2); (try have hls := hls.up hle2)
    all_goals (refine Q0 ?_; refine Q0 ?_; refine Q1 ?_; refine zm ?_; refine zn ?_; refine Q8 ?_)
    refine zo [1, 2, 3, 4, 5, 6] (fun A ρ' w' => ∃ (k1 : Cx) (i : Nat) (ub : Value) (cssB : List (List Value)), Has ρ' A ∧ Has ρ' [(7, .int .i64 i)] ∧ (k6.Le k1) ∧ (i ≤ x1.blocks.length) ∧ (blockR.ls k1 cssB (x1.blocks.take i)) ∧ (oneC ub = true) ∧ St k1 w' (sl 79 12 ub cssB :: blk p6 53 [.int .i64 x1.regs, .slice a1 x1.params.length n1, .slice a2 x1.results.length n2, ub] :: blk p5 53 [.int .i64 x1.regs, vp1, vr1, vb1] :: sl 53 4 u css :: blk p3 24 [u] :: blk p2 24 [.slice none 0 0] :: blk p1 24 [vf] :: L)) (fun ρ' _ => (x1.blocks.length - iv (ρ' 7)).toNat) ?_ ?_
    · exact ⟨k6, 0, .slice none 0 0, [], zh, zh, St.refl hS, (by omega), Rep.LR.nil _ _ _, rfl, by have hS := hS.nil (T := 79) (es := 12); exact hS.sp⟩
    rintro ρ w1 ⟨k1, i, ub, cssB, hA, hρ, hle2, hi, hlsB, hub, hS⟩; obtain ⟨ρ, rfl⟩ := env2 hA hρ; have hL1 := hle2; (try have hle := hle.trans hle2); (try have hL0 := hL0.trans hle2); (try have hJ6 := hJ6.trans hle2); (try have hf := hf.up hle2); (try have hk1 := hk1.up hle2); (try have hk2 := hk2.up hle2); (try have hp1 := hp1.up hle2); (try have hr1 := hr1.up hle2); (try have hb1 := hb1.up hle2); (try have he1 := he1.up hle2); (try have hls := hls.up hle2)
    unfold Q8U
    all_goals (refine Q0 ?_; refine Q0 ?_; refine Q1 ?_; refine zm ?_; refine Q2 rfl ?_; refine zl hS ?_; refine zL ?_; refine Qt rfl rfl ?_; refine zn ?_)
    refine Qm rfl (fun hc => ?_) (fun hc => ?_)
    · skip
      all_goals (refine zsk ?_; refine Q0 ?_; refine Q8 ?_; refine Q0 ?_; refine Q1 ?_; refine Q2 rfl ?_; refine zl hS ?_; refine zm ?_; refine zi ?_; intro b2 o2 cs2 x2 hat2 hx2 he2; obtain ⟨vp2, vc2, ve21, ve22, ve23, ve24, ve25, rfl, hp2, hc2, he21, he22, he23, he24, he25⟩ := Q1w he2; (first | (refine zv hS ?_) | (refine zvk hS ?_)); refine Qb hS ?_; intro p8 w1 hS; refine zsn hS ?_; intro w1 hS; have hS := hS.ns; refine zn ?_; have hsb := hsh.2.2.2 x2 (List.mem_of_getElem? hx2); have hlc := hsb.2.1)
      have hJ10 := St.refl hS
      refine zML hS [1, 2, 3, 4, 5, 6, 7, 8] (fun A LL ρ' w' => ∃ (k10 : Cx) (a3 : Option Addr) (n3 p9 : Nat), Has ρ' A ∧ Has ρ' [(9, .pointer (some ⟨p9, 0, none⟩))] ∧ (k1.Le k10) ∧ (tyR.sl k10 (.slice a3 x2.params.length n3) x2.params) ∧ St k10 w' (blk p9 79 [.int .i64 x2.regs, .slice a3 x2.params.length n3, .slice none 0 0, .int .i64 0, .int .i64 0, .int .i64 0, .slice none 0 0, .slice none 0 0, .int .i64 0, .slice none 0 0, .slice none 0 0, .slice none 0 0] :: LL)) ?_ ?_
      · skip
        refine Q2K 4 6 (by kernel_rfl) ?_ ?_
        · skip
          all_goals (refine zC [(0, none), (1, none), (2, none), (3, none), (4, some (some [1])), (5, none), (6, some (some [1])), (7, some none)] ?_; have hS := hS.drew; refine s_cq ?_; refine Q2 rfl ?_; refine zt ?_; refine s_cq ?_; refine zl hS ?_; refine zt ?_; refine s_cq ?_; refine Q2 rfl ?_; refine zt ?_; refine s_cq ?_; refine zl hS ?_; refine zt ?_; refine Ql ?_)
          all_goals (refine zR1 (c := Q6q hsb.1.1 hsb.1.2 hp2 hS) (h := ?_); rintro v1 w1 ⟨c3, hle2, hk3, hS⟩; obtain ⟨a3, n3, rfl⟩ := Rep.SR.shape hk3; (try have hle := hle.trans hle2); (try have hL0 := hL0.trans hle2); (try have hL1 := hL1.trans hle2); (try have hJ6 := hJ6.trans hle2); (try have hJ10 := hJ10.trans hle2); (try have hf := hf.up hle2); (try have hk1 := hk1.up hle2); (try have hk2 := hk2.up hle2); (try have hp1 := hp1.up hle2); (try have hr1 := hr1.up hle2); (try have hb1 := hb1.up hle2); (try have hp2 := hp2.up hle2); (try have hc2 := hc2.up hle2); (try have he21 := he21.up hle2); (try have he22 := he22.up hle2); (try have he23 := he23.up hle2); (try have he24 := he24.up hle2); (try have he25 := he25.up hle2); (try have he1 := he1.up hle2); (try have he2 := he2.up hle2); (try have hls := hls.up hle2); (try have hlsB := hlsB.up hle2))
          all_goals (refine zt ?_; refine zy ?_; refine s_cq ?_; refine zb2 [_, _, _, _, _, _, _, _, _, _, _, _] ?_; refine zt ?_; refine Ql ?_; refine Qb hS ?_; intro p9 w1 hS; refine zt ?_; refine zy ?_; refine s_cf ?_; refine zsn hS ?_; intro w1 hS; have hS := hS.ns; refine zt ?_; refine zcn ?_; exact ⟨_, a3, n3, p9, zh, zh, hJ10, by assumption, hS.sp⟩)
        · skip
          all_goals (refine zC [(0, none), (1, none), (2, none), (3, none), (6, some (some [1, 3])), (4, some (some [1])), (5, none), (7, some none)] ?_; have hS := hS.drew; refine s_cq ?_; refine Q2 rfl ?_; refine zt ?_; refine s_cq ?_; refine zl hS ?_; refine zt ?_; refine s_cq ?_; refine Q2 rfl ?_; refine zt ?_; refine s_cq ?_; refine zl hS ?_; refine zt ?_; refine Ql ?_; refine Qb hS ?_; intro p9 w1 hS; refine zt ?_; refine zy ?_; refine Ql ?_)
          all_goals (refine zR1 (c := Q6q hsb.1.1 hsb.1.2 hp2 hS) (h := ?_); rintro v1 w1 ⟨c3, hle2, hk3, hS⟩; obtain ⟨a3, n3, rfl⟩ := Rep.SR.shape hk3; (try have hle := hle.trans hle2); (try have hL0 := hL0.trans hle2); (try have hL1 := hL1.trans hle2); (try have hJ6 := hJ6.trans hle2); (try have hJ10 := hJ10.trans hle2); (try have hf := hf.up hle2); (try have hk1 := hk1.up hle2); (try have hk2 := hk2.up hle2); (try have hp1 := hp1.up hle2); (try have hr1 := hr1.up hle2); (try have hb1 := hb1.up hle2); (try have hp2 := hp2.up hle2); (try have hc2 := hc2.up hle2); (try have he21 := he21.up hle2); (try have he22 := he22.up hle2); (try have he23 := he23.up hle2); (try have he24 := he24.up hle2); (try have he25 := he25.up hle2); (try have he1 := he1.up hle2); (try have he2 := he2.up hle2); (try have hls := hls.up hle2); (try have hlsB := hlsB.up hle2))
          all_goals (refine zt ?_; refine zy ?_; refine s_cq ?_; refine zb2 [_, _, _, _, _, _, _, _, _, _, _, _] ?_; refine zt ?_; refine s_cf ?_; refine zsn hS ?_; intro w1 hS; have hS := hS.ns; refine zt ?_; refine zcn ?_; exact ⟨_, a3, n3, p9, zh, zh, hJ10, by assumption, hS.sp⟩)
      rintro ρ w1 ⟨k10, a3, n3, p9, hA, hρ, hle2, hk3, hS⟩; obtain ⟨ρ, rfl⟩ := env2 hA hρ; (try have hle := hle.trans hle2); (try have hL0 := hL0.trans hle2); (try have hL1 := hL1.trans hle2); (try have hJ6 := hJ6.trans hle2); (try have hJ10 := hJ10.trans hle2); (try have hf := hf.up hle2); (try have hk1 := hk1.up hle2); (try have hk2 := hk2.up hle2); (try have hp1 := hp1.up hle2); (try have hr1 := hr1.up hle2); (try have hb1 := hb1.up hle2); (try have hp2 := hp2.up hle2); (try have hc2 := hc2.up hle2); (try have he21 := he21.up hle2); (try have he22 := he22.up hle2); (try have he23 := he23.up hle2); (try have he24 := he24.up hle2); (try have he25 := he25.up hle2); (try have he1 := he1.up hle2); (try have he2 := he2.up hle2); (try have hls := hls.up hle2); (try have hlsB := hlsB.up hle2)
      all_goals (refine Q0 ?_; refine Q0 ?_; refine Q1 ?_; refine zm ?_; refine zn ?_; refine Q8 ?_)
      refine zo [1, 2, 3, 4, 5, 6, 7, 8, 9] (fun A ρ' w' => ∃ (k2 : Cx) (k : Nat) (uc : Value) (cssC : List (List Value)), Has ρ' A ∧ Has ρ' [(10, .int .i64 k)] ∧ (k10.Le k2) ∧ (k ≤ x2.code.length) ∧ (insR.ls k2 cssC (x2.code.take k)) ∧ (oneC uc = true) ∧ St k2 w' (sl 57 8 uc cssC :: blk p9 79 [.int .i64 x2.regs, .slice a3 x2.params.length n3, uc, .int .i64 0, .int .i64 0, .int .i64 0, .slice none 0 0, .slice none 0 0, .int .i64 0, .slice none 0 0, .slice none 0 0, .slice none 0 0] :: blk p8 79 [.int .i64 x2.regs, vp2, vc2, .int .i64 x2.fin.op, .int .i64 x2.fin.a, .int .i64 x2.fin.yes.block, ve21, ve22, .int .i64 x2.fin.no.block, ve23, ve24, ve25] :: sl 79 12 ub cssB :: blk p6 53 [.int .i64 x1.regs, .slice a1 x1.params.length n1, .slice a2 x1.results.length n2, ub] :: blk p5 53 [.int .i64 x1.regs, vp1, vr1, vb1] :: sl 53 4 u css :: blk p3 24 [u] :: blk p2 24 [.slice none 0 0] :: blk p1 24 [vf] :: L)) (fun ρ' _ => (x2.code.length - iv (ρ' 10)).toNat) ?_ ?_
      · exact ⟨k10, 0, .slice none 0 0, [], zh, zh, St.refl hS, (by omega), Rep.LR.nil _ _ _, rfl, by have hS := hS.nil (T := 57) (es := 8); exact hS.sp⟩
      rintro ρ w1 ⟨k2, k, uc, cssC, hA, hρ, hle2, hkk, hlsC, huc, hS⟩; obtain ⟨ρ, rfl⟩ := env2 hA hρ; have hL2 := hle2; (try have hle := hle.trans hle2); (try have hL0 := hL0.trans hle2); (try have hL1 := hL1.trans hle2); (try have hJ6 := hJ6.trans hle2); (try have hJ10 := hJ10.trans hle2); (try have hf := hf.up hle2); (try have hk1 := hk1.up hle2); (try have hk2 := hk2.up hle2); (try have hk3 := hk3.up hle2); (try have hp1 := hp1.up hle2); (try have hr1 := hr1.up hle2); (try have hb1 := hb1.up hle2); (try have hp2 := hp2.up hle2); (try have hc2 := hc2.up hle2); (try have he21 := he21.up hle2); (try have he22 := he22.up hle2); (try have he23 := he23.up hle2); (try have he24 := he24.up hle2); (try have he25 := he25.up hle2); (try have he1 := he1.up hle2); (try have he2 := he2.up hle2); (try have hls := hls.up hle2); (try have hlsB := hlsB.up hle2)
      unfold Q7y
      all_goals (refine Q0 ?_; refine Q0 ?_; refine Q1 ?_; refine zm ?_; refine Q2 rfl ?_; refine zl hS ?_; refine zL ?_; refine Qt rfl rfl ?_; refine zn ?_)
      refine Qm rfl (fun hc => ?_) (fun hc => ?_)
      · skip
        all_goals (refine zsk ?_; refine Q0 ?_; refine Q8 ?_; refine Q0 ?_; refine Q1 ?_; refine Q2 rfl ?_; refine zl hS ?_; refine zm ?_; refine zi ?_; intro b3 o3 cs3 x3 hat3 hx3 he3; obtain ⟨vr3, va3, rfl, hr3, ha3⟩ := Q22 he3; (first | (refine zv hS ?_) | (refine zvk hS ?_)); refine Qb hS ?_; intro p11 w1 hS; refine zsn hS ?_; intro w1 hS; have hS := hS.ns; refine zn ?_; refine Q0 ?_; have hsi := hsb.2.2.1 x3 (List.mem_of_getElem? hx3); refine zC [(0, none), (1, none), (3, none), (4, none), (2, some (some [4])), (6, none), (5, some (some [])), (7, some none), (8, none), (9, some none)] ?_; have hS := hS.drew; refine s_cq ?_; refine Q2 rfl ?_; refine zt ?_; refine s_cq ?_; refine zl hS ?_; refine zt ?_; refine s_cq ?_; refine Q2 rfl ?_; refine zt ?_; refine s_cq ?_; refine zl hS ?_; refine zt ?_; refine Ql ?_)
        all_goals (refine zR1 (c := Q4O (by have := hsi.1; omega) hr3 hS) (h := ?_); rintro v1 w1 ⟨c4, hle2, hk4, hS⟩; obtain ⟨a4, n4, rfl⟩ := Rep.SR.shape hk4; (try have hle := hle.trans hle2); (try have hL0 := hL0.trans hle2); (try have hL1 := hL1.trans hle2); (try have hL2 := hL2.trans hle2); (try have hJ6 := hJ6.trans hle2); (try have hJ10 := hJ10.trans hle2); (try have hf := hf.up hle2); (try have hk1 := hk1.up hle2); (try have hk2 := hk2.up hle2); (try have hk3 := hk3.up hle2); (try have hp1 := hp1.up hle2); (try have hr1 := hr1.up hle2); (try have hb1 := hb1.up hle2); (try have hp2 := hp2.up hle2); (try have hc2 := hc2.up hle2); (try have he21 := he21.up hle2); (try have he22 := he22.up hle2); (try have he23 := he23.up hle2); (try have he24 := he24.up hle2); (try have he25 := he25.up hle2); (try have hr3 := hr3.up hle2); (try have ha3 := ha3.up hle2); (try have he1 := he1.up hle2); (try have he2 := he2.up hle2); (try have he3 := he3.up hle2); (try have hls := hls.up hle2); (try have hlsB := hlsB.up hle2); (try have hlsC := hlsC.up hle2))
        all_goals (refine zt ?_; refine zy ?_; refine s_cq ?_; refine Q2 rfl ?_; refine zt ?_; refine Ql ?_)
        all_goals (refine zR1 (c := Q4O (by have := hsi.2; omega) ha3 hS) (h := ?_); rintro v1 w1 ⟨c5, hle2, hk5, hS⟩; obtain ⟨a5, n5, rfl⟩ := Rep.SR.shape hk5; (try have hle := hle.trans hle2); (try have hL0 := hL0.trans hle2); (try have hL1 := hL1.trans hle2); (try have hL2 := hL2.trans hle2); (try have hJ6 := hJ6.trans hle2); (try have hJ10 := hJ10.trans hle2); (try have hf := hf.up hle2); (try have hk1 := hk1.up hle2); (try have hk2 := hk2.up hle2); (try have hk3 := hk3.up hle2); (try have hk4 := hk4.up hle2); (try have hp1 := hp1.up hle2); (try have hr1 := hr1.up hle2); (try have hb1 := hb1.up hle2); (try have hp2 := hp2.up hle2); (try have hc2 := hc2.up hle2); (try have he21 := he21.up hle2); (try have he22 := he22.up hle2); (try have he23 := he23.up hle2); (try have he24 := he24.up hle2); (try have he25 := he25.up hle2); (try have hr3 := hr3.up hle2); (try have ha3 := ha3.up hle2); (try have he1 := he1.up hle2); (try have he2 := he2.up hle2); (try have he3 := he3.up hle2); (try have hls := hls.up hle2); (try have hlsB := hlsB.up hle2); (try have hlsC := hlsC.up hle2))
        all_goals (refine zt ?_; refine zy ?_; refine s_cf ?_; refine zst hS ?_; intro w1 hS; have hS := hS.ns; refine zt ?_; refine s_cq ?_; refine Q2 rfl ?_; refine zt ?_; refine s_cf ?_; refine zst hS ?_; intro w1 hS; have hS := hS.ns; refine zt ?_; refine zcn ?_; have hk9 : insR.at c5 _ x3 := ⟨_, _, rfl, hk4, hk5⟩; refine Q1 ?_; refine Q2 rfl ?_; refine zl hS ?_; refine zv hS ?_; refine zB1 hS [_, _, _, _, _, _, _, _] ?_; intro b1 w1 hS; refine za Qvp u_T40 hS ?_; intro vp1 w1 css1 hls1 hv1 hS; have hS := hS.ns; refine Q2 rfl ?_; refine zst hS ?_; intro w1 hS; have hS := hS.ns; refine zn ?_; refine Q1 ?_; refine zm ?_; refine zad ?_; refine zm ?_; refine zn ?_; exact ⟨⟨_, k + 1, _, _, zh, zh, hL2, (by omega), by rw [Q4M hx3]; assumption, by assumption, hS.sp⟩, Qh (by omega)⟩)
      · skip
        all_goals (refine zex ?_)
        all_goals (obtain ⟨c6, hle2, hS, hk6⟩ := St.freezeL (r := insR) (l := x2.code) hS (by rw [List.take_of_length_le (by omega)] at hlsC; exact hlsC) rfl (by have := hsb.2.1; omega); obtain ⟨a6, n6, rfl⟩ := Rep.SR.shape hk6; (try have hle := hle.trans hle2); (try have hL0 := hL0.trans hle2); (try have hL1 := hL1.trans hle2); (try have hL2 := hL2.trans hle2); (try have hJ6 := hJ6.trans hle2); (try have hJ10 := hJ10.trans hle2); (try have hf := hf.up hle2); (try have hk1 := hk1.up hle2); (try have hk2 := hk2.up hle2); (try have hk3 := hk3.up hle2); (try have hp1 := hp1.up hle2); (try have hr1 := hr1.up hle2); (try have hb1 := hb1.up hle2); (try have hp2 := hp2.up hle2); (try have hc2 := hc2.up hle2); (try have he21 := he21.up hle2); (try have he22 := he22.up hle2); (try have he23 := he23.up hle2); (try have he24 := he24.up hle2); (try have he25 := he25.up hle2); (try have he1 := he1.up hle2); (try have he2 := he2.up hle2); (try have hls := hls.up hle2); (try have hlsB := hlsB.up hle2); (try have hlsC := hlsC.up hle2))
        all_goals (refine Q0 ?_; refine zC [(0, none), (1, none), (2, none), (3, none), (4, none), (5, none), (6, none), (7, none), (8, none), (10, none), (11, none), (12, none), (14, none), (15, none), (16, none), (9, some (some [2, 5, 12, 16])), (13, some (some [2, 5, 16])), (17, some (some [2, 5])), (18, none), (19, none), (20, some none)] ?_; have hS := hS.drew; refine s_cq ?_; refine Q2 rfl ?_; refine zt ?_; refine s_cq ?_; (first | refine Q2 rfl ?_ | refine Q1r rfl ?_); refine zt ?_; refine s_cq ?_; refine zl hS ?_; refine zt ?_; refine s_cq ?_; refine Q2 rfl ?_; refine zt ?_; refine s_cq ?_; (first | refine Q2 rfl ?_ | refine Q1r rfl ?_); refine zt ?_; refine s_cq ?_; refine zl hS ?_; refine zt ?_; refine s_cq ?_; refine Q2 rfl ?_; refine zt ?_; refine s_cq ?_; (first | refine Q2 rfl ?_ | refine Q1r rfl ?_); refine zt ?_; refine s_cq ?_; refine zv hS ?_; refine zt ?_; refine s_cq ?_; refine Q2 rfl ?_; refine zt ?_; refine s_cq ?_; (first | refine Q2 rfl ?_ | refine Q1r rfl ?_); refine zt ?_; refine s_cq ?_; refine zv hS ?_; refine zt ?_; refine s_cq ?_; refine Q2 rfl ?_)
        all_goals (refine zt ?_; refine s_cq ?_; (first | refine Q2 rfl ?_ | refine Q1r rfl ?_); refine zt ?_; refine s_cq ?_; refine zl hS ?_; refine zt ?_; refine Ql ?_)
        all_goals (refine zR1 (c := QsY (x := x2.fin.yes) (by have := hsb.2.2.2.1.1; omega) (by have := hsb.2.2.2.1.2; omega) ⟨_, _, rfl, he21, he22⟩ hS) (h := ?_); rintro v1 w1 ⟨c7, ds, rfl, hle2, hk7, hS⟩; obtain ⟨y1, y2, rfl, hy1, hy2⟩ := Q2W hk7; obtain ⟨a7, n7, rfl⟩ := Rep.SR.shape hy1; obtain ⟨a8, n8, rfl⟩ := Rep.SR.shape hy2; (try have hle := hle.trans hle2); (try have hL0 := hL0.trans hle2); (try have hL1 := hL1.trans hle2); (try have hL2 := hL2.trans hle2); (try have hJ6 := hJ6.trans hle2); (try have hJ10 := hJ10.trans hle2); (try have hf := hf.up hle2); (try have hk1 := hk1.up hle2); (try have hk2 := hk2.up hle2); (try have hk3 := hk3.up hle2); (try have hk6 := hk6.up hle2); (try have hp1 := hp1.up hle2); (try have hr1 := hr1.up hle2); (try have hb1 := hb1.up hle2); (try have hp2 := hp2.up hle2); (try have hc2 := hc2.up hle2); (try have he21 := he21.up hle2); (try have he22 := he22.up hle2); (try have he23 := he23.up hle2); (try have he24 := he24.up hle2); (try have he25 := he25.up hle2); (try have he1 := he1.up hle2); (try have he2 := he2.up hle2); (try have hls := hls.up hle2); (try have hlsB := hlsB.up hle2); (try have hlsC := hlsC.up hle2))
        all_goals (refine zt ?_; refine zy ?_; refine Ql ?_)
        all_goals (refine zR1 (c := QsY (x := x2.fin.no) (by have := hsb.2.2.2.2.1.1; omega) (by have := hsb.2.2.2.2.1.2; omega) ⟨_, _, rfl, he23, he24⟩ hS) (h := ?_); rintro v1 w1 ⟨c8, ds, rfl, hle2, hk8, hS⟩; obtain ⟨z1, z2, rfl, hz1, hz2⟩ := Q2W hk8; obtain ⟨a9, n9, rfl⟩ := Rep.SR.shape hz1; obtain ⟨a10, n10, rfl⟩ := Rep.SR.shape hz2; (try have hle := hle.trans hle2); (try have hL0 := hL0.trans hle2); (try have hL1 := hL1.trans hle2); (try have hL2 := hL2.trans hle2); (try have hJ6 := hJ6.trans hle2); (try have hJ10 := hJ10.trans hle2); (try have hf := hf.up hle2); (try have hk1 := hk1.up hle2); (try have hk2 := hk2.up hle2); (try have hk3 := hk3.up hle2); (try have hk6 := hk6.up hle2); (try have hk7 := hk7.up hle2); (try have hp1 := hp1.up hle2); (try have hr1 := hr1.up hle2); (try have hb1 := hb1.up hle2); (try have hp2 := hp2.up hle2); (try have hc2 := hc2.up hle2); (try have he21 := he21.up hle2); (try have he22 := he22.up hle2); (try have he23 := he23.up hle2); (try have he24 := he24.up hle2); (try have he25 := he25.up hle2); (try have he1 := he1.up hle2); (try have he2 := he2.up hle2); (try have hls := hls.up hle2); (try have hy1 := hy1.up hle2); (try have hy2 := hy2.up hle2); (try have hlsB := hlsB.up hle2); (try have hlsC := hlsC.up hle2))
        all_goals (refine zt ?_; refine zy ?_; refine Ql ?_)
        all_goals (refine zR1 (c := Q4O (by have := hsb.2.2.2.2.2; omega) he25 hS) (h := ?_); rintro v1 w1 ⟨c9, hle2, hw1, hS⟩; obtain ⟨a11, n11, rfl⟩ := Rep.SR.shape hw1; (try have hle := hle.trans hle2); (try have hL0 := hL0.trans hle2); (try have hL1 := hL1.trans hle2); (try have hL2 := hL2.trans hle2); (try have hJ6 := hJ6.trans hle2); (try have hJ10 := hJ10.trans hle2); (try have hf := hf.up hle2); (try have hk1 := hk1.up hle2); (try have hk2 := hk2.up hle2); (try have hk3 := hk3.up hle2); (try have hk6 := hk6.up hle2); (try have hk7 := hk7.up hle2); (try have hk8 := hk8.up hle2); (try have hp1 := hp1.up hle2); (try have hr1 := hr1.up hle2); (try have hb1 := hb1.up hle2); (try have hp2 := hp2.up hle2); (try have hc2 := hc2.up hle2); (try have he21 := he21.up hle2); (try have he22 := he22.up hle2); (try have he23 := he23.up hle2); (try have he24 := he24.up hle2); (try have he25 := he25.up hle2); (try have he1 := he1.up hle2); (try have he2 := he2.up hle2); (try have hls := hls.up hle2); (try have hy1 := hy1.up hle2); (try have hy2 := hy2.up hle2); (try have hz1 := hz1.up hle2); (try have hz2 := hz2.up hle2); (try have hlsB := hlsB.up hle2); (try have hlsC := hlsC.up hle2))
        all_goals (refine zt ?_; refine zy ?_; refine s_cq ?_; refine zb5 [_, _, _, _, _, _, _, _, _] ?_; refine zt ?_; refine s_cq ?_; refine Q2 rfl ?_; refine zt ?_; refine s_cf ?_; (first | (refine zsn hS ?_; intro w1 hS; have hS := hS.ns) | (refine zsm hS ?_; intro w1 hS; have hS := hS.ns)); refine zt ?_; refine zcn ?_; have hk9 : blockR.at c9 _ x2 := Q2R (x := x2) hk3 hk6 hy1 hy2 hz1 hz2 hw1; refine Q1 ?_; refine Q2 rfl ?_; refine zl hS ?_; refine zv hS ?_; refine zB1 hS [_, _, _, _, _, _, _, _, _, _, _, _] ?_; intro b1 w1 hS; refine za Qvn u_T51 hS ?_; intro vp2 w2 css2 hls2 hv2 hS; have hS := hS.ns; refine Q2 rfl ?_; refine zst hS ?_; intro w1 hS; have hS := hS.ns; refine zn ?_; refine Q1 ?_; refine zm ?_; refine zad ?_; refine zm ?_; refine zn ?_; exact ⟨⟨_, i + 1, _, _, zh, zh, hL1, (by omega), by rw [Q4M hx2]; assumption, by assumption, hS.sp⟩, Qh (by omega)⟩)
    · skip
      all_goals (refine zex ?_)
      all_goals (obtain ⟨c10, hle2, hS, hk6⟩ := St.freezeL (r := blockR) (l := x1.blocks) hS (by rw [List.take_of_length_le (by omega)] at hlsB; exact hlsB) rfl (by have := hsh.2.2.1; omega); obtain ⟨a6, n6, rfl⟩ := Rep.SR.shape hk6; (try have hle := hle.trans hle2); (try have hL0 := hL0.trans hle2); (try have hL1 := hL1.trans hle2); (try have hJ6 := hJ6.trans hle2); (try have hf := hf.up hle2); (try have hk1 := hk1.up hle2); (try have hk2 := hk2.up hle2); (try have hp1 := hp1.up hle2); (try have hr1 := hr1.up hle2); (try have hb1 := hb1.up hle2); (try have he1 := he1.up hle2); (try have hls := hls.up hle2); (try have hlsB := hlsB.up hle2))
      all_goals (have hk9 : funcR.at c10 _ x1 := ⟨_, _, _, rfl, hk1, hk2, hk6⟩; refine Q1 ?_; refine Q2 rfl ?_; refine zl hS ?_; refine zv hS ?_; refine zB1 hS [_, _, _, _] ?_; intro b1 w1 hS; refine za Qvq u_T22 hS ?_; intro vp3 w3 css3 hls3 hv3 hS; have hS := hS.ns; refine Q2 rfl ?_; refine zst hS ?_; intro w1 hS; have hS := hS.ns; refine zn ?_; refine Q1 ?_; refine zm ?_; refine zad ?_; refine zm ?_; refine zn ?_; exact ⟨⟨_, j + 1, _, _, zh, zh, hL0, (by omega), by rw [Q4M hx1]; assumption, by assumption, hS.sp⟩, Qh (by omega)⟩)
  · skip
    all_goals (refine zex ?_)
    all_goals (obtain ⟨c11, hle2, hS, hk6⟩ := St.freezeL (r := funcR) (l := l) hS (by rw [List.take_of_length_le (by omega)] at hls; exact hls) rfl (by omega); obtain ⟨a6, n6, rfl⟩ := Rep.SR.shape hk6; (try have hle := hle.trans hle2); (try have hL0 := hL0.trans hle2); (try have hf := hf.up hle2); (try have hls := hls.up hle2))
    all_goals (refine Q0 ?_; refine Q1 ?_; refine zv hS ?_; refine zsn hS ?_; intro w1 hS; have hS := hS.ns; refine zn ?_; refine zr ?_; refine Q20 vw (Q9 (n := 1) (by kernel_rfl) (by kernel_rfl) (hS.blkAt fd) (by rfl) (by rfl)) ?_; exact ⟨_, rfl, c11, _, rfl, hle, ⟨_, rfl, hk6⟩, hS.sp⟩)
end Go.Proofs.YtanlkfeogoganaaGreat
namespace Go.Proofs.YtanlkfeogoganaaGreat
open Go.Lir
set_option maxHeartbeats 1000000
attribute [local irreducible] LC.wp Q5 QN Q11 retQ Q1T LO.wp Qr Calls
set_option linter.unusedSimpArgs false
set_option linter.unusedVariables false
theorem QlZ {x y : Block} {cx : Cx} {w : World} {L : List Res} {cs ds : List Value} (hx : blockR.at cx cs x) (hy : blockR.at cx ds y) (hS : St cx w L) : Rets Tryz.prog Q3v [.agg ⟨cs⟩, .agg ⟨ds⟩] w fun u w' => u = .bool (decide (x = y)) ∧ St cx w' L := by
  obtain ⟨vp, vc, v1, v2, v3, v4, v5, rfl, hp, hc0, h1, h2, h3, h4, h5⟩ := Q1w hx
  obtain ⟨up, uc, u1, u2, u3, u4, u5, rfl, gp, gc, g1, g2, g3, g4, g5⟩ := Q1w hy
  have hlen := hc0.len
  obtain ⟨xr, xp, xc, ⟨xo, xa, xy, xn, xg⟩⟩ := x
  obtain ⟨yr, yp, yc, ⟨yo, ya, yy, yn, yg⟩⟩ := y
  simp only [Block.mk.injEq, Tail.mk.injEq] at *
  all_goals refine Qkr ?_
  all_goals (unfold R_sameBlock_lc; refine Q0 ?_; refine Q1 ?_; refine zb hS ?_; intro p2 w1 hS; refine zb hS ?_; intro p3 w1 hS; refine zm ?_; refine zn ?_)
  refine zML hS [2, 3] (fun A LL ρ' w' => Has ρ' A ∧ Has ρ' [] ∧ (xr = yr) ∧ (xp = yp) ∧ (xc.length = yc.length) ∧ St cx w' (LL)) ?_ ?_
  · skip
    all_goals (refine Q0 ?_; refine Q1 ?_; refine Q2 rfl ?_; refine zl hS ?_; refine Q2 rfl ?_; refine zl hS ?_)
    all_goals (first | (refine Q1c ?_) | (refine Q1d ?_) | (refine Qp rfl rfl (fun hc => ?_) (fun hc => ?_)))
    all_goals (refine zm ?_; (first | refine s_gn rfl rfl ?_ | (refine s_gy rfl ?_; refine Q2 rfl ?_)); (first | refine s_gn rfl rfl ?_ | (refine s_gy rfl ?_; refine zl hS ?_)); (first | refine s_gn rfl rfl ?_ | (refine s_gy rfl ?_; refine Q2 rfl ?_)); (first | refine s_gn rfl rfl ?_ | (refine s_gy rfl ?_; refine zl hS ?_)))
    all_goals ((first | (refine s_gn rfl rfl ?_) | (refine s_gy rfl ?_; refine zR2 (c := Q7F hp gp hS) (h := ?_); rintro v1 w1 ⟨rfl, hS⟩; (cases hdec : decide (xp = yp)); have hg := of_decide_eq_false hdec; rotate_left; have hg := of_decide_eq_true hdec; all_goals skip)))
    all_goals ((first | refine s_gn rfl rfl ?_ | (refine s_gy rfl ?_; refine Q2b rfl ?_)); (first | (refine zpt ?_) | (refine zpf ?_)); refine zm ?_; (first | refine s_gn rfl rfl ?_ | (refine s_gy rfl ?_; refine Q2 rfl ?_)); (first | refine s_gn rfl rfl ?_ | (refine s_gy rfl ?_; refine zl hS ?_)); (first | refine s_gn rfl rfl ?_ | (refine s_gy rfl ?_; refine zL ?_)); (first | refine s_gn rfl rfl ?_ | (refine s_gy rfl ?_; refine Q2 rfl ?_)); (first | refine s_gn rfl rfl ?_ | (refine s_gy rfl ?_; refine zl hS ?_)); (first | refine s_gn rfl rfl ?_ | (refine s_gy rfl ?_; refine zL ?_)))
    all_goals (first | refine s_gn rfl rfl ?_ | (refine s_gy rfl ?_; (first | (refine Q1c ?_) | (refine Q1d ?_) | (refine Qp rfl rfl (fun hc => ?_) (fun hc => ?_)))))
    all_goals ((first | (refine zpt ?_) | (refine zpf ?_)); refine zn ?_)
    all_goals
      first
      | (refine Q3 rfl ?_ -- Q3v c0
         all_goals (refine Q0 ?_; refine Q1 ?_; refine zm ?_; refine zn ?_; refine zr ?_; refine zf ?_)
         all_goals (refine ⟨_, rfl, ?_, hS.sp⟩; (rw [decide_eq_false]; rintro ⟨e1, e2, e3, _⟩; have := congrArg List.length e3; first | omega | (simp_all; done)); done))
      | (refine Q4 rfl ?_ -- Q3v c0
         all_goals refine zsk ?_)
    all_goals (exact ⟨zh, zh, by omega, by assumption, by omega, hS.sp⟩)
  rintro ρ w1 ⟨hA, hρ, hr, hpp, hll, hS⟩; obtain ⟨ρ, rfl⟩ := env2 hA hρ
  all_goals (refine Q0 ?_; refine Q0 ?_; refine Q1 ?_; refine zm ?_; refine zn ?_; refine Q8 ?_)
  refine zoL hS [2, 3] (fun A LL ρ' w' => ∃ (j : Nat), Has ρ' A ∧ Has ρ' [(5, .int .i64 j)] ∧ (j ≤ xc.length) ∧ (xc = yc ↔ xc.drop j = yc.drop j) ∧ St cx w' (LL)) (fun ρ' _ => (xc.length - iv (ρ' 5)).toNat) ?_ ?_
  · exact ⟨0, zh, zh, (by omega), by simp, hS.sp⟩
  rintro ρ w1 ⟨j, hA, hρ, hj, hd, hS⟩; obtain ⟨ρ, rfl⟩ := env2 hA hρ
  unfold Q8R
  all_goals (refine Q0 ?_; refine Q0 ?_; refine Q1 ?_; refine zm ?_; refine Q2 rfl ?_; refine zl hS ?_; refine zL ?_; refine Qt rfl rfl ?_; refine zn ?_)
  refine Qm rfl (fun hc => ?_) (fun hc => ?_)
  · skip
    all_goals (refine zsk ?_; refine Q0 ?_; refine Q8 ?_; refine Q0 ?_; refine zD [(0, none), (1, none), (2, none), (3, none), (4, none), (5, none), (6, none), (7, none), (8, none), (9, none), (10, some none), (11, some none)] ?_; have hS := hS.drew; refine Q2 rfl ?_; refine zl hS ?_; refine zm ?_; refine zi ?_; intro b1 o1 cs1 x1 hat1 hx1 he1; obtain ⟨vr1, va1, rfl, hr1, ha1⟩ := Q22 he1; (first | (refine zv hS ?_) | (refine zvk hS ?_)); refine Q2 rfl ?_; refine zl hS ?_; refine zm ?_; refine zi ?_; intro b2 o2 cs2 x2 hat2 hx2 he2; obtain ⟨vr2, va2, rfl, hr2, ha2⟩ := Q22 he2; (first | (refine zv hS ?_) | (refine zvk hS ?_)))
    all_goals (refine zR2 (c := Qtu he1 he2 hS) (h := ?_); rintro v1 w1 ⟨rfl, hS⟩; (cases hdec : decide (x1 = x2)); have hg := of_decide_eq_false hdec; rotate_left; have hg := of_decide_eq_true hdec; all_goals skip)
    all_goals (refine Q2b rfl ?_; refine zn ?_)
    all_goals
      first
      | (refine Q3 rfl ?_ -- Q3v c2
         all_goals (refine Q0 ?_; refine Q1 ?_; refine zm ?_; refine zn ?_; refine zr ?_; refine zf ?_)
         all_goals (refine ⟨_, rfl, ?_, hS.sp⟩; (rw [decide_eq_false]; rintro ⟨e1, e2, e3, _⟩; have := congrArg List.length e3; first | omega | (simp_all; done)); done))
      | (refine Q4 rfl ?_ -- Q3v c2
         all_goals refine zsk ?_)
    all_goals (refine Q1 ?_; refine zm ?_; refine zad ?_; refine zm ?_; refine zn ?_; exact ⟨⟨j + 1, zh, zh, (by omega), by rw [hd, Q7 hx1, Q7 hx2, hg]; simp, hS.sp⟩, Qh (by omega)⟩)
  · skip
    all_goals (refine zex ?_; refine Q0 ?_; refine Q1 ?_; refine Q2 rfl ?_; (first | refine Q2 rfl ?_ | refine Q1r rfl ?_); refine zl hS ?_; refine Q2 rfl ?_; (first | refine Q2 rfl ?_ | refine Q1r rfl ?_); refine zl hS ?_)
    all_goals (first | (refine Qy ?_) | (refine QC ?_) | (refine Qn rfl rfl (fun hc => ?_) (fun hc => ?_)))
    all_goals (refine zm ?_; (first | refine s_gn rfl rfl ?_ | (refine s_gy rfl ?_; refine Q2 rfl ?_)); (first | refine s_gn rfl rfl ?_ | (refine s_gy rfl ?_; (first | refine Q2 rfl ?_ | refine Q1r rfl ?_))); (first | refine s_gn rfl rfl ?_ | (refine s_gy rfl ?_; refine zl hS ?_)); (first | refine s_gn rfl rfl ?_ | (refine s_gy rfl ?_; refine Q2 rfl ?_)); (first | refine s_gn rfl rfl ?_ | (refine s_gy rfl ?_; (first | refine Q2 rfl ?_ | refine Q1r rfl ?_))); (first | refine s_gn rfl rfl ?_ | (refine s_gy rfl ?_; refine zl hS ?_)))
    all_goals (first | refine s_gn rfl rfl ?_ | (refine s_gy rfl ?_; (first | (refine Qy ?_) | (refine QC ?_) | (refine Qn rfl rfl (fun hc => ?_) (fun hc => ?_)))))
    all_goals ((first | (refine zpt ?_) | (refine zpf ?_)); refine zm ?_; (first | refine s_gn rfl rfl ?_ | (refine s_gy rfl ?_; refine Q2 rfl ?_)); (first | refine s_gn rfl rfl ?_ | (refine s_gy rfl ?_; (first | refine Q2 rfl ?_ | refine Q1r rfl ?_))); (first | refine s_gn rfl rfl ?_ | (refine s_gy rfl ?_; refine zv hS ?_)); (first | refine s_gn rfl rfl ?_ | (refine s_gy rfl ?_; refine Q2 rfl ?_)); (first | refine s_gn rfl rfl ?_ | (refine s_gy rfl ?_; (first | refine Q2 rfl ?_ | refine Q1r rfl ?_))); (first | refine s_gn rfl rfl ?_ | (refine s_gy rfl ?_; refine zv hS ?_)))
    all_goals ((first | (refine s_gn rfl rfl ?_) | (refine s_gy rfl ?_; refine zR2 (c := QpF (x := xy) (y := yy) ⟨_, _, rfl, h1, h2⟩ ⟨_, _, rfl, g1, g2⟩ hS) (h := ?_); rintro v1 w1 ⟨rfl, hS⟩; (cases hdec : decide (xy = yy)); have hg := of_decide_eq_false hdec; rotate_left; have hg := of_decide_eq_true hdec; all_goals skip)))
    all_goals ((first | (refine zpt ?_) | (refine zpf ?_)); refine zm ?_; (first | refine s_gn rfl rfl ?_ | (refine s_gy rfl ?_; refine Q2 rfl ?_)); (first | refine s_gn rfl rfl ?_ | (refine s_gy rfl ?_; (first | refine Q2 rfl ?_ | refine Q1r rfl ?_))); (first | refine s_gn rfl rfl ?_ | (refine s_gy rfl ?_; refine zv hS ?_)); (first | refine s_gn rfl rfl ?_ | (refine s_gy rfl ?_; refine Q2 rfl ?_)); (first | refine s_gn rfl rfl ?_ | (refine s_gy rfl ?_; (first | refine Q2 rfl ?_ | refine Q1r rfl ?_))); (first | refine s_gn rfl rfl ?_ | (refine s_gy rfl ?_; refine zv hS ?_)))
    all_goals ((first | (refine s_gn rfl rfl ?_) | (refine s_gy rfl ?_; refine zR2 (c := QpF (x := xn) (y := yn) ⟨_, _, rfl, h3, h4⟩ ⟨_, _, rfl, g3, g4⟩ hS) (h := ?_); rintro v1 w1 ⟨rfl, hS⟩; (cases hdec : decide (xn = yn)); have hg := of_decide_eq_false hdec; rotate_left; have hg := of_decide_eq_true hdec; all_goals skip)))
    all_goals ((first | (refine zpt ?_) | (refine zpf ?_)); refine zm ?_; (first | refine s_gn rfl rfl ?_ | (refine s_gy rfl ?_; refine Q2 rfl ?_)); (first | refine s_gn rfl rfl ?_ | (refine s_gy rfl ?_; (first | refine Q2 rfl ?_ | refine Q1r rfl ?_))); (first | refine s_gn rfl rfl ?_ | (refine s_gy rfl ?_; refine zl hS ?_)); (first | refine s_gn rfl rfl ?_ | (refine s_gy rfl ?_; refine Q2 rfl ?_)); (first | refine s_gn rfl rfl ?_ | (refine s_gy rfl ?_; (first | refine Q2 rfl ?_ | refine Q1r rfl ?_))); (first | refine s_gn rfl rfl ?_ | (refine s_gy rfl ?_; refine zl hS ?_)); (first | (refine s_gn rfl rfl ?_) | (refine s_gy rfl ?_; refine zR2 (c := Qgq h5 g5 hS) (h := ?_); rintro v1 w1 ⟨rfl, hS⟩)); (first | (refine zpt ?_) | (refine zpf ?_)); refine zm ?_; refine zn ?_; refine zr ?_; refine zf ?_; (first | (refine ⟨_, rfl, ?_, hS.sp⟩; (rw [decide_eq_false]; rintro ⟨e1, e2, e3, _⟩; have := congrArg List.length e3; first | omega | (simp_all; done)); done) | (refine ⟨_, rfl, ?_, hS.sp⟩; rw [decide_eq_false]; rintro ⟨e1, e2, e3, _⟩; rw [hd, Q7 hx1, Q7 hx2, List.cons.injEq] at e3; exact hg e3.1; done) | (refine ⟨_, rfl, ?_, hS.sp⟩; have hcc : xc = yc := (by rw [hd, List.drop_of_length_le (by omega), List.drop_of_length_le (by omega)]); simp [*]; done)))
theorem QlY {x y : Module} {cx : Cx} {w : World} {L : List Res} {cs ds : List Value} (hx : modR.at cx cs x) (hy : modR.at cx ds y) (hS : St cx w L) : Rets Tryz.prog Q1l [.agg ⟨cs⟩, .agg ⟨ds⟩] w fun u w' => u = .bool (decide (x = y)) ∧ St cx w' L := by
  obtain ⟨vf, rfl, hl⟩ := Q2l hx
  obtain ⟨uf, rfl, hm⟩ := Q2l hy
  obtain ⟨l⟩ := x
  obtain ⟨m⟩ := y
  have hlen := hl.len
  simp only [Module.mk.injEq] at *
  all_goals refine Qio ?_
  all_goals (unfold R_SameModule_lc; refine Q0 ?_; refine Q1 ?_; refine zb hS ?_; intro p2 w1 hS; refine zb hS ?_; intro p3 w1 hS; refine zm ?_; refine zn ?_; refine Q0 ?_; refine Q0 ?_; refine Q1 ?_; refine Q2 rfl ?_; refine zl hS ?_; refine zL ?_; refine Q2 rfl ?_; refine zl hS ?_; refine zL ?_)
  all_goals (first | (refine Q1c ?_) | (refine Q1d ?_) | (refine Qp rfl rfl (fun hc => ?_) (fun hc => ?_)))
  all_goals (refine zn ?_)
  all_goals
    first
    | (refine Q3 rfl ?_ -- Q1l c0
       all_goals (refine Q0 ?_; refine Q1 ?_; refine zm ?_; refine zn ?_; refine zr ?_; refine zf ?_)
       all_goals (refine ⟨_, rfl, ?_, hS.sp⟩; rw [decide_eq_false]; exact fun e => absurd (congrArg List.length e) (by omega); done))
    | (refine Q4 rfl ?_ -- Q1l c0
       all_goals refine zsk ?_)
  all_goals (refine Q0 ?_; refine Q0 ?_; refine Q1 ?_; refine zm ?_; refine zn ?_; refine Q8 ?_)
  refine zoL hS [2, 3] (fun A LL ρ' w' => ∃ (j : Nat), Has ρ' A ∧ Has ρ' [(5, .int .i64 j)] ∧ (j ≤ l.length) ∧ (l.length = m.length) ∧ (l = m ↔ l.drop j = m.drop j) ∧ St cx w' (LL)) (fun ρ' _ => (l.length - iv (ρ' 5)).toNat) ?_ ?_
  · exact ⟨0, zh, zh, (by omega), (by omega), by simp, hS.sp⟩
  rintro ρ w1 ⟨j, hA, hρ, hj, hlm, hd, hS⟩; obtain ⟨ρ, rfl⟩ := env2 hA hρ
  unfold Q7x
  all_goals (refine Q0 ?_; refine Q0 ?_; refine Q1 ?_; refine zm ?_; refine Q2 rfl ?_; refine zl hS ?_; refine zL ?_; refine Qt rfl rfl ?_; refine zn ?_)
  refine Qm rfl (fun hc => ?_) (fun hc => ?_)
  · skip
    all_goals (refine zsk ?_; refine Q0 ?_; refine Q8 ?_; refine Q0 ?_)
    refine Q2K 10 11 (by kernel_rfl) ?_ ?_
    · skip
      all_goals (refine zC [(0, none), (1, none), (2, none), (3, none), (4, none), (5, none), (6, none), (7, none), (8, none), (9, none), (10, some (some [1, 4, 6, 9])), (11, some (some [1, 4, 6, 9])), (12, some (some [6, 9])), (13, some none)] ?_; have hS := hS.drew; refine s_cq ?_; refine Q2 rfl ?_; refine zt ?_; refine s_cq ?_; refine zl hS ?_; refine zt ?_; refine s_cq ?_; refine zm ?_; refine zt ?_; refine s_cq ?_; refine zi ?_; intro b1 o1 cs1 x1 hat1 hx1 he1; obtain ⟨vp1, vr1, vb1, rfl, hp1, hr1, hb1⟩ := Q1t he1; refine zt ?_; refine s_cq ?_; (first | (refine zv hS ?_) | (refine zvk hS ?_)); refine zt ?_; refine s_cq ?_; refine Q2 rfl ?_; refine zt ?_; refine s_cq ?_; refine zl hS ?_; refine zt ?_; refine s_cq ?_; refine zm ?_; refine zt ?_; refine s_cq ?_; refine zi ?_; intro b2 o2 cs2 x2 hat2 hx2 he2; obtain ⟨vp2, vr2, vb2, rfl, hp2, hr2, hb2⟩ := Q1t he2; refine zt ?_; refine s_cq ?_; (first | (refine zv hS ?_) | (refine zvk hS ?_)); refine zt ?_; refine Ql ?_; refine Qb hS ?_; intro p6 w1 hS; refine zt ?_; refine zy ?_; refine Ql ?_; refine Qb hS ?_; intro p7 w1 hS; refine zt ?_; refine zy ?_; refine Ql ?_; refine zsn hS ?_; intro w1 hS; have hS := hS.ns)
      all_goals (refine zt ?_; refine zy ?_; refine s_cf ?_; refine zsn hS ?_; intro w1 hS; have hS := hS.ns; refine zt ?_; refine zcn ?_; refine Q0 ?_; refine Q0 ?_; refine Q1 ?_; refine Q2 rfl ?_; refine zl hS ?_; refine Q2 rfl ?_; refine zl hS ?_)
      all_goals (first | (refine Q1c ?_) | (refine Q1d ?_) | (refine Qp rfl rfl (fun hc => ?_) (fun hc => ?_)))
      all_goals (refine zm ?_; (first | refine s_gn rfl rfl ?_ | (refine s_gy rfl ?_; refine Q2 rfl ?_)); (first | refine s_gn rfl rfl ?_ | (refine s_gy rfl ?_; refine zl hS ?_)); (first | refine s_gn rfl rfl ?_ | (refine s_gy rfl ?_; refine Q2 rfl ?_)); (first | refine s_gn rfl rfl ?_ | (refine s_gy rfl ?_; refine zl hS ?_)))
      all_goals ((first | (refine s_gn rfl rfl ?_) | (refine s_gy rfl ?_; refine zR2 (c := Q7F (l := x1.params) (m := x2.params) hp1 hp2 hS) (h := ?_); rintro v1 w1 ⟨rfl, hS⟩; (cases hdec : decide (x1.params = x2.params)); have hg := of_decide_eq_false hdec; rotate_left; have hg := of_decide_eq_true hdec; all_goals skip)))
      all_goals ((first | refine s_gn rfl rfl ?_ | (refine s_gy rfl ?_; refine Q2b rfl ?_)); (first | (refine zpt ?_) | (refine zpf ?_)); refine zm ?_; (first | refine s_gn rfl rfl ?_ | (refine s_gy rfl ?_; refine Q2 rfl ?_)); (first | refine s_gn rfl rfl ?_ | (refine s_gy rfl ?_; refine zl hS ?_)); (first | refine s_gn rfl rfl ?_ | (refine s_gy rfl ?_; refine Q2 rfl ?_)); (first | refine s_gn rfl rfl ?_ | (refine s_gy rfl ?_; refine zl hS ?_)))
      all_goals ((first | (refine s_gn rfl rfl ?_) | (refine s_gy rfl ?_; refine zR2 (c := Q7F (l := x1.results) (m := x2.results) hr1 hr2 hS) (h := ?_); rintro v1 w1 ⟨rfl, hS⟩; (cases hdec : decide (x1.results = x2.results)); have hg := of_decide_eq_false hdec; rotate_left; have hg := of_decide_eq_true hdec; all_goals skip)))
      all_goals ((first | refine s_gn rfl rfl ?_ | (refine s_gy rfl ?_; refine Q2b rfl ?_)); (first | (refine zpt ?_) | (refine zpf ?_)); refine zm ?_; (first | refine s_gn rfl rfl ?_ | (refine s_gy rfl ?_; refine Q2 rfl ?_)); (first | refine s_gn rfl rfl ?_ | (refine s_gy rfl ?_; refine zl hS ?_)); (first | refine s_gn rfl rfl ?_ | (refine s_gy rfl ?_; refine zL ?_)); (first | refine s_gn rfl rfl ?_ | (refine s_gy rfl ?_; refine Q2 rfl ?_)); (first | refine s_gn rfl rfl ?_ | (refine s_gy rfl ?_; refine zl hS ?_)); (first | refine s_gn rfl rfl ?_ | (refine s_gy rfl ?_; refine zL ?_)))
      all_goals (first | refine s_gn rfl rfl ?_ | (refine s_gy rfl ?_; (first | (refine Q1c ?_) | (refine Q1d ?_) | (refine Qp rfl rfl (fun hc => ?_) (fun hc => ?_)))))
      all_goals ((first | (refine zpt ?_) | (refine zpf ?_)); refine zn ?_)
      all_goals
        first
        | (refine Q3 rfl ?_ -- Q1l c2
           all_goals (refine Q0 ?_; refine Q1 ?_; refine zm ?_; refine zn ?_; refine zr ?_; refine zf ?_)
           all_goals (first | (refine ⟨_, rfl, ?_, hS.sp⟩; rw [decide_eq_false]; exact fun e => absurd (congrArg List.length e) (by omega); done) | (refine ⟨_, rfl, ?_, hS.sp⟩; (rw [decide_eq_false]; rw [hd, Q7 hx1, Q7 hx2, List.cons.injEq]; rintro ⟨rfl, _⟩; first | (simp_all; done) | (simp at *; omega)); done)))
        | (refine Q4 rfl ?_ -- Q1l c2
           all_goals refine zsk ?_)
      all_goals (refine Q0 ?_; have hlb := hb1.len; refine Q1 ?_; refine zm ?_; refine zn ?_; refine Q8 ?_)
      refine zoL hS [2, 3, 5, 6, 7] (fun A LL ρ' w' => ∃ (i : Nat), Has ρ' A ∧ Has ρ' [(8, .int .i64 i)] ∧ (i ≤ x1.blocks.length) ∧ (x1.blocks.length = x2.blocks.length) ∧ (x1.regs = x2.regs) ∧ (x1.params = x2.params) ∧ (x1.results = x2.results) ∧ (x1.blocks = x2.blocks ↔ x1.blocks.drop i = x2.blocks.drop i) ∧ St cx w' (LL)) (fun ρ' _ => (x1.blocks.length - iv (ρ' 8)).toNat) ?_ ?_
      · exact ⟨0, zh, zh, (by omega), (by omega), (by omega), by assumption, by assumption, by simp, hS.sp⟩
      rintro ρ w1 ⟨i, hA, hρ, hi, hlb2, hre, hpe, hrr, hd2, hS⟩; obtain ⟨ρ, rfl⟩ := env2 hA hρ
      unfold Q4e
      all_goals (refine Q0 ?_; refine Q0 ?_; refine Q1 ?_; refine zm ?_; refine Q2 rfl ?_; refine zl hS ?_; refine zL ?_; refine Qt rfl rfl ?_; refine zn ?_)
      refine Qm rfl (fun hc => ?_) (fun hc => ?_)
      · skip
        all_goals (refine zsk ?_; refine Q0 ?_; refine Q8 ?_; refine Q0 ?_; refine zD [(0, none), (1, none), (2, none), (3, none), (4, none), (5, none), (6, none), (7, none), (8, none), (9, none), (10, some none), (11, some none)] ?_; have hS := hS.drew; refine Q2 rfl ?_; refine zl hS ?_; refine zm ?_; refine zi ?_; intro b3 o3 cs3 x3 hat3 hx3 he3; obtain ⟨vp3, vc3, ve31, ve32, ve33, ve34, ve35, rfl, hp3, hc3, he31, he32, he33, he34, he35⟩ := Q1w he3; (first | (refine zv hS ?_) | (refine zvk hS ?_)); refine Q2 rfl ?_; refine zl hS ?_; refine zm ?_; refine zi ?_; intro b4 o4 cs4 x4 hat4 hx4 he4; obtain ⟨vp4, vc4, ve41, ve42, ve43, ve44, ve45, rfl, hp4, hc4, he41, he42, he43, he44, he45⟩ := Q1w he4; (first | (refine zv hS ?_) | (refine zvk hS ?_)))
        all_goals (refine zR2 (c := QlZ he3 he4 hS) (h := ?_); rintro v1 w1 ⟨rfl, hS⟩; (cases hdec : decide (x3 = x4)); have hg := of_decide_eq_false hdec; rotate_left; have hg := of_decide_eq_true hdec; all_goals skip)
        all_goals (refine Q2b rfl ?_; refine zn ?_)
        all_goals
          first
          | (refine Q3 rfl ?_ -- Q1l c4
             all_goals (refine Q0 ?_; refine Q1 ?_; refine zm ?_; refine zn ?_; refine zr ?_; refine zf ?_)
             all_goals (first | (refine ⟨_, rfl, ?_, hS.sp⟩; rw [decide_eq_false]; exact fun e => absurd (congrArg List.length e) (by omega); done) | (refine ⟨_, rfl, ?_, hS.sp⟩; (rw [decide_eq_false]; rw [hd, Q7 hx1, Q7 hx2, List.cons.injEq]; rintro ⟨rfl, _⟩; first | (simp_all; done) | (simp at *; omega)); done)))
          | (refine Q4 rfl ?_ -- Q1l c4
             all_goals refine zsk ?_)
        all_goals (refine Q1 ?_; refine zm ?_; refine zad ?_; refine zm ?_; refine zn ?_; exact ⟨⟨i + 1, zh, zh, (by omega), (by omega), (by omega), by assumption, by assumption, by rw [hd2, Q7 hx3, Q7 hx4, hg]; simp, hS.sp⟩, Qh (by omega)⟩)
      · skip
        all_goals (refine zex ?_; refine Q1 ?_; refine zm ?_; refine zad ?_; refine zm ?_; refine zn ?_; exact ⟨⟨j + 1, zh, zh, (by omega), (by omega), by rw [hd, Q7 hx1, Q7 hx2, Fun.eq_of hre hpe hrr (by rw [hd2, List.drop_of_length_le (by omega), List.drop_of_length_le (by omega)])]; simp, hS.sp⟩, Qh (by omega)⟩)
    · skip
      all_goals (refine zC [(0, none), (1, none), (2, none), (3, none), (4, none), (5, none), (6, none), (7, none), (8, none), (9, none), (11, some (some [1, 4, 6, 9])), (10, some (some [1, 4, 6, 9])), (12, some (some [6, 9])), (13, some none)] ?_; have hS := hS.drew; refine s_cq ?_; refine Q2 rfl ?_; refine zt ?_; refine s_cq ?_; refine zl hS ?_; refine zt ?_; refine s_cq ?_; refine zm ?_; refine zt ?_; refine s_cq ?_; refine zi ?_; intro b1 o1 cs1 x1 hat1 hx1 he1; obtain ⟨vp1, vr1, vb1, rfl, hp1, hr1, hb1⟩ := Q1t he1; refine zt ?_; refine s_cq ?_; (first | (refine zv hS ?_) | (refine zvk hS ?_)); refine zt ?_; refine s_cq ?_; refine Q2 rfl ?_; refine zt ?_; refine s_cq ?_; refine zl hS ?_; refine zt ?_; refine s_cq ?_; refine zm ?_; refine zt ?_; refine s_cq ?_; refine zi ?_; intro b2 o2 cs2 x2 hat2 hx2 he2; obtain ⟨vp2, vr2, vb2, rfl, hp2, hr2, hb2⟩ := Q1t he2; refine zt ?_; refine s_cq ?_; (first | (refine zv hS ?_) | (refine zvk hS ?_)); refine zt ?_; refine Ql ?_; refine Qb hS ?_; intro p7 w1 hS; refine zt ?_; refine zy ?_; refine Ql ?_; refine Qb hS ?_; intro p6 w1 hS; refine zt ?_; refine zy ?_; refine Ql ?_; refine zsn hS ?_; intro w1 hS; have hS := hS.ns)
      all_goals (refine zt ?_; refine zy ?_; refine s_cf ?_; refine zsn hS ?_; intro w1 hS; have hS := hS.ns; refine zt ?_; refine zcn ?_; refine Q0 ?_; refine Q0 ?_; refine Q1 ?_; refine Q2 rfl ?_; refine zl hS ?_; refine Q2 rfl ?_; refine zl hS ?_)
      all_goals (first | (refine Q1c ?_) | (refine Q1d ?_) | (refine Qp rfl rfl (fun hc => ?_) (fun hc => ?_)))
      all_goals (refine zm ?_; (first | refine s_gn rfl rfl ?_ | (refine s_gy rfl ?_; refine Q2 rfl ?_)); (first | refine s_gn rfl rfl ?_ | (refine s_gy rfl ?_; refine zl hS ?_)); (first | refine s_gn rfl rfl ?_ | (refine s_gy rfl ?_; refine Q2 rfl ?_)); (first | refine s_gn rfl rfl ?_ | (refine s_gy rfl ?_; refine zl hS ?_)))
      all_goals ((first | (refine s_gn rfl rfl ?_) | (refine s_gy rfl ?_; refine zR2 (c := Q7F (l := x1.params) (m := x2.params) hp1 hp2 hS) (h := ?_); rintro v1 w1 ⟨rfl, hS⟩; (cases hdec : decide (x1.params = x2.params)); have hg := of_decide_eq_false hdec; rotate_left; have hg := of_decide_eq_true hdec; all_goals skip)))
      all_goals ((first | refine s_gn rfl rfl ?_ | (refine s_gy rfl ?_; refine Q2b rfl ?_)); (first | (refine zpt ?_) | (refine zpf ?_)); refine zm ?_; (first | refine s_gn rfl rfl ?_ | (refine s_gy rfl ?_; refine Q2 rfl ?_)); (first | refine s_gn rfl rfl ?_ | (refine s_gy rfl ?_; refine zl hS ?_)); (first | refine s_gn rfl rfl ?_ | (refine s_gy rfl ?_; refine Q2 rfl ?_)); (first | refine s_gn rfl rfl ?_ | (refine s_gy rfl ?_; refine zl hS ?_)))
      all_goals ((first | (refine s_gn rfl rfl ?_) | (refine s_gy rfl ?_; refine zR2 (c := Q7F (l := x1.results) (m := x2.results) hr1 hr2 hS) (h := ?_); rintro v1 w1 ⟨rfl, hS⟩; (cases hdec : decide (x1.results = x2.results)); have hg := of_decide_eq_false hdec; rotate_left; have hg := of_decide_eq_true hdec; all_goals skip)))
      all_goals ((first | refine s_gn rfl rfl ?_ | (refine s_gy rfl ?_; refine Q2b rfl ?_)); (first | (refine zpt ?_) | (refine zpf ?_)); refine zm ?_; (first | refine s_gn rfl rfl ?_ | (refine s_gy rfl ?_; refine Q2 rfl ?_)); (first | refine s_gn rfl rfl ?_ | (refine s_gy rfl ?_; refine zl hS ?_)); (first | refine s_gn rfl rfl ?_ | (refine s_gy rfl ?_; refine zL ?_)); (first | refine s_gn rfl rfl ?_ | (refine s_gy rfl ?_; refine Q2 rfl ?_)); (first | refine s_gn rfl rfl ?_ | (refine s_gy rfl ?_; refine zl hS ?_)); (first | refine s_gn rfl rfl ?_ | (refine s_gy rfl ?_; refine zL ?_)))
      all_goals (first | refine s_gn rfl rfl ?_ | (refine s_gy rfl ?_; (first | (refine Q1c ?_) | (refine Q1d ?_) | (refine Qp rfl rfl (fun hc => ?_) (fun hc => ?_)))))
      all_goals ((first | (refine zpt ?_) | (refine zpf ?_)); refine zn ?_)
      all_goals
        first
        | (refine Q3 rfl ?_ -- Q1l c2
           all_goals (refine Q0 ?_; refine Q1 ?_; refine zm ?_; refine zn ?_; refine zr ?_; refine zf ?_)
           all_goals (first | (refine ⟨_, rfl, ?_, hS.sp⟩; rw [decide_eq_false]; exact fun e => absurd (congrArg List.length e) (by omega); done) | (refine ⟨_, rfl, ?_, hS.sp⟩; (rw [decide_eq_false]; rw [hd, Q7 hx1, Q7 hx2, List.cons.injEq]; rintro ⟨rfl, _⟩; first | (simp_all; done) | (simp at *; omega)); done)))
        | (refine Q4 rfl ?_ -- Q1l c2
           all_goals refine zsk ?_)
      all_goals (refine Q0 ?_; have hlb := hb1.len; refine Q1 ?_; refine zm ?_; refine zn ?_; refine Q8 ?_)
      refine zoL hS [2, 3, 5, 6, 7] (fun A LL ρ' w' => ∃ (i : Nat), Has ρ' A ∧ Has ρ' [(8, .int .i64 i)] ∧ (i ≤ x1.blocks.length) ∧ (x1.blocks.length = x2.blocks.length) ∧ (x1.regs = x2.regs) ∧ (x1.params = x2.params) ∧ (x1.results = x2.results) ∧ (x1.blocks = x2.blocks ↔ x1.blocks.drop i = x2.blocks.drop i) ∧ St cx w' (LL)) (fun ρ' _ => (x1.blocks.length - iv (ρ' 8)).toNat) ?_ ?_
      · exact ⟨0, zh, zh, (by omega), (by omega), (by omega), by assumption, by assumption, by simp, hS.sp⟩
      rintro ρ w1 ⟨i, hA, hρ, hi, hlb2, hre, hpe, hrr, hd2, hS⟩; obtain ⟨ρ, rfl⟩ := env2 hA hρ
      unfold Q4e
      all_goals (refine Q0 ?_; refine Q0 ?_; refine Q1 ?_; refine zm ?_; refine Q2 rfl ?_; refine zl hS ?_; refine zL ?_; refine Qt rfl rfl ?_; refine zn ?_)
      refine Qm rfl (fun hc => ?_) (fun hc => ?_)
      · skip
        all_goals (refine zsk ?_; refine Q0 ?_; refine Q8 ?_; refine Q0 ?_; refine zD [(0, none), (1, none), (2, none), (3, none), (4, none), (5, none), (6, none), (7, none), (8, none), (9, none), (10, some none), (11, some none)] ?_; have hS := hS.drew; refine Q2 rfl ?_; refine zl hS ?_; refine zm ?_; refine zi ?_; intro b3 o3 cs3 x3 hat3 hx3 he3; obtain ⟨vp3, vc3, ve31, ve32, ve33, ve34, ve35, rfl, hp3, hc3, he31, he32, he33, he34, he35⟩ := Q1w he3; (first | (refine zv hS ?_) | (refine zvk hS ?_)); refine Q2 rfl ?_; refine zl hS ?_; refine zm ?_; refine zi ?_; intro b4 o4 cs4 x4 hat4 hx4 he4; obtain ⟨vp4, vc4, ve41, ve42, ve43, ve44, ve45, rfl, hp4, hc4, he41, he42, he43, he44, he45⟩ := Q1w he4; (first | (refine zv hS ?_) | (refine zvk hS ?_)))
        all_goals (refine zR2 (c := QlZ he3 he4 hS) (h := ?_); rintro v1 w1 ⟨rfl, hS⟩; (cases hdec : decide (x3 = x4)); have hg := of_decide_eq_false hdec; rotate_left; have hg := of_decide_eq_true hdec; all_goals skip)
        all_goals (refine Q2b rfl ?_; refine zn ?_)
        all_goals
          first
          | (refine Q3 rfl ?_ -- Q1l c4
             all_goals (refine Q0 ?_; refine Q1 ?_; refine zm ?_; refine zn ?_; refine zr ?_; refine zf ?_)
             all_goals (first | (refine ⟨_, rfl, ?_, hS.sp⟩; rw [decide_eq_false]; exact fun e => absurd (congrArg List.length e) (by omega); done) | (refine ⟨_, rfl, ?_, hS.sp⟩; (rw [decide_eq_false]; rw [hd, Q7 hx1, Q7 hx2, List.cons.injEq]; rintro ⟨rfl, _⟩; first | (simp_all; done) | (simp at *; omega)); done)))
          | (refine Q4 rfl ?_ -- Q1l c4
             all_goals refine zsk ?_)
        all_goals (refine Q1 ?_; refine zm ?_; refine zad ?_; refine zm ?_; refine zn ?_; exact ⟨⟨i + 1, zh, zh, (by omega), (by omega), (by omega), by assumption, by assumption, by rw [hd2, Q7 hx3, Q7 hx4, hg]; simp, hS.sp⟩, Qh (by omega)⟩)
      · skip
        all_goals (refine zex ?_; refine Q1 ?_; refine zm ?_; refine zad ?_; refine zm ?_; refine zn ?_; exact ⟨⟨j + 1, zh, zh, (by omega), (by omega), by rw [hd, Q7 hx1, Q7 hx2, Fun.eq_of hre hpe hrr (by rw [hd2, List.drop_of_length_le (by omega), List.drop_of_length_le (by omega)])]; simp, hS.sp⟩, Qh (by omega)⟩)
  · skip
    all_goals (refine zex ?_; refine Q0 ?_; refine Q1 ?_; refine zm ?_; refine zn ?_; refine zr ?_; refine zf ?_)
    all_goals (first | (refine ⟨_, rfl, ?_, hS.sp⟩; rw [decide_eq_false]; exact fun e => absurd (congrArg List.length e) (by omega); done) | (refine ⟨_, rfl, ?_, hS.sp⟩; (rw [decide_eq_false]; rw [hd, Q7 hx1, Q7 hx2, List.cons.injEq]; rintro ⟨rfl, _⟩; first | (simp_all; done) | (simp at *; omega)); done) | (refine ⟨_, rfl, ?_, hS.sp⟩; rw [decide_eq_false]; rw [hd, Q7 hx1, Q7 hx2, List.cons.injEq]; rintro ⟨rfl, _⟩; rw [hx3] at hx4; cases hx4; exact hg rfl; done) | (refine ⟨_, rfl, ?_, hS.sp⟩; rw [decide_eq_true]; rw [hd, List.drop_of_length_le (by omega), List.drop_of_length_le (by omega)]; done))
end Go.Proofs.YtanlkfeogoganaaGreat
namespace Go.Proofs.YtanlkfeogoganaaGreat
open Go.Lir
set_option maxHeartbeats 1000000
attribute [local irreducible] LC.wp Q5 QN Q11 retQ Q1T LO.wp Qr Calls
set_option linter.unusedSimpArgs false
set_option linter.unusedVariables false
variable {cx : Cx} {w : World} {L : List Res} {i : Nat}
def Qv9 : Block := ⟨0, [], [], ⟨3, 0, ⟨0, [], []⟩, ⟨0, [], []⟩, []⟩⟩
def leastM : Module := ⟨[⟨0, [], [], [Qv9]⟩]⟩
abbrev Qm0 (vc : Value) : List Value := [.int .i64 0, .slice none 0 0, vc, .int .i64 3, .int .i64 0, .int .i64 0, .slice none 0 0, .slice none 0 0, .int .i64 0, .slice none 0 0, .slice none 0 0, .slice none 0 0]
theorem Qtd : Int2 Tryz.prog 30 := int2_of (by kernel_rfl)
theorem least_c (hS : St cx w L) : Rets Tryz.prog QrE [] w fun u w' => ∃ a b, u = .agg ⟨[.slice (some ⟨a, 0, none⟩) 1 1]⟩ ∧ St cx w' (blk a 53 [.int .i64 0, .slice none 0 0, .slice none 0 0, .slice (some ⟨b, 0, none⟩) 1 1] :: blk b 79 (Qm0 (.slice none 0 0)) :: L) := by
  all_goals refine QrD ?_
  all_goals (unfold Law_least_lc; refine Q0 ?_; refine Q1 ?_; refine Qb hS ?_; intro p0 w1 hS; refine zn ?_; refine Q0 ?_; refine Q1 ?_; refine zb1 [_, _, _, _, _, _, _, _, _] ?_; refine zb1 [_, _, _, _, _, _, _, _, _, _, _, _] ?_; refine Qgo (cs := [_, _, _, _, _, _, _, _, _, _, _, _]) vw (by rfl) ?_; intro q1 w1 hb1 hf1 _ hk1; have hS := hS.laid hb1 hf1 hk1; refine zb1 [_, _, _, _] ?_; refine Qgo (cs := [_, _, _, _]) vw (by rfl) ?_; intro q2 w1 hb1 hf1 _ hk1; have hS := hS.laid hb1 hf1 hk1; refine zb1 [_] ?_; refine zsn hS ?_; intro w1 hS; have hS := hS.ns; refine zn ?_; refine zr ?_; refine Q20 vw (Q9 (n := 1) (by kernel_rfl) (by kernel_rfl) (hS.blkAt fd) (by rfl) (by rfl)) ?_; exact ⟨_, rfl, q2, q1, rfl, hS.sp⟩)
/-- Such a module, from now on only read. -/
theorem least_fz {a b : Nat} {code : List Ins} {vc : Value} (hk : insR.sl cx vc code) (hS : St cx w (blk a 53 [.int .i64 0, .slice none 0 0, .slice none 0 0, .slice (some ⟨b, 0, none⟩) 1 1] :: blk b 79 (Qm0 vc) :: L)) :
    ∃ c', cx.Le c' ∧ St c' w L ∧ modR.at c' [.slice (some ⟨a, 0, none⟩) 1 1] ⟨[⟨0, [], [], [⟨0, [], code, ⟨3, 0, ⟨0, [], []⟩, ⟨0, [], []⟩, []⟩⟩]⟩]⟩ := by
  have n1 : ∀ c : Cx, intR.sl c (.slice none 0 0) [] := fun c => Rep.SR.nil _ _ _
  have n2 : ∀ c : Cx, tyR.sl c (.slice none 0 0) [] := fun c => Rep.SR.nil _ _ _
  obtain ⟨c1, hle1, hS, h1⟩ := St.freeze1 (r := blockR) (x := ⟨0, [], code, ⟨3, 0, ⟨0, [], []⟩, ⟨0, [], []⟩, []⟩⟩) hS.mv1 (Q2R (x := ⟨0, [], code, ⟨3, 0, ⟨0, [], []⟩, ⟨0, [], []⟩, []⟩⟩) (n2 _) hk (n1 _) (n1 _) (n1 _) (n1 _) (n1 _))
  obtain ⟨c2, hle2, hS, h2⟩ := St.freeze1 (r := funcR) (x := ⟨0, [], [], [⟨0, [], code, ⟨3, 0, ⟨0, [], []⟩, ⟨0, [], []⟩, []⟩⟩]⟩) hS ⟨_, _, _, rfl, n2 _, n2 _, h1⟩
  exact ⟨c2, hle1.trans hle2, hS, _, rfl, h2⟩
end Go.Proofs.YtanlkfeogoganaaGreat
namespace Go.Proofs.YtanlkfeogoganaaGreat
open Go.Lir
theorem Qs2 : leastM.fault = (0, 0) := by decide
theorem QpX : leastM.body.length = 13 := by decide +kernel
theorem least_3 : leastM.enc[3]? = some 2 := by decide +kernel
theorem sum9 : Q3B [49, 50, 51, 52, 53, 54, 55, 56, 57] = 3421780262#32 := by decide +kernel
theorem Qs1 : leastM.Short := by
  refine ⟨by decide, fun f hf => ?_⟩
  simp [leastM] at hf; subst hf
  refine ⟨⟨by decide, by simp⟩, ⟨by decide, by simp⟩, by decide, fun b hb => ?_⟩
  simp [Qv9] at hb; subst hb
  exact ⟨⟨by decide, by simp⟩, by decide, by simp, ⟨by decide, by decide⟩, ⟨by decide, by decide⟩, by decide⟩
theorem Qv7 : leastM.Few := by
  refine ⟨by decide, fun f hf => ?_⟩
  simp [leastM] at hf; subst hf
  refine ⟨by decide, by decide, by decide, fun b hb => ?_⟩
  simp [Qv9] at hb; subst hb
  exact ⟨by decide, by decide, by simp, ⟨by decide, by decide⟩, ⟨by decide, by decide⟩, by decide⟩
end Go.Proofs.YtanlkfeogoganaaGreat
namespace Go.Proofs.YtanlkfeogoganaaGreat
open Go.Lir
set_option maxHeartbeats 1000000
attribute [local irreducible] LC.wp Q5 QN Q11 retQ Q1T LO.wp Qr Calls
set_option linter.unusedSimpArgs false
set_option linter.unusedVariables false
attribute [local irreducible] bitI IntKind.wrap Q3n rdLong rdMany Q14 mmap Q3U Q3B Module.fault Lir.decode sumB Module.enc Module.body
variable {cx : Cx} {w : World} {L : List Res}
theorem Qv8 {cs : List Value} (hx : modR.at cx cs leastM) (hS : St cx w L) : Rets Tryz.prog Q2c [.agg ⟨cs⟩] w fun u w' =>
    ∃ v, u = .tuple #[v, fltV (0, 0)] ∧ oneC v = true ∧ St cx w' (sl 5 1 v (leastM.enc.map QB) :: L) := by
  refine Rets.mono (Qtf Qv7 Qs1 hx hS) ?_
  rintro u w' (⟨h, _⟩ | ⟨_, h, _⟩ | ⟨_, _, h⟩)
  · exact absurd (by rw [Qs2]) h
  · rw [QpX] at h; omega
  · exact h
def nine : List UInt8 := [49, 50, 51, 52, 53, 54, 55, 56, 57]
theorem Qqh (hS : St cx w L) : Rets Tryz.prog Q8X [] w fun u w' => u = .bool true ∧ St cx w' L := by
  have n0 : ∀ c : Cx, insR.sl c (.slice none 0 0) [] := fun c => Rep.SR.nil _ _ _
  have m0 : ∀ c : Cx, u8R.sl c (.slice none 0 0) [] := fun c => Rep.SR.nil _ _ _
  have el : leastM.enc.length = 17 := by rw [Qvl, QpX]
  have e3 := least_3
  have e0 : Lir.decode [] = .error (5, 0) := Q1N (by decide)
  all_goals refine Qdy ?_
  all_goals (unfold Law_codecBegun_lc; refine Q0 ?_; refine Q1 ?_; refine zm ?_; refine zn ?_; refine Q0 ?_; refine Q1 ?_; refine zR0 (c := least_c hS) (h := ?_); rintro v1 w1 ⟨la, lb, rfl, hS⟩; obtain ⟨c1, hle1, hS, hm1⟩ := least_fz (n0 _) hS; refine zR1 (c := Qv8 hm1 hS) (h := ?_); rintro v1 w1 ⟨ve, rfl, hve, hS⟩; unfold fltV; obtain ⟨c2, hle2, hS2, hk2⟩ := St.freezeL (r := u8R) hS (Qa _) rfl (by omega); clear hS; obtain ⟨ae, ne, e9⟩ := Rep.SR.shape hk2; rw [el] at e9; subst e9; have hS := hS2; refine zm ?_; refine Q4N rfl rfl ?_; refine Q4N rfl rfl ?_; refine Qb hS ?_; intro p2 w1 hS; refine zm ?_; refine zsn hS ?_; intro w1 hS; have hS := hS.ns; refine zn ?_; refine Q0 ?_; refine Q1 ?_)
  all_goals (refine zR1 (c := Qth (m0 _) hS) (h := ?_); rintro v1 w1 (⟨e, h5, rfl, hS⟩ | ⟨m, c', vf, h5, rfl, _, hm2, hS⟩); rotate_left; (cases e0.symm.trans h5); obtain rfl := Except.error.inj (e0.symm.trans h5); unfold fltV)
  all_goals (refine zm ?_; refine Q4N rfl rfl ?_; refine Q4N rfl rfl ?_; refine Qb hS ?_; intro p3 w1 hS; refine Qb hS ?_; intro p4 w1 hS; refine zsn hS ?_; intro w1 hS; have hS := hS.ns; refine zsn hS ?_; intro w1 hS; have hS := hS.ns; refine zn ?_; refine Q0 ?_; refine Q1 ?_; refine Q2 rfl ?_; refine zl hS ?_)
  all_goals (refine Qy ?_)
  all_goals (refine zm ?_; (first | refine s_gn rfl rfl ?_ | (refine s_gy rfl ?_; refine zm ?_)); (first | refine s_gn rfl rfl ?_ | (refine s_gy rfl ?_; refine zL ?_)))
  all_goals (first | refine s_gn rfl rfl ?_ | (refine s_gy rfl ?_; refine Qy ?_))
  all_goals (refine zpt ?_; refine zm ?_; (first | refine s_gn rfl rfl ?_ | (refine s_gy rfl ?_; refine zm ?_)); (first | refine s_gn rfl rfl ?_ | (refine s_gy rfl ?_; refine Q44 (m := 3) vw rfl hk2 rfl (by omega) ?_; intro b8 o8 cs8 x8 hat8 hx8 he8; obtain rfl : x8 = 2 := Option.some.inj (hx8.symm.trans e3); obtain rfl := Q35 he8)); (first | refine s_gn rfl rfl ?_ | (refine s_gy rfl ?_; (first | (refine zl hS ?_) | (refine zlk hS ?_)))))
  all_goals (first | refine s_gn rfl rfl ?_ | (refine s_gy rfl ?_; (first | (refine Qy ?_) | (refine QC ?_) | (refine Qn rfl rfl (fun hc => ?_) (fun hc => ?_)))))
  all_goals (refine zpt ?_; refine zm ?_; (first | refine s_gn rfl rfl ?_ | (refine s_gy rfl ?_; refine Q2 rfl ?_)); (first | refine s_gn rfl rfl ?_ | (refine s_gy rfl ?_; refine zl hS ?_)))
  all_goals (first | refine s_gn rfl rfl ?_ | (refine s_gy rfl ?_; refine Qy ?_))
  all_goals ((first | (refine zpt ?_) | (refine zpf ?_)); refine zm ?_; (first | refine s_gn rfl rfl ?_ | (refine s_gy rfl ?_; refine zB9 hS [_, _, _, _, _, _, _, _, _] ?_; intro b1 w1 hS)); (first | (refine s_gn rfl rfl ?_) | (refine s_gy rfl ?_; refine QlX (e := 5) (by kernel_rfl) (by kernel_rfl) hS vw ?_; intro w9 hS; have hS := St.slOf (es := 1) (n := 9) (css := nine.map QB) hS rfl (by simp [QB]) rfl; obtain ⟨c3, hle3, hS, hk3⟩ := St.freezeL (r := u8R) hS (Qa _) rfl (by decide))); (first | (refine s_gn rfl rfl ?_) | (refine s_gy rfl ?_; refine zR1 (c := sum_c hk3 hS) (h := ?_); rintro v1 w1 ⟨rfl, hS⟩; rw [show Q3B nine = 3421780262#32 from sum9])))
  all_goals (first | refine s_gn rfl rfl ?_ | (refine s_gy rfl ?_; (first | (refine Qy ?_) | (refine QC ?_) | (refine Qn rfl rfl (fun hc => ?_) (fun hc => ?_)))))
  all_goals ((first | (refine zpt ?_) | (refine zpf ?_)); refine zm ?_; refine zn ?_; refine zr ?_; refine zf ?_; (first | (exfalso; exact hc (by decide)) | exact ⟨_, rfl, rfl, St.weak hS.sp (hle1.trans (hle2.trans hle3))⟩))
end Go.Proofs.YtanlkfeogoganaaGreat
namespace Go.Proofs.YtanlkfeogoganaaGreat
open Go.Lir
set_option maxHeartbeats 1000000
attribute [local irreducible] LC.wp Q5 QN Q11 retQ Q1T LO.wp Qr Calls
set_option linter.unusedSimpArgs false
set_option linter.unusedVariables false
theorem QtH {x : Module} {cx : Cx} {w : World} {L : List Res} {cs : List Value} (hx : modR.at cx cs x) (hS : St cx w L) : Rets Tryz.prog Q1q [.agg ⟨cs⟩] w fun u w' => ∃ b, u = .bool b ∧ (b = false → x.Few) ∧ St cx w' L := by
  obtain ⟨vf, rfl, hl⟩ := Q2l hx
  obtain ⟨l⟩ := x
  have hl : funcR.sl cx vf l := hl
  have hlen := hl.len
  all_goals refine QfB ?_
  all_goals (unfold R_GreatModule_lc; refine Q0 ?_; refine Q1 ?_; refine zb hS ?_; intro p1 w1 hS; refine zm ?_; refine zn ?_; refine Q0 ?_; refine Q0 ?_; refine Q1 ?_; refine Q2 rfl ?_; refine zl hS ?_; refine zL ?_)
  all_goals (first | (refine QK ?_) | (refine QM ?_) | (refine Qi rfl rfl (fun hc => ?_) (fun hc => ?_)))
  all_goals (refine zn ?_)
  all_goals
    first
    | (refine Q3 rfl ?_ -- Q1q c0
       all_goals (refine Q0 ?_; refine Q1 ?_; refine zm ?_; refine zn ?_; refine zr ?_; refine zf ?_)
       all_goals (exact ⟨_, rfl, true, rfl, fun h => Bool.noConfusion h, hS.sp⟩))
    | (refine Q4 rfl ?_ -- Q1q c0
       all_goals refine zsk ?_)
  all_goals (refine Q0 ?_; refine Q0 ?_; refine Q1 ?_; refine zm ?_; refine zn ?_; refine Q8 ?_)
  refine zoL hS [1] (fun A LL ρ' w' => ∃ (j : Nat), Has ρ' A ∧ Has ρ' [(3, .int .i64 j)] ∧ (j ≤ l.length) ∧ (l.length ≤ 20) ∧ (∀ f ∈ l.take j, f.Few) ∧ St cx w' (LL)) (fun ρ' _ => (l.length - iv (ρ' 3)).toNat) ?_ ?_
  · exact ⟨0, zh, zh, (by omega), (by omega), by simp, hS.sp⟩
  rintro ρ w1 ⟨j, hA, hρ, hj, hl20, hd, hS⟩; obtain ⟨ρ, rfl⟩ := env2 hA hρ
  unfold Q5N
  all_goals (refine Q0 ?_; refine Q0 ?_; refine Q1 ?_; refine zm ?_; refine Q2 rfl ?_; refine zl hS ?_; refine zL ?_; refine Qt rfl rfl ?_; refine zn ?_)
  refine Qm rfl (fun hc => ?_) (fun hc => ?_)
  · skip
    all_goals (refine zsk ?_; refine Q0 ?_; refine Q8 ?_; refine Q0 ?_; refine Q1 ?_; refine Q2 rfl ?_; refine zl hS ?_; refine zm ?_; refine zi ?_; intro b1 o1 cs1 x1 hat1 hx1 he1; obtain ⟨vp1, vr1, vb1, rfl, hp1, hr1, hb1⟩ := Q1t he1; (first | (refine zv hS ?_) | (refine zvk hS ?_)); refine Qb hS ?_; intro p4 w1 hS; refine zsn hS ?_; intro w1 hS; have hS := hS.ns; refine zn ?_; refine Q0 ?_; refine Q0 ?_; refine Q1 ?_; refine Q2 rfl ?_; refine zl hS ?_; refine zL ?_)
    all_goals (first | (refine QK ?_) | (refine QM ?_) | (refine Qi rfl rfl (fun hc => ?_) (fun hc => ?_)))
    all_goals (refine zm ?_; (first | refine s_gn rfl rfl ?_ | (refine s_gy rfl ?_; refine Q2 rfl ?_)); (first | refine s_gn rfl rfl ?_ | (refine s_gy rfl ?_; refine zl hS ?_)))
    all_goals ((first | (refine s_gn rfl rfl ?_) | (refine s_gy rfl ?_; refine zR1 (c := QmD hp1 hS) (h := ?_); rintro v1 w1 ⟨rfl, hS⟩; cases hg1 : Tys.great x1.params)))
    all_goals ((first | (refine zpt ?_) | (refine zpf ?_)); refine zm ?_; (first | refine s_gn rfl rfl ?_ | (refine s_gy rfl ?_; refine Q2 rfl ?_)); (first | refine s_gn rfl rfl ?_ | (refine s_gy rfl ?_; refine zl hS ?_)))
    all_goals ((first | (refine s_gn rfl rfl ?_) | (refine s_gy rfl ?_; refine zR1 (c := QmD hr1 hS) (h := ?_); rintro v1 w1 ⟨rfl, hS⟩; cases hg2 : Tys.great x1.results)))
    all_goals ((first | (refine zpt ?_) | (refine zpf ?_)); refine zn ?_)
    all_goals
      first
      | (refine Q3 rfl ?_ -- Q1q c2
         all_goals (refine Q0 ?_; refine Q1 ?_; refine zm ?_; refine zn ?_; refine zr ?_; refine zf ?_)
         all_goals (exact ⟨_, rfl, true, rfl, fun h => Bool.noConfusion h, hS.sp⟩))
      | (refine Q4 rfl ?_ -- Q1q c2
         all_goals refine zsk ?_)
    all_goals (refine Q0 ?_; have hlb := hb1.len; refine Q1 ?_; refine zm ?_; refine zn ?_; refine Q8 ?_)
    refine zoL hS [1, 3, 4] (fun A LL ρ' w' => ∃ (i : Nat), Has ρ' A ∧ Has ρ' [(5, .int .i64 i)] ∧ (i ≤ x1.blocks.length) ∧ (x1.blocks.length ≤ 30) ∧ (Tys.great x1.params = false) ∧ (Tys.great x1.results = false) ∧ (∀ f ∈ x1.blocks.take i, f.Few) ∧ St cx w' (LL)) (fun ρ' _ => (x1.blocks.length - iv (ρ' 5)).toNat) ?_ ?_
    · exact ⟨0, zh, zh, (by omega), (by omega), by assumption, by assumption, by simp, hS.sp⟩
    rintro ρ w1 ⟨i, hA, hρ, hi, hl30, hg1, hg2, hd1, hS⟩; obtain ⟨ρ, rfl⟩ := env2 hA hρ
    unfold Q5M
    all_goals (refine Q0 ?_; refine Q0 ?_; refine Q1 ?_; refine zm ?_; refine Q2 rfl ?_; refine zl hS ?_; refine zL ?_; refine Qt rfl rfl ?_; refine zn ?_)
    refine Qm rfl (fun hc => ?_) (fun hc => ?_)
    · skip
      all_goals (refine zsk ?_; refine Q0 ?_; refine Q8 ?_; refine Q0 ?_; refine Q1 ?_; refine Q2 rfl ?_; refine zl hS ?_; refine zm ?_; refine zi ?_; intro b2 o2 cs2 x2 hat2 hx2 he2; obtain ⟨vp2, vc2, ve21, ve22, ve23, ve24, ve25, rfl, hp2, hc2, he21, he22, he23, he24, he25⟩ := Q1w he2; (first | (refine zv hS ?_) | (refine zvk hS ?_)); refine Qb hS ?_; intro p6 w1 hS; refine zsn hS ?_; intro w1 hS; have hS := hS.ns; refine zn ?_; refine Q0 ?_; refine Q0 ?_; refine Q1 ?_; refine Q2 rfl ?_; refine zl hS ?_; refine zL ?_)
      all_goals (first | (refine QK ?_) | (refine QM ?_) | (refine Qi rfl rfl (fun hc => ?_) (fun hc => ?_)))
      all_goals (refine zm ?_; (first | refine s_gn rfl rfl ?_ | (refine s_gy rfl ?_; refine Q2 rfl ?_)); (first | refine s_gn rfl rfl ?_ | (refine s_gy rfl ?_; refine zl hS ?_)))
      all_goals ((first | (refine s_gn rfl rfl ?_) | (refine s_gy rfl ?_; refine zR1 (c := QmD hp2 hS) (h := ?_); rintro v1 w1 ⟨rfl, hS⟩; cases hg3 : Tys.great x2.params)))
      all_goals ((first | (refine zpt ?_) | (refine zpf ?_)); refine zm ?_; (first | refine s_gn rfl rfl ?_ | (refine s_gy rfl ?_; refine Q2 rfl ?_)); (first | refine s_gn rfl rfl ?_ | (refine s_gy rfl ?_; (first | refine Q2 rfl ?_ | refine Q1r rfl ?_))); (first | refine s_gn rfl rfl ?_ | (refine s_gy rfl ?_; refine zl hS ?_)); (first | refine s_gn rfl rfl ?_ | (refine s_gy rfl ?_; refine zL ?_)))
      all_goals (first | refine s_gn rfl rfl ?_ | (refine s_gy rfl ?_; (first | (refine QK ?_) | (refine QM ?_) | (refine Qi rfl rfl (fun hc => ?_) (fun hc => ?_)))))
      all_goals ((first | (refine zpt ?_) | (refine zpf ?_)); refine zm ?_; (first | refine s_gn rfl rfl ?_ | (refine s_gy rfl ?_; refine Q2 rfl ?_)); (first | refine s_gn rfl rfl ?_ | (refine s_gy rfl ?_; (first | refine Q2 rfl ?_ | refine Q1r rfl ?_))); (first | refine s_gn rfl rfl ?_ | (refine s_gy rfl ?_; (first | refine Q2 rfl ?_ | refine Q1r rfl ?_))); (first | refine s_gn rfl rfl ?_ | (refine s_gy rfl ?_; refine zl hS ?_)); (first | refine s_gn rfl rfl ?_ | (refine s_gy rfl ?_; refine zL ?_)))
      all_goals (first | refine s_gn rfl rfl ?_ | (refine s_gy rfl ?_; (first | (refine QK ?_) | (refine QM ?_) | (refine Qi rfl rfl (fun hc => ?_) (fun hc => ?_)))))
      all_goals ((first | (refine zpt ?_) | (refine zpf ?_)); refine zm ?_; (first | refine s_gn rfl rfl ?_ | (refine s_gy rfl ?_; refine Q2 rfl ?_)); (first | refine s_gn rfl rfl ?_ | (refine s_gy rfl ?_; (first | refine Q2 rfl ?_ | refine Q1r rfl ?_))); (first | refine s_gn rfl rfl ?_ | (refine s_gy rfl ?_; (first | refine Q2 rfl ?_ | refine Q1r rfl ?_))); (first | refine s_gn rfl rfl ?_ | (refine s_gy rfl ?_; refine zl hS ?_)); (first | refine s_gn rfl rfl ?_ | (refine s_gy rfl ?_; refine zL ?_)))
      all_goals (first | refine s_gn rfl rfl ?_ | (refine s_gy rfl ?_; (first | (refine QK ?_) | (refine QM ?_) | (refine Qi rfl rfl (fun hc => ?_) (fun hc => ?_)))))
      all_goals ((first | (refine zpt ?_) | (refine zpf ?_)); refine zm ?_; (first | refine s_gn rfl rfl ?_ | (refine s_gy rfl ?_; refine Q2 rfl ?_)); (first | refine s_gn rfl rfl ?_ | (refine s_gy rfl ?_; (first | refine Q2 rfl ?_ | refine Q1r rfl ?_))); (first | refine s_gn rfl rfl ?_ | (refine s_gy rfl ?_; (first | refine Q2 rfl ?_ | refine Q1r rfl ?_))); (first | refine s_gn rfl rfl ?_ | (refine s_gy rfl ?_; refine zl hS ?_)); (first | refine s_gn rfl rfl ?_ | (refine s_gy rfl ?_; refine zL ?_)))
      all_goals (first | refine s_gn rfl rfl ?_ | (refine s_gy rfl ?_; (first | (refine QK ?_) | (refine QM ?_) | (refine Qi rfl rfl (fun hc => ?_) (fun hc => ?_)))))
      all_goals ((first | (refine zpt ?_) | (refine zpf ?_)); refine zm ?_; (first | refine s_gn rfl rfl ?_ | (refine s_gy rfl ?_; refine Q2 rfl ?_)); (first | refine s_gn rfl rfl ?_ | (refine s_gy rfl ?_; (first | refine Q2 rfl ?_ | refine Q1r rfl ?_))); (first | refine s_gn rfl rfl ?_ | (refine s_gy rfl ?_; (first | refine Q2 rfl ?_ | refine Q1r rfl ?_))); (first | refine s_gn rfl rfl ?_ | (refine s_gy rfl ?_; refine zl hS ?_)); (first | refine s_gn rfl rfl ?_ | (refine s_gy rfl ?_; refine zL ?_)))
      all_goals (first | refine s_gn rfl rfl ?_ | (refine s_gy rfl ?_; (first | (refine QK ?_) | (refine QM ?_) | (refine Qi rfl rfl (fun hc => ?_) (fun hc => ?_)))))
      all_goals ((first | (refine zpt ?_) | (refine zpf ?_)); refine zn ?_)
      all_goals
        first
        | (refine Q3 rfl ?_ -- Q1q c4
           all_goals (refine Q0 ?_; refine Q1 ?_; refine zm ?_; refine zn ?_; refine zr ?_; refine zf ?_)
           all_goals (exact ⟨_, rfl, true, rfl, fun h => Bool.noConfusion h, hS.sp⟩))
        | (refine Q4 rfl ?_ -- Q1q c4
           all_goals refine zsk ?_)
      all_goals (refine Q0 ?_; have hlc := hc2.len; refine Q1 ?_; refine zm ?_; refine zn ?_; refine Q8 ?_)
      refine zoL hS [1, 3, 4, 5, 6] (fun A LL ρ' w' => ∃ (k : Nat), Has ρ' A ∧ Has ρ' [(7, .int .i64 k)] ∧ (k ≤ x2.code.length) ∧ (x2.code.length ≤ 200) ∧ (Tys.great x2.params = false) ∧ (x2.fin.Few) ∧ (∀ f ∈ x2.code.take k, f.Few) ∧ St cx w' (LL)) (fun ρ' _ => (x2.code.length - iv (ρ' 7)).toNat) ?_ ?_
      · exact ⟨0, zh, zh, (by omega), (by omega), by assumption, ⟨⟨by omega, by omega⟩, ⟨by omega, by omega⟩, by omega⟩, by simp, hS.sp⟩
      rintro ρ w1 ⟨k, hA, hρ, hk, hl200, hg3, hfin, hd2, hS⟩; obtain ⟨ρ, rfl⟩ := env2 hA hρ
      unfold Q56
      all_goals (refine Q0 ?_; refine Q0 ?_; refine Q1 ?_; refine zm ?_; refine Q2 rfl ?_; refine zl hS ?_; refine zL ?_; refine Qt rfl rfl ?_; refine zn ?_)
      refine Qm rfl (fun hc => ?_) (fun hc => ?_)
      · skip
        all_goals (refine zsk ?_; refine Q0 ?_; refine Q8 ?_; refine Q0 ?_; refine Q1 ?_; refine Q2 rfl ?_; refine zl hS ?_; refine zm ?_; refine zi ?_; intro b3 o3 cs3 x3 hat3 hx3 he3; obtain ⟨vr3, va3, rfl, hr3, ha3⟩ := Q22 he3; (first | refine Q2 rfl ?_ | refine Q1r rfl ?_); (first | (refine zl hS ?_) | (refine zlk hS ?_) | (refine zlj hS ?_)); refine zL ?_)
        all_goals (first | (refine QK ?_) | (refine QM ?_) | (refine Qi rfl rfl (fun hc => ?_) (fun hc => ?_)))
        all_goals (refine zm ?_; (first | refine s_gn rfl rfl ?_ | (refine s_gy rfl ?_; refine Q2 rfl ?_)); (first | refine s_gn rfl rfl ?_ | (refine s_gy rfl ?_; refine zl hS ?_)); (first | refine s_gn rfl rfl ?_ | (refine s_gy rfl ?_; refine zm ?_)); (first | (refine s_gn rfl rfl ?_) | (refine s_gy rfl ?_; refine Q44 vw rfl (by assumption) rfl (by omega) ?_; intro b4 o4 cs4 x4 hat4 hx4 he4; rw [hx3] at hx4; obtain rfl : x3 = x4 := Option.some.inj hx4; obtain ⟨vr4, va4, rfl, hr4, ha4⟩ := Q22 he4)); (first | refine s_gn rfl rfl ?_ | (refine s_gy rfl ?_; (first | refine Q2 rfl ?_ | refine Q1r rfl ?_))); (first | refine s_gn rfl rfl ?_ | (refine s_gy rfl ?_; (first | (refine zl hS ?_) | (refine zlk hS ?_) | (refine zlj hS ?_)))); (first | refine s_gn rfl rfl ?_ | (refine s_gy rfl ?_; refine zL ?_)))
        all_goals (first | refine s_gn rfl rfl ?_ | (refine s_gy rfl ?_; (first | (refine QK ?_) | (refine QM ?_) | (refine Qi rfl rfl (fun hc => ?_) (fun hc => ?_)))))
        all_goals ((first | (refine zpt ?_) | (refine zpf ?_)); refine zn ?_)
        all_goals
          first
          | (refine Q3 rfl ?_ -- Q1q c6
             all_goals (refine Q0 ?_; refine Q1 ?_; refine zm ?_; refine zn ?_; refine zr ?_; refine zf ?_)
             all_goals (exact ⟨_, rfl, true, rfl, fun h => Bool.noConfusion h, hS.sp⟩))
          | (refine Q4 rfl ?_ -- Q1q c6
             all_goals refine zsk ?_)
        all_goals (refine Q1 ?_; refine zm ?_; refine zad ?_; refine zm ?_; refine zn ?_; exact ⟨⟨k + 1, zh, zh, (by omega), (by omega), by assumption, by assumption, Qb9 hd2 hx3 ⟨by omega, by omega⟩, hS.sp⟩, Qh (by omega)⟩)
      · skip
        all_goals (refine zex ?_; refine Q1 ?_; refine zm ?_; refine zad ?_; refine zm ?_; refine zn ?_; exact ⟨⟨i + 1, zh, zh, (by omega), (by omega), by assumption, by assumption, Qb9 hd1 hx2 ⟨hg3, by omega, QfZ hd2 (by omega), hfin⟩, hS.sp⟩, Qh (by omega)⟩)
    · skip
      all_goals (refine zex ?_; refine Q1 ?_; refine zm ?_; refine zad ?_; refine zm ?_; refine zn ?_; exact ⟨⟨j + 1, zh, zh, (by omega), (by omega), Qb9 hd hx1 ⟨hg1, hg2, by omega, QfZ hd1 (by omega)⟩, hS.sp⟩, Qh (by omega)⟩)
  · skip
    all_goals (refine zex ?_; refine Q0 ?_; refine Q1 ?_; refine zm ?_; refine zn ?_; refine zr ?_; refine zf ?_)
    all_goals (first | (exact ⟨_, rfl, true, rfl, fun h => Bool.noConfusion h, hS.sp⟩) | (have h1 : l.length ≤ 20 := (by omega); exact ⟨_, rfl, false, rfl, fun _ => ⟨h1, QfZ (l := l) hd (by omega)⟩, hS.sp⟩))
end Go.Proofs.YtanlkfeogoganaaGreat
namespace Go.Lir
section
variable {P : Program} {l : List GO} {Q : QT} {ρ : Env} {w : World}
theorem s_seqb {d T : Nat} {x y : Operand} {a b : List UInt8} (hx : ρ.ev x = .string ⟨a.toArray⟩) (hy : ρ.ev y = .string ⟨b.toArray⟩)
    (h : Q5 P l Q (upd ρ d (.bool (decide (a = b)))) w) : Q5 P (⟨none, .bin d .eql T x y⟩ :: l) Q ρ w :=
  ⟨_, fun w0 => by
    rw [hx, hy]
    have e : ∀ c : List UInt8, (⟨c.toArray⟩ : ByteArray).toList = c := fun c => Lib.toList_data _
    have e2 : (a == b) = decide (a = b) := by by_cases h : a = b <;> simp [h]
    simp [eqGuard, binOp, Op.stringOp, e, e2], h⟩
end
end Go.Lir
namespace Go.Proofs.YtanlkfeogoganaaGreat
open Go.Lir
set_option maxHeartbeats 1000000
attribute [local irreducible] LC.wp Q5 QN Q11 retQ Q1T LO.wp Qr Calls
set_option linter.unusedSimpArgs false
set_option linter.unusedVariables false
variable {cx : Cx} {w : World} {L : List Res}
theorem sameb_c {a b : List UInt8} {v v2 : Value} (ha : u8R.sl cx v a) (hb : u8R.sl cx v2 b) (hS : St cx w L) : Rets Tryz.prog Qir [v, v2] w fun u w' => u = .bool (decide (a = b)) ∧ St cx w' L := by
  all_goals refine Qlb ?_
  all_goals (unfold R_SameBytes_lc; refine Q0 ?_; refine Q1 ?_; refine zm ?_; refine zn ?_; refine Q0 ?_; refine Q1 ?_; refine zm ?_; refine Qmw (e := 5) (by kernel_rfl) (by kernel_rfl) (by kernel_rfl) hS rfl ha ?_; refine zm ?_; refine Qmw (e := 5) (by kernel_rfl) (by kernel_rfl) (by kernel_rfl) hS rfl hb ?_; refine s_seqb rfl rfl ?_; refine zm ?_; refine zn ?_; refine zr ?_; refine zf ?_; exact ⟨_, rfl, rfl, hS.sp⟩)
end Go.Proofs.YtanlkfeogoganaaGreat
namespace Go.Proofs.YtanlkfeogoganaaGreat
open Go.Lir
set_option maxHeartbeats 1000000
attribute [local irreducible] LC.wp Q5 QN Q11 retQ Q1T LO.wp Qr Calls
set_option linter.unusedSimpArgs false
set_option linter.unusedVariables false
attribute [local irreducible] bitI IntKind.wrap Q3n rdLong rdMany Q14 mmap Q3U Q3B Module.fault Lir.decode sumB Module.enc Module.body
variable {cx : Cx} {w : World} {L : List Res}
def encR (m : Module) : Flt × List UInt8 := if m.fault.1 ≠ 0 then (m.fault, []) else if 20000 < m.body.length + 4 then ((2, -1), []) else ((0, 0), m.enc)
def decR (bs : List UInt8) : Flt × Module := match Lir.decode bs with
  | .error e => (e, ⟨[]⟩)
  | .ok m => ((0, 0), m)
theorem Qvm {m : Module} {u : Value} {w' : World} (h : (m.fault.1 ≠ 0 ∧ u = .tuple #[.slice none 0 0, fltV m.fault] ∧ St cx w' L) ∨ (m.fault.1 = 0 ∧ 20000 < m.body.length + 4 ∧ u = .tuple #[.slice none 0 0, fltV (2, -1)] ∧ St cx w' L) ∨
    (m.fault.1 = 0 ∧ m.body.length + 4 ≤ 20000 ∧ ∃ v, u = .tuple #[v, fltV (0, 0)] ∧ oneC v = true ∧ St cx w' (sl 5 1 v (m.enc.map QB) :: L))) :
    ∃ c' v, u = .tuple #[v, fltV (encR m).1] ∧ cx.Le c' ∧ oneC v = true ∧ u8R.sl c' v (encR m).2 ∧ St c' w' L := by
  unfold encR
  rcases h with ⟨h, rfl, hS⟩ | ⟨h, h2, rfl, hS⟩ | ⟨h, h2, v, rfl, hv, hS⟩
  · rw [if_pos h]; exact ⟨cx, _, rfl, St.refl hS, rfl, Rep.SR.nil _ _ _, hS⟩
  · rw [if_neg (by omega), if_pos h2]; exact ⟨cx, _, rfl, St.refl hS, rfl, Rep.SR.nil _ _ _, hS⟩
  · rw [if_neg (by omega), if_neg (by omega)]
    obtain ⟨c2, h3, h4, h5⟩ := St.freezeL (r := u8R) hS (Qa m.enc) rfl (by rw [Qvl]; omega)
    exact ⟨c2, v, rfl, h3, hv, h5, h4⟩
theorem Qvv {bs : List UInt8} {u : Value} {w' : World} (h : (∃ e, Lir.decode bs = .error e ∧ u = .tuple #[.agg ⟨[vn]⟩, fltV e] ∧ St cx w' L) ∨ (∃ m c' vf, Lir.decode bs = .ok m ∧ u = .tuple #[.agg ⟨[vf]⟩, fltV (0, 0)] ∧ cx.Le c' ∧ modR.at c' [vf] m ∧ St c' w' L)) :
    ∃ c' vf, u = .tuple #[.agg ⟨[vf]⟩, fltV (decR bs).1] ∧ cx.Le c' ∧ modR.at c' [vf] (decR bs).2 ∧ St c' w' L := by
  unfold decR
  rcases h with ⟨e, h, rfl, hS⟩ | ⟨m, c', vf, h, rfl, hle, hm, hS⟩
  · rw [h]; exact ⟨cx, _, rfl, St.refl hS, ⟨_, rfl, Rep.SR.nil _ _ _⟩, hS⟩
  · rw [h]; exact ⟨c', vf, rfl, hle, hm, hS⟩
theorem Qs9 {m : Module} {bs : List UInt8} {cs : List Value} {v : Value} (hr : m.InR) (hm : modR.at cx cs m) (hb : u8R.sl cx v bs) (hS : St cx w L) :
    Rets Tryz.prog Q1O [.agg ⟨cs⟩, v] w fun u w' => u = .bool true ∧ St cx w' L := by
  obtain ⟨vm, rfl, hfm⟩ := Q2l hm
  obtain ⟨am, nm, rfl⟩ := Rep.SR.shape hfm
  obtain ⟨ab, nb, rfl⟩ := Rep.SR.shape hb
  have hbl := hb.len
  have hle := St.refl hS
  all_goals refine QfM ?_
  all_goals (unfold Law_CodecDoes_lc; refine Q0 ?_; refine Q1 ?_; refine zb hS ?_; intro p2 w1 hS; refine zm ?_; refine zn ?_; refine Q0 ?_; refine Q0 ?_; refine Q1 ?_; refine zR0 (c := Qqh hS) (h := ?_); rintro v1 w1 ⟨rfl, hS⟩; refine Q2b rfl ?_; refine zn ?_)
  all_goals
    first
    | (refine Q3 rfl ?_ -- Q1O c0
       all_goals (refine Q0 ?_; refine Q1 ?_; refine zm ?_; refine zn ?_; refine zr ?_; refine zf ?_)
       all_goals (exact ⟨_, rfl, rfl, St.weak hS.sp hle⟩))
    | (refine Q4 rfl ?_ -- Q1O c0
       all_goals refine zsk ?_)
  all_goals (refine Q0 ?_; refine Q0 ?_; refine Q1 ?_; refine zv hS ?_)
  all_goals (refine zR1 (c := QtH hm hS) (h := ?_); rintro v1 w1 ⟨b, rfl, hfw, hS⟩; cases b; have hfw := hfw rfl; have hsh := Qur hfw)
  all_goals (refine zm ?_; (first | refine s_gn rfl rfl ?_ | (refine s_gy rfl ?_; refine zm ?_)); (first | refine s_gn rfl rfl ?_ | (refine s_gy rfl ?_; refine zL ?_)))
  all_goals (first | refine s_gn rfl rfl ?_ | (refine s_gy rfl ?_; (first | (refine QK ?_) | (refine QM ?_) | (refine Qi rfl rfl (fun hc => ?_) (fun hc => ?_)))))
  all_goals ((first | (refine zpt ?_) | (refine zpf ?_)); refine zn ?_)
  all_goals
    first
    | (refine Q3 rfl ?_ -- Q1O c1
       all_goals (refine Q0 ?_; refine Q1 ?_; refine zm ?_; refine zn ?_; refine zr ?_; refine zf ?_)
       all_goals (exact ⟨_, rfl, rfl, St.weak hS.sp hle⟩))
    | (refine Q4 rfl ?_ -- Q1O c1
       all_goals refine zsk ?_)
  all_goals (refine Q0 ?_; refine Q1 ?_; refine zv hS ?_)
  all_goals (refine zR1 (c := QuI hsh hm hS) (h := ?_); rintro v1 w1 ⟨c1, ds, rfl, hle2, hm1, hS⟩; obtain ⟨v9, rfl, hf9⟩ := Q2l hm1; obtain ⟨a9, n9, rfl⟩ := Rep.SR.shape hf9; (try have hle := hle.trans hle2); (try have hm := hm.up hle2); (try have hb := hb.up hle2))
  all_goals (refine Qb hS ?_; intro p5 w1 hS; refine zsn hS ?_; intro w1 hS; have hS := hS.ns; refine zn ?_; refine Q0 ?_; refine Q1 ?_; refine zv hS ?_)
  all_goals (refine zR1 (c := Qtf hfw hsh hm1 hS) (h := ?_); intro u1 w1 h9; obtain ⟨c2, v2, rfl, hle2, ho2, hk1, hS⟩ := Qvm h9; unfold fltV; (try have hle := hle.trans hle2); (try have hm := hm.up hle2); (try have hb := hb.up hle2); (try have hm1 := hm1.up hle2))
  all_goals (refine zm ?_; refine Q4N rfl rfl ?_; refine Q4N rfl rfl ?_; refine Qb hS ?_; intro p7 w1 hS; refine zm ?_; refine zsn hS ?_; intro w1 hS; have hS := hS.ns; refine zn ?_; refine Q0 ?_; refine Q1 ?_; refine zv hS ?_)
  all_goals (refine zR1 (c := Qvk hfw hsh hr hm hS) (h := ?_); intro u1 w1 h9; obtain ⟨c3, v3, rfl, hle2, ho3, hk2, hS⟩ := Qvm h9; unfold fltV; (try have hle := hle.trans hle2); (try have hm := hm.up hle2); (try have hk1 := hk1.up hle2); (try have hb := hb.up hle2); (try have hm1 := hm1.up hle2))
  all_goals (refine zm ?_; refine Q4N rfl rfl ?_; refine Q4N rfl rfl ?_; refine Qb hS ?_; intro p9 w1 hS; refine zm ?_; refine zsn hS ?_; intro w1 hS; have hS := hS.ns; refine zn ?_; refine Q0 ?_; refine Q0 ?_; refine Q1 ?_; refine zv hS ?_; refine zv hS ?_; refine s_ne2_f (a := (encR m).1) Qtd rfl rfl ?_; refine zm ?_; (first | refine s_gn rfl rfl ?_ | (refine s_gy rfl ?_; refine zm ?_)); (first | refine s_gn rfl rfl ?_ | (refine s_gy rfl ?_; refine zm ?_)); (first | refine s_gn rfl rfl ?_ | (refine s_gy rfl ?_; refine zR2 (c := sameb_c hk1 hk2 hS) (h := ?_); rintro v1 w1 ⟨rfl, hS⟩; rw [decide_eq_true (show (encR m).2 = (encR m).2 from rfl)])); (first | refine s_gn rfl rfl ?_ | (refine s_gy rfl ?_; refine Q2b rfl ?_)); (first | (refine zpt ?_) | (refine zpf ?_)); refine zm ?_; (first | refine s_gn rfl rfl ?_ | (refine s_gy rfl ?_; refine zv hS ?_)); (first | refine s_gn rfl rfl ?_ | (refine s_gy rfl ?_; refine zv hS ?_)); (first | refine s_gn rfl rfl ?_ | (refine s_gy rfl ?_; refine zR2 (c := QlY hm1 hm hS) (h := ?_); rintro v1 w1 ⟨rfl, hS⟩; rw [decide_eq_true (show m = m from rfl)])); (first | refine s_gn rfl rfl ?_ | (refine s_gy rfl ?_; refine Q2b rfl ?_)); (first | (refine zpt ?_) | (refine zpf ?_)))
  all_goals (refine zn ?_)
  all_goals
    first
    | (refine Q3 rfl ?_ -- Q1O c2
       all_goals (refine Q0 ?_; refine Q1 ?_; refine zm ?_; refine zn ?_; refine zr ?_; refine zf ?_)
       all_goals (exact ⟨_, rfl, rfl, St.weak hS.sp hle⟩))
    | (refine Q4 rfl ?_ -- Q1O c2
       all_goals refine zsk ?_)
  all_goals (refine Q0 ?_; refine Q1 ?_; refine zm ?_)
  all_goals (refine zR1 (c := Qth hb hS) (h := ?_); intro u1 w1 h9; obtain ⟨c4, v4, rfl, hle2, hd1, hS⟩ := Qvv h9; unfold fltV; (try have hle := hle.trans hle2); (try have hm := hm.up hle2); (try have hk1 := hk1.up hle2); (try have hk2 := hk2.up hle2); (try have hb := hb.up hle2); (try have hm1 := hm1.up hle2); have hd1' := hd1; obtain ⟨v4', e9, hf4⟩ := Q2l hd1; obtain rfl := List.cons.inj e9 |>.1; have ho4 := Rep.SR.oneC hf4)
  all_goals (refine zm ?_; refine Q4N rfl rfl ?_; refine Q4N rfl rfl ?_; refine Qb hS ?_; intro p10 w1 hS; refine Qb hS ?_; intro p11 w1 hS; refine zsn hS ?_; intro w1 hS; have hS := hS.ns; refine zsn hS ?_; intro w1 hS; have hS := hS.ns; refine zn ?_; refine Q0 ?_; refine Q1 ?_; refine zm ?_)
  all_goals (refine zR1 (c := Qvs hb hS) (h := ?_); intro u1 w1 h9; obtain ⟨c5, v5, rfl, hle2, hd2, hS⟩ := Qvv h9; unfold fltV; (try have hle := hle.trans hle2); (try have hm := hm.up hle2); (try have hk1 := hk1.up hle2); (try have hk2 := hk2.up hle2); (try have hb := hb.up hle2); (try have hm1 := hm1.up hle2); (try have hd1 := hd1.up hle2); have hd2' := hd2; obtain ⟨v5', e9, hf5⟩ := Q2l hd2; obtain rfl := List.cons.inj e9 |>.1; have ho5 := Rep.SR.oneC hf5)
  all_goals (refine zm ?_; refine Q4N rfl rfl ?_; refine Q4N rfl rfl ?_; refine Qb hS ?_; intro p12 w1 hS; refine Qb hS ?_; intro p13 w1 hS; refine zsn hS ?_; intro w1 hS; have hS := hS.ns; refine zsn hS ?_; intro w1 hS; have hS := hS.ns; refine zn ?_; refine Q0 ?_; refine Q1 ?_; refine zv hS ?_; refine zv hS ?_; refine s_eq2_t (a := (decR bs).1) Qtd rfl rfl ?_; refine zm ?_; (first | refine s_gn rfl rfl ?_ | (refine s_gy rfl ?_; refine zv hS ?_)); (first | refine s_gn rfl rfl ?_ | (refine s_gy rfl ?_; refine zv hS ?_)); (first | refine s_gn rfl rfl ?_ | (refine s_gy rfl ?_; refine zR2 (c := QlY hd1 hd2 hS) (h := ?_); rintro v1 w1 ⟨rfl, hS⟩; rw [decide_eq_true (show (decR bs).2 = (decR bs).2 from rfl)])); refine zpt ?_; refine zm ?_; (first | refine s_gn rfl rfl ?_ | (refine s_gy rfl ?_; refine zm ?_)); (first | refine s_gn rfl rfl ?_ | (refine s_gy rfl ?_; refine zR1 (c := sum_c hb hS) (h := ?_); rintro v1 w1 ⟨rfl, hS⟩)); (first | refine s_gn rfl rfl ?_ | (refine s_gy rfl ?_; refine zm ?_)); (first | refine s_gn rfl rfl ?_ | (refine s_gy rfl ?_; refine zR1 (c := QmJ hb hS) (h := ?_); rintro v1 w1 ⟨rfl, hS⟩)))
  all_goals (first | refine s_gn rfl rfl ?_ | (refine s_gy rfl ?_; refine Qy ?_))
  all_goals (refine zpt ?_; refine zm ?_; refine zn ?_; refine zr ?_; refine zf ?_; exact ⟨_, rfl, rfl, St.weak hS.sp hle⟩)
end Go.Proofs.YtanlkfeogoganaaGreat
namespace Go.Proofs.YtanlkfeogoganaaGreat
open Go.Lir
theorem codecDoes_rd {c : Array Value} {v : Value} {x : Module} {l : List UInt8} {w : World} (h1 : cModI.cod.rd w.heap c.toList x) (h2 : cBytes.cod.rd w.heap [v] l) : Rets Tryz.prog Q1O [.agg c, v] w fun v w' => v = .bool true ∧ Fr NF w w' := by
  obtain ⟨v1, e1, h3⟩ := cBytes.top h2
  obtain rfl : v = v1 := by cases e1; rfl
  obtain ⟨h4, h5⟩ := cModI.top h1
  exact (Qs9 h5 h4 h3 (St.top w)).mono fun _ _ ⟨h, h2⟩ => ⟨h, h2.fr⟩
end Go.Proofs.YtanlkfeogoganaaGreat
