/- Lemmas of the proof, part 6: what the functions of the program do (contracts), and what follows. -/
import Derived.Test.YtanlkfeogoganaaGreatZ2
import Derived.Test.YtanlkfeogoganaaGreatZ5
import Derived.Test.YtanlkfeogoganaaGreatZ3
namespace Go.Proofs.YtanlkfeogoganaaGreat
open Go.Lir
set_option maxHeartbeats 1000000
attribute [local irreducible] LC.wp Q5 Q11 Q1c retQ Q2b LO.wp QD Calls
set_option linter.unusedSimpArgs false
set_option linter.unusedVariables false
attribute [local irreducible] hasB Q1W Q1o Q1I Q3A upTo Q1b Q1Z rmk
variable {cx : Cx} {w : World} {L : List Res} {j : JP} {h : List Bool} {vl : Value} {css : List (List Value)} {i : Nat} {m : Module}

@[reducible] def KLf (j : JP) (s : JS) (vl : Value) (css : List (List Value)) (L : List Res) : List Res := blk j.sp 63 (j.kcells vl) :: Q7h j.hp s.h :: sl 112 3 vl css :: L
theorem rmakes_c {s : JS} {x : Ins} {cs : List Value} (hm : m.Short) (hF : QF m.funcs.length x = 0) (hg : JGood s) (hj : j.Fits cx m) (hx : insR.at cx cs x) (hls : tyR.ls cx css s.l) (hS : St cx w (blk j.sp 63 (j.kcells vl) :: Q7h j.hp s.h :: sl 112 3 vl css :: L)) :
    Rets Tryz.prog Q8 [.pointer (some ⟨j.sp, 0, none⟩), .agg ⟨cs⟩] w fun u w' => ∃ c' v, cx.Le c' ∧ u = .tuple #[v, .int .i64 (QL (rmk m j.f s x))] ∧ (∀ ts, rmk m j.f s x = .ok ts → tyR.sl c' v ts) ∧ St c' w' (blk j.sp 63 (j.kcells vl) :: Q7h j.hp s.h :: sl 112 3 vl css :: L) := by
  have hx' := hx
  have hop := Q4D hF
  have hlc := hls.1
  have hn := hg.n
  have hm1 := hj.m
  have hN : ∀ {c : Cx}, tyR.at c [.int .i64 1, .int .i64 0, .slice none 0 0] number := Q1N (Rep.SR.nil _ _ _)
  obtain ⟨vr, va, rfl, hr, ha⟩ := Q1J hx
  have hlr := hr.len
  have hla := ha.len
  all_goals refine Qfy ?_
  all_goals (unfold R_Known_makes_lc; refine Q0 ?_; refine Q1 ?_; refine zb hS ?_; intro p3 w1 hS; refine zm ?_; refine zm ?_; refine zn ?_; refine Q0 ?_; refine Q1 ?_; refine zb1 [_, _, _] ?_; refine Q3l (cs := [_, _, _]) vw (by rfl) ?_; intro nb w1 hb1 hf1 _ hk1; have hS := hS.laid hb1 hf1 hk1; refine zm ?_; refine zn ?_; refine Q0 ?_; refine Q0 ?_; refine Q1 ?_; refine Q2 rfl ?_; refine zl hS ?_; refine zn ?_; refine Qa ?_; refine Q0 ?_; refine Q0 ?_; refine Q1 ?_)
  all_goals (first | (refine Qv ?_) | (refine QB ?_) | (refine Qn rfl rfl (fun hc => ?_) (fun hc => ?_)))
  all_goals (refine zm ?_; refine zn ?_)
  all_goals
    first
    | (refine Q3 rfl ?_ -- Q8 c0
       all_goals refine zsk ?_)
    | (refine Q4 rfl ?_ -- Q8 c0
       all_goals (refine Q1 ?_)
       all_goals (first | (refine Qv ?_) | (refine QB ?_) | (refine Qn rfl rfl (fun hc => ?_) (fun hc => ?_)))
       all_goals (refine zm ?_)
       all_goals refine zn ?_)
  all_goals
    first
    | (refine Q3 rfl ?_ -- Q8 c1
       all_goals (refine Q0 ?_; refine Q1 ?_; refine zm ?_; refine zm ?_; refine zm ?_; refine zn ?_; have hM : rmk m j.f s x = .ok [number] := rmk_1 (by omega); refine zr ?_; refine zf2 ?_)
       all_goals (first | (exact ⟨_, rfl, cx, _, St.refl hS, cd_e hM, Q2z hM, hS.sp⟩) | (exact ⟨_, rfl, cx, _, St.refl hS, cd_o hM, Q1g hM (Rep.SR.nil _ _ _), hS.sp⟩) | (exact ⟨_, rfl, cx, _, St.refl hS, cd_w hM hw, Q1g hM (Rep.SR.nil _ _ _), hS.sp⟩) | (obtain ⟨c9, hle9, hS, hk9⟩ := St.freeze1 (r := tyR) (L := KLf j s vl css L) hS.sp (hN : tyR.at _ _ number); exact ⟨_, rfl, c9, _, hle9, cd_c hC, Q6b hT hk9, hS⟩) | (obtain ⟨c9, hle9, hS, hk9⟩ := St.freeze1 (r := tyR) (L := KLf j s vl css L) hS.sp (hN : tyR.at _ _ number); exact ⟨_, rfl, c9, _, hle9, cd_o hM, Q1g hM hk9, hS⟩)))
    | (refine Q4 rfl ?_ -- Q8 c1
       all_goals (refine Q0 ?_; refine Q1 ?_)
       all_goals (first | (refine Qv ?_) | (refine QB ?_) | (refine Qn rfl rfl (fun hc => ?_) (fun hc => ?_)))
       all_goals (refine zm ?_; refine zn ?_)
       all_goals
         first
         | (refine Q3 rfl ?_ -- Q8 c2
            all_goals (refine Q0 ?_; refine zC [(0, none), (1, none), (2, none), (3, none), (5, none), (6, none), (7, none), (4, some (some [7])), (8, some (some [])), (9, some (some [])), (10, some (some [])), (11, none), (12, some none)] ?_; have hS := hS.drew; refine s_cq ?_; refine zm ?_; refine zt ?_; refine s_cq ?_; refine zm ?_; refine zt ?_; refine s_cq ?_; refine Q2 rfl ?_; refine zt ?_; refine s_cq ?_; refine zl hS ?_; refine zt ?_; refine s_cq ?_; refine zm ?_; refine zt ?_; refine s_cq ?_; refine Q2 rfl ?_; refine zt ?_; refine s_cq ?_; refine zl hS ?_; refine zt ?_; refine QU ?_; refine zR4 (c := Q2H (s := s) (k := x.a) (kd := 1) (held := false) hls hS.p3) (h := ?_); rintro v1 w1 ⟨rfl, hS⟩; refine zt ?_; refine zy ?_; refine QU ?_; refine zR4 (c := Q2H (s := s) (k := x.b) (kd := 1) (held := false) hls hS.p3) (h := ?_); rintro v1 w1 ⟨rfl, hS⟩; refine zt ?_; refine zy ?_; refine QU ?_; refine QgV (cs := [_, _]) vw vw (by rfl) ?_; intro fb w1 hb1 hf1 _ hk1; have hS := hS.laid hb1 hf1 hk1; have hS := St.slOf (es := 1) (css := [Q1b s x.a 1 false, Q1b s x.b 1 false].map Q36) hS rfl (by simp [Q36]) rfl; refine zt ?_; refine zy ?_; refine QU ?_; refine zR1 (c := Qgb (xs := [Q1b s x.a 1 false, Q1b s x.b 1 false]) (by simp) hS) (h := ?_); rintro v1 w1 ⟨rfl, hS⟩)
            all_goals (refine zt ?_; refine zy ?_; refine s_cq ?_; refine zm ?_; refine zt ?_; refine s_cf ?_; refine zm ?_; refine zt ?_; refine zcn ?_)
            all_goals (have hC : QL (rmk m j.f s x) = Q1Z [Q1b s x.a 1 false, Q1b s x.b 1 false] := (by rw [rmk_2 (by omega), Q4P, Q4P]; exact Qn7 (Q3j _ _ _) (Q3j _ _ _) _); have hT : ∀ ts, rmk m j.f s x = .ok ts → ts = [number] := (fun ts h => by rw [rmk_2 (by omega)] at h; exact ok1 h fun _ h => ok1 h fun _ h => by cases h; rfl))
            all_goals (refine zr ?_; refine zf2 ?_)
            all_goals (first | (exact ⟨_, rfl, cx, _, St.refl hS, cd_e hM, Q2z hM, hS.sp⟩) | (exact ⟨_, rfl, cx, _, St.refl hS, cd_o hM, Q1g hM (Rep.SR.nil _ _ _), hS.sp⟩) | (exact ⟨_, rfl, cx, _, St.refl hS, cd_w hM hw, Q1g hM (Rep.SR.nil _ _ _), hS.sp⟩) | (obtain ⟨c9, hle9, hS, hk9⟩ := St.freeze1 (r := tyR) (L := KLf j s vl css L) hS.sp (hN : tyR.at _ _ number); exact ⟨_, rfl, c9, _, hle9, cd_c hC, Q6b hT hk9, hS⟩)))
         | (refine Q4 rfl ?_ -- Q8 c2
            all_goals (refine Q0 ?_; refine Q1 ?_)
            all_goals (first | (refine Qv ?_) | (refine QB ?_) | (refine Qn rfl rfl (fun hc => ?_) (fun hc => ?_)))
            all_goals (refine zm ?_; refine zn ?_)
            all_goals
              first
              | (refine Q3 rfl ?_ -- Q8 c3
                 all_goals (refine Q0 ?_; refine Q0 ?_; refine Q1 ?_; refine zm ?_; refine Qi rfl ?_; refine Q2 rfl ?_; refine zl hS ?_; refine Qi rfl ?_; refine Q2 rfl ?_; obtain ⟨vh, hS⟩ := Q3o (hp := j.hp) (h := s.h) (L := blk j.sp 63 (j.kcells vl) :: sl 112 3 vl css :: blk nb 112 [.int .i64 1, .int .i64 0, .slice none 0 0] :: blk p3 57 [.int .i64 x.op, .int .i64 x.a, .int .i64 x.b, .int .i64 x.c, .int .i64 x.k, .int .i64 x.n, vr, va] :: L) hS.sp; refine QaQ hS vw fd rfl ?_; refine Q1P hS vw fd (List.length_map _) ?_; have hS := Q37 (L := blk j.sp 63 (j.kcells vl) :: sl 112 3 vl css :: blk nb 112 [.int .i64 1, .int .i64 0, .slice none 0 0] :: blk p3 57 [.int .i64 x.op, .int .i64 x.a, .int .i64 x.b, .int .i64 x.c, .int .i64 x.k, .int .i64 x.n, vr, va] :: L) (h := s.h) (hp := j.hp) (v := vh) hS.sp)
                 all_goals (first | (refine Qv ?_) | (refine QB ?_) | (refine Qn rfl rfl (fun hc => ?_) (fun hc => ?_)))
                 all_goals (refine zn ?_)
                 all_goals
                   first
                   | (refine Q3 rfl ?_ -- Q8 c4
                      all_goals (refine Q0 ?_; refine Q1 ?_; refine zm ?_; refine zm ?_; refine zn ?_; have hM : rmk m j.f s x = .error 2 := (by rw [rmk_3 (by omega)]; exact if_pos (by omega)); refine zr ?_; refine zf2 ?_)
                      all_goals (exact ⟨_, rfl, cx, _, St.refl hS, cd_e hM, Q2z hM, hS.sp⟩))
                   | (refine Q4 rfl ?_ -- Q8 c4
                      all_goals refine zsk ?_)
                 all_goals (refine Q0 ?_; refine Q1 ?_; refine zm ?_; refine Qi rfl ?_; refine Q2 rfl ?_; refine zl hS ?_; refine Qi rfl ?_; refine Q2 rfl ?_; obtain ⟨vh, hS⟩ := Q3o (hp := j.hp) (h := s.h) (L := blk j.sp 63 (j.kcells vl) :: sl 112 3 vl css :: blk nb 112 [.int .i64 1, .int .i64 0, .slice none 0 0] :: blk p3 57 [.int .i64 x.op, .int .i64 x.a, .int .i64 x.b, .int .i64 x.c, .int .i64 x.k, .int .i64 x.n, vr, va] :: L) hS.sp; refine QaQ hS vw fd rfl ?_; refine Q1P hS vw fd (List.length_map _) ?_; have hS := Q37 (L := blk j.sp 63 (j.kcells vl) :: sl 112 3 vl css :: blk nb 112 [.int .i64 1, .int .i64 0, .slice none 0 0] :: blk p3 57 [.int .i64 x.op, .int .i64 x.a, .int .i64 x.b, .int .i64 x.c, .int .i64 x.k, .int .i64 x.n, vr, va] :: L) (h := s.h) (hp := j.hp) (v := vh) hS.sp; refine zb2 [_, _, _] ?_; refine Q3l (cs := [_, _, _]) vw (by rfl) ?_; intro ob w1 hb1 hf1 _ hk1; have hS := hS.laid hb1 hf1 hk1; refine zm ?_; refine zm ?_; refine zn ?_; have hM : rmk m j.f s x = .ok [.mk 2 s.h.length []] := (by rw [rmk_3 (by omega)]; exact if_neg (by omega)); have hrow : ∀ {c : Cx}, tyR.at c [.int .i64 2, .int .i64 s.h.length, .slice none 0 0] (.mk 2 s.h.length []) := Q1N (Rep.SR.nil _ _ _))
                 all_goals (refine zr ?_; refine zf2 ?_)
                 all_goals (first | (exact ⟨_, rfl, cx, _, St.refl hS, cd_e hM, Q2z hM, hS.sp⟩) | (exact ⟨_, rfl, cx, _, St.refl hS, cd_o hM, Q1g hM (Rep.SR.nil _ _ _), hS.sp⟩) | (exact ⟨_, rfl, cx, _, St.refl hS, cd_w hM hw, Q1g hM (Rep.SR.nil _ _ _), hS.sp⟩) | (obtain ⟨c9, hle9, hS, hk9⟩ := St.freeze1 (r := tyR) (L := KLf j s vl css L) hS.sp (hN : tyR.at _ _ number); exact ⟨_, rfl, c9, _, hle9, cd_c hC, Q6b hT hk9, hS⟩) | (obtain ⟨c9, hle9, hS, hk9⟩ := St.freeze1 (r := tyR) (L := KLf j s vl css L) hS.sp (hN : tyR.at _ _ number); exact ⟨_, rfl, c9, _, hle9, cd_o hM, Q1g hM hk9, hS⟩) | (obtain ⟨c9, hle9, hS, hk9⟩ := St.freeze1 (r := tyR) (L := KLf j s vl css L) hS.sp hrow; exact ⟨_, rfl, c9, _, hle9, cd_o hM, Q1g hM hk9, hS⟩)))
              | (refine Q4 rfl ?_ -- Q8 c3
                 all_goals (refine Q0 ?_; refine Q1 ?_)
                 all_goals (first | (refine Qv ?_) | (refine QB ?_) | (refine Qn rfl rfl (fun hc => ?_) (fun hc => ?_)))
                 all_goals (refine zm ?_; refine zn ?_)
                 all_goals
                   first
                   | (refine Q3 rfl ?_ -- Q8 c5
                      all_goals (refine Q0 ?_; refine Q1 ?_; refine zm ?_; refine Q2 rfl ?_; refine zl hS ?_; refine zR4 (c := Q2H (s := s) (k := x.a) (kd := 2) (held := true) hls hS.p3) (h := ?_); rintro v1 w1 ⟨rfl, hS⟩; refine zm ?_; refine zn ?_)
                      all_goals (rcases Decidable.em (Q1b s x.a 2 true = 0) with hw | hw; rotate_left; have hM : rmk m j.f s x = .error (Q1b s x.a 2 true) := (by rw [QrE (by omega), Qt (Qgk hw)]); rotate_left; obtain ⟨t, g0, g1, ht, hk, hb, hjt⟩ := Qmw (s := s) (k := x.a) (kd := 2) (by omega); obtain ⟨d, hd, hrd⟩ := hls.2 _ _ ht; have hrt := hrd; obtain ⟨vd, rfl, hld⟩ := Qf hrd)
                      all_goals (refine Q0 ?_; refine Q0 ?_; refine zD [(0, none), (1, none), (2, none), (3, none), (4, none), (5, none), (6, none), (7, none), (8, none), (9, none), (10, none), (11, none), (12, none), (13, none), (14, none), (15, none), (16, none), (17, none), (18, some none)] ?_; have hS := hS.drew; refine zm ?_)
                      all_goals (first | (refine Qv ?_) | (refine QB ?_))
                      all_goals (refine zm ?_; (first | refine s_gn rfl rfl ?_ | (refine s_gy rfl ?_; refine zm ?_)); (first | refine s_gn rfl rfl ?_ | (refine s_gy rfl ?_; refine Qi rfl ?_)); (first | refine s_gn rfl rfl ?_ | (refine s_gy rfl ?_; refine Q2 rfl ?_)); (first | refine s_gn rfl rfl ?_ | (refine s_gy rfl ?_; refine zl hS ?_)); (first | refine s_gn rfl rfl ?_ | (refine s_gy rfl ?_; refine Q2 rfl ?_)); (first | refine s_gn rfl rfl ?_ | (refine s_gy rfl ?_; refine zl hS ?_)); (first | refine s_gn rfl rfl ?_ | (refine s_gy rfl ?_; refine Q3L hS vw rfl fd (by omega) (by omega) ?_; intro b1 o1 hel1)); (first | refine s_gn rfl rfl ?_ | (refine s_gy rfl ?_; (first | refine Q2 rfl ?_ | refine Q1d rfl ?_))); (first | refine s_gn rfl rfl ?_ | (refine s_gy rfl ?_; refine Q42 (j := 1) hS hel1 rfl fd rfl hd rfl ?_)); (first | refine s_gn rfl rfl ?_ | (refine s_gy rfl ?_; refine zm ?_)); (first | refine s_gn rfl rfl ?_ | (refine s_gy rfl ?_; refine Qi rfl ?_)); (first | refine s_gn rfl rfl ?_ | (refine s_gy rfl ?_; refine Q2 rfl ?_)); (first | refine s_gn rfl rfl ?_ | (refine s_gy rfl ?_; (first | refine Q2 rfl ?_ | refine Q1d rfl ?_))); (first | refine s_gn rfl rfl ?_ | (refine s_gy rfl ?_; refine zl hS ?_)))
                      all_goals (first | refine s_gn rfl rfl ?_ | (refine s_gy rfl ?_; (first | (refine Q1L ?_) | (refine Q1M ?_) | (refine QE rfl rfl (fun hc => ?_) (fun hc => ?_)))))
                      all_goals ((first | (refine zpt ?_) | (refine zpf ?_)); refine zn ?_)
                      all_goals
                        first
                        | (refine Q3 rfl ?_ -- Q8 c6
                           all_goals (refine Q1 ?_; refine zm ?_)
                           all_goals refine zn ?_)
                        | (refine Q4 rfl ?_ -- Q8 c6
                           all_goals refine zsk ?_)
                      all_goals (refine Q0 ?_; refine Q1 ?_; refine zm ?_; refine zm ?_; refine zm ?_; refine zn ?_; refine zr ?_; refine zf2 ?_)
                      all_goals (first | (exact ⟨_, rfl, cx, _, St.refl hS, cd_e hM, Q2z hM, hS.sp⟩) | (exact ⟨_, rfl, cx, _, St.refl hS, cd_o hM, Q1g hM (Rep.SR.nil _ _ _), hS.sp⟩) | (exact ⟨_, rfl, cx, _, St.refl hS, cd_w hM hw, Q1g hM (Rep.SR.nil _ _ _), hS.sp⟩) | (obtain ⟨c9, hle9, hS, hk9⟩ := St.freeze1 (r := tyR) (L := KLf j s vl css L) hS.sp (hN : tyR.at _ _ number); exact ⟨_, rfl, c9, _, hle9, cd_c hC, Q6b hT hk9, hS⟩) | (obtain ⟨c9, hle9, hS, hk9⟩ := St.freeze1 (r := tyR) (L := KLf j s vl css L) hS.sp (hN : tyR.at _ _ number); exact ⟨_, rfl, c9, _, hle9, cd_o hM, Q1g hM hk9, hS⟩) | (obtain ⟨c9, hle9, hS, hk9⟩ := St.freeze1 (r := tyR) (L := KLf j s vl css L) hS.sp hrow; exact ⟨_, rfl, c9, _, hle9, cd_o hM, Q1g hM hk9, hS⟩) | (obtain ⟨c9, hle9, hS, hk9⟩ := St.freeze1 (r := tyR) (L := KLf j s vl css L) hS.sp hrow; exact ⟨_, rfl, c9, _, hle2.trans hle9, cd_o hM, Q1g hM hk9, hS⟩) | (exact ⟨_, rfl, c1, _, hle2, cd_e hM, Q2z hM, hS.sp⟩) | (exact ⟨_, rfl, cx, _, St.refl hS, cd_c hC, Q6b hT (Rep.SR.nil _ _ _), hS.sp⟩) | (have hM : rmk m j.f s x = .error 11 := (by rw [QrE (by omega), Q9 hjt, if_pos (by omega)]); exact ⟨_, rfl, cx, _, St.refl hS, cd_e hM, Q2z hM, hS.sp⟩) | (have hM : rmk m j.f s x = .ok [] := (by rw [QrE (by omega), Q9 hjt, if_neg (by omega)]); exact ⟨_, rfl, cx, _, St.refl hS, cd_w hM hw, Q1g hM (Rep.SR.nil _ _ _), hS.sp⟩)))
                   | (refine Q4 rfl ?_ -- Q8 c5
                      all_goals (refine Q0 ?_; refine Q1 ?_)
                      all_goals (first | (refine Qv ?_) | (refine QB ?_) | (refine Qn rfl rfl (fun hc => ?_) (fun hc => ?_)))
                      all_goals (refine zm ?_; refine zn ?_)
                      all_goals
                        first
                        | (refine Q3 rfl ?_ -- Q8 c7
                           all_goals (refine Q0 ?_; refine Q0 ?_; refine Q1 ?_; refine zm ?_; refine Q2 rfl ?_; refine zl hS ?_; refine zR4 (c := Q2H (s := s) (k := x.a) (kd := 2) (held := true) hls hS.p3) (h := ?_); rintro v1 w1 ⟨rfl, hS⟩; refine zm ?_; refine zn ?_; refine Q0 ?_; refine Q1 ?_; refine zm ?_)
                           all_goals (first | (refine QZ ?_) | (refine Q10 ?_) | (refine Qp rfl rfl (fun hc => ?_) (fun hc => ?_)))
                           all_goals (refine zn ?_)
                           all_goals
                             first
                             | (refine Q3 rfl ?_ -- Q8 c8
                                all_goals (refine Q0 ?_; refine Q1 ?_; refine zm ?_; refine zm ?_; refine zm ?_; refine zn ?_; have hM : rmk m j.f s x = .error (Q1b s x.a 2 true) := (by rw [QuI (by omega), Qt (Qgk (by omega))]); refine zr ?_; refine zf2 ?_)
                                all_goals (exact ⟨_, rfl, cx, _, St.refl hS, cd_e hM, Q2z hM, hS.sp⟩))
                             | (refine Q4 rfl ?_ -- Q8 c8
                                all_goals refine zsk ?_)
                           all_goals (refine Q0 ?_; have hal := Qes hF (by omega); obtain ⟨t, g0, g1, ht, hk, hb, hjt⟩ := Qmw (s := s) (k := x.a) (kd := 2) (by omega); obtain ⟨d, hd, hrd⟩ := hls.2 _ _ ht; have hrt := hrd; obtain ⟨vd, rfl, hld⟩ := Qf hrd; refine zC [(0, none), (1, none), (2, none), (3, none), (4, none), (5, none), (6, none), (7, none), (8, none), (9, none), (10, some (some [3, 5, 8])), (11, some none)] ?_; have hS := hS.drew; refine s_cq ?_; refine zm ?_; refine zt ?_; refine s_cq ?_; refine Qi rfl ?_; refine zt ?_; refine s_cq ?_; refine Q2 rfl ?_; refine zt ?_; refine s_cq ?_; refine zl hS ?_; refine zt ?_; refine s_cq ?_; refine Q2 rfl ?_; refine zt ?_; refine s_cq ?_; refine zl hS ?_; refine zt ?_; refine s_cq ?_; refine Q3L hS vw rfl fd (by omega) (by omega) ?_; intro b1 o1 hel1; refine zt ?_; refine s_cq ?_; (first | refine Q2 rfl ?_ | refine Q1d rfl ?_); refine zt ?_; refine s_cq ?_; refine Q42 (j := 1) hS hel1 rfl fd rfl hd rfl ?_; refine zt ?_; refine s_cq ?_; refine zb2 [_, _, _] ?_; refine zt ?_; refine QU ?_; refine Qd hS ?_; intro p9 w1 hS; refine zt ?_; refine ⟨List.forall_mem_cons.2 ⟨(by first | (exact Q46 (j := 1) hS hel1 rfl fd rfl hd rfl) | (exact Q18 hS rfl fd rfl)), List.forall_mem_cons.2 ⟨(by first | (exact Q46 (j := 1) hS hel1 rfl fd rfl hd rfl) | (exact Q18 hS rfl fd rfl)), List.forall_mem_cons.2 ⟨(by (exact Q46 (j := 1) hS hel1 rfl fd rfl hd rfl)), fun _ h => (List.not_mem_nil h).elim⟩⟩⟩, ?_⟩)
                           all_goals (refine s_cf ?_; refine zsn hS ?_; intro w1 hS; have hS := hS.ns; refine zt ?_; refine zcn ?_; refine Q0 ?_; refine Q0 ?_; refine Q1 ?_; refine zm ?_; refine zn ?_; refine Qa ?_; have hS := St.nil (T := 112) (es := 3) hS)
                           refine zo [0, 3, 9] (fun A ρ' w' => ∃ (q : Nat) (vo : Value) (co : List (List Value)) (ts : List Ty), Has ρ' A ∧ Has ρ' [(10, .int .i64 q)] ∧ (q ≤ x.args.length) ∧ (tyR.ls cx co ts) ∧ (ts.length = q) ∧ (oneC vo = true) ∧ (jfields s x.args = ebind (jfields s (x.args.drop q)) fun l => .ok (ts ++ l)) ∧ St cx w' (sl 112 3 vo co :: blk p9 112 [.int .i64 3, .int .i64 t.r, vo] :: blk nb 112 [.int .i64 1, .int .i64 0, .slice none 0 0] :: blk p3 57 [.int .i64 x.op, .int .i64 x.a, .int .i64 x.b, .int .i64 x.c, .int .i64 x.k, .int .i64 x.n, vr, va] :: blk j.sp 63 (j.kcells vl) :: Q7h j.hp s.h :: sl 112 3 vl css :: L)) (fun ρ' _ => (x.args.length - iv (ρ' 10)).toNat) ?_ ?_
                           · exact ⟨0, _, [], [], zh, zh, (by omega), Rep.LR.nil _ _ _, rfl, rfl, by rw [List.drop_zero]; cases jfields s x.args <;> rfl, hS.sp⟩
                           rintro ρ w1 ⟨q, vo, co, ts, hA, hρ, hq, hlo, hlt, hvo, hdf, hS⟩; obtain ⟨ρ, rfl⟩ := env2 hA hρ
                           unfold Q4M
                           all_goals (refine Q0 ?_; refine Q0 ?_; refine Q1 ?_; refine zm ?_; refine Q2 rfl ?_; refine zl hS ?_; (first | (refine Q1P hS vw fd hlc ?_) | (refine zL ?_)); refine Qx rfl rfl ?_; refine zn ?_)
                           refine Qo rfl (fun hc => ?_) (fun hc => ?_)
                           · skip
                             all_goals (refine zsk ?_; refine Q0 ?_; refine Qa ?_; refine Q0 ?_; refine Q0 ?_; refine zD [(0, none), (1, none), (2, none), (3, none), (4, none), (5, none), (6, none), (7, none), (8, none), (9, none), (10, none), (11, none), (12, none), (13, none), (14, none), (15, none), (16, none), (17, none), (18, some none)] ?_; have hS := hS.drew; refine Q2 rfl ?_; refine zl hS ?_; refine zm ?_; refine zi ?_; intro b1 o1 cs1 x1 hat1 hx1 he1; obtain rfl := QJ he1; (first | (refine zl hS ?_) | (refine zlk hS ?_)))
                             all_goals (first | (refine Q1L ?_) | (refine Q1M ?_) | (refine QE rfl rfl (fun hc => ?_) (fun hc => ?_)))
                             all_goals (refine zm ?_; (first | refine s_gn rfl rfl ?_ | (refine s_gy rfl ?_; refine Q2 rfl ?_)); (first | refine s_gn rfl rfl ?_ | (refine s_gy rfl ?_; refine zl hS ?_)); (first | refine s_gn rfl rfl ?_ | (refine s_gy rfl ?_; refine zm ?_)); (first | refine s_gn rfl rfl ?_ | (refine s_gy rfl ?_; refine Q56 vw rfl ha rfl (by omega) ?_; intro b8 o8 cs8 x8 hat8 hx8 he8; obtain rfl := QJ he8; obtain rfl : x1 = x8 := Option.some.inj (hx1.symm.trans hx8))); (first | refine s_gn rfl rfl ?_ | (refine s_gy rfl ?_; (first | (refine zl hS ?_) | (refine zlk hS ?_)))); (first | refine s_gn rfl rfl ?_ | (refine s_gy rfl ?_; refine zm ?_)); (first | refine s_gn rfl rfl ?_ | (refine s_gy rfl ?_; refine Qi rfl ?_)); (first | refine s_gn rfl rfl ?_ | (refine s_gy rfl ?_; refine Q2 rfl ?_)); (first | refine s_gn rfl rfl ?_ | (refine s_gy rfl ?_; refine zl hS ?_)); (first | refine s_gn rfl rfl ?_ | (refine s_gy rfl ?_; refine Q1P hS vw fd hlc ?_)))
                             all_goals (first | refine s_gn rfl rfl ?_ | (refine s_gy rfl ?_; (first | (refine Q3f ?_) | (refine Q3g ?_) | (refine Q1A rfl rfl (fun hc => ?_) (fun hc => ?_)))))
                             all_goals ((first | (refine zpt ?_) | (refine zpf ?_)); refine zn ?_)
                             all_goals
                               first
                               | (refine Q3 rfl ?_ -- Q8 c10
                                  all_goals (refine Q0 ?_; refine Q1 ?_; refine zm ?_; refine zm ?_; refine zn ?_; have hM : rmk m j.f s x = .error 1 := (by rw [QuI (by omega), Q9 hjt, Qt (QpY hx1 hdf (Q5R (by omega)))]); refine zr ?_; refine zf2 ?_)
                                  all_goals (exact ⟨_, rfl, cx, _, St.refl hS, cd_e hM, Q2z hM, hS.sp⟩))
                               | (refine Q4 rfl ?_ -- Q8 c10
                                  all_goals refine zsk ?_)
                             all_goals (obtain ⟨t2, ht2⟩ : ∃ t, s.l[x1.toNat]? = some t := ⟨_, List.getElem?_eq_getElem (by omega)⟩; obtain ⟨d2, hd2, hrd2⟩ := hls.2 _ _ ht2; have hrd2' := hrd2; obtain ⟨vd2, rfl, hld2⟩ := Qf hrd2; have h2 := Q44 (s := s) (by omega) ht2; refine zC [(0, none), (1, none), (2, none), (3, none), (4, none), (5, none), (6, none), (7, none), (8, none), (9, none), (10, none), (11, none), (12, none), (13, some (some [1])), (14, some none), (15, none), (16, some none)] ?_; have hS := hS.drew; refine s_cq ?_; refine Q2 rfl ?_; refine zt ?_; refine s_cq ?_; refine zl hS ?_; refine zt ?_; refine s_cq ?_; refine zm ?_; refine zt ?_; refine s_cq ?_; refine Qi rfl ?_; refine zt ?_; refine s_cq ?_; refine Q2 rfl ?_; refine zt ?_; refine s_cq ?_; refine zl hS ?_; refine zt ?_; refine s_cq ?_; refine Q2 rfl ?_; refine zt ?_; refine s_cq ?_; refine zl hS ?_; refine zt ?_; refine s_cq ?_; refine zm ?_; refine zt ?_; refine s_cq ?_; refine Q56 vw rfl ha rfl (by omega) ?_; intro b4 o4 cs4 x4 hat4 hx4 he4; obtain rfl := QJ he4; obtain rfl : x1 = x4 := Option.some.inj (hx1.symm.trans hx4))
                             all_goals (refine zt ?_; refine s_cq ?_; (first | (refine zl hS ?_) | (refine zlk hS ?_)); refine zt ?_; refine s_cq ?_; refine Q3L hS vw rfl fd (by omega) (by omega) ?_; intro b5 o5 hel5; refine zt ?_; refine s_cq ?_; refine Q6o hS hel5 rfl fd rfl hd2 ?_; refine zt ?_; refine QU ?_; refine zB1 hS [_, _, _] ?_; intro b1 w1 hS; refine zt ?_; refine zy ?_; refine s_cf ?_; refine za Q38 Q5x hS ?_; intro vp1 w1 css1 hls1 hv1 hS; have hS := hS.ns; refine zt ?_; refine s_cq ?_; refine Q2 rfl ?_; refine zt ?_; refine s_cf ?_; refine zst hS ?_; intro w1 hS; have hS := hS.ns; refine zt ?_; refine zcn ?_; refine Q1 ?_; refine zm ?_; refine zad ?_; refine zm ?_; refine zn ?_; exact ⟨⟨q + 1, _, _, ts ++ [t2], zh, zh, (by omega), hls1, by simp [hlt], by assumption, QpX hx1 hdf h2, hS.sp⟩, Qr (by omega)⟩)
                           · skip
                             all_goals (refine zex ?_; have hts := QpW hdf (by omega); obtain ⟨c1, hle2, hS, hk1⟩ := St.freezeL (r := tyR) hS hlo rfl (by omega); have hrow := Q1N (k := 3) (r := t.r) hk1; have hls := hls.up hle2; obtain ⟨ao, no, rfl⟩ := Rep.SR.shape hk1; refine Q0 ?_; refine Q0 ?_; refine Q1 ?_; refine zv hS ?_; refine zR2 (c := Qvm (.mk 3 t.r ts) hrow (by omega) (by omega) hS) (h := ?_); rintro v1 w1 ⟨rfl, hS⟩)
                             all_goals (first | (refine Q12 ?_) | (refine Q15 ?_) | (refine Qq rfl rfl (fun hc => ?_) (fun hc => ?_)))
                             all_goals (refine zn ?_)
                             all_goals
                               first
                               | (refine Q3 rfl ?_ -- Q8 c11
                                  all_goals (refine Q0 ?_; refine Q1 ?_; refine zm ?_; refine zm ?_; refine zn ?_; have hM : rmk m j.f s x = .error 19 := (by rw [QuI (by omega), Q9 hjt, Q9 hts]; exact if_pos (by omega)); refine zr ?_; refine zf2 ?_)
                                  all_goals (first | (exact ⟨_, rfl, cx, _, St.refl hS, cd_e hM, Q2z hM, hS.sp⟩) | (exact ⟨_, rfl, cx, _, St.refl hS, cd_o hM, Q1g hM (Rep.SR.nil _ _ _), hS.sp⟩) | (exact ⟨_, rfl, cx, _, St.refl hS, cd_w hM hw, Q1g hM (Rep.SR.nil _ _ _), hS.sp⟩) | (obtain ⟨c9, hle9, hS, hk9⟩ := St.freeze1 (r := tyR) (L := KLf j s vl css L) hS.sp (hN : tyR.at _ _ number); exact ⟨_, rfl, c9, _, hle9, cd_c hC, Q6b hT hk9, hS⟩) | (obtain ⟨c9, hle9, hS, hk9⟩ := St.freeze1 (r := tyR) (L := KLf j s vl css L) hS.sp (hN : tyR.at _ _ number); exact ⟨_, rfl, c9, _, hle9, cd_o hM, Q1g hM hk9, hS⟩) | (obtain ⟨c9, hle9, hS, hk9⟩ := St.freeze1 (r := tyR) (L := KLf j s vl css L) hS.sp hrow; exact ⟨_, rfl, c9, _, hle9, cd_o hM, Q1g hM hk9, hS⟩) | (obtain ⟨c9, hle9, hS, hk9⟩ := St.freeze1 (r := tyR) (L := KLf j s vl css L) hS.sp hrow; exact ⟨_, rfl, c9, _, hle2.trans hle9, cd_o hM, Q1g hM hk9, hS⟩) | (exact ⟨_, rfl, c1, _, hle2, cd_e hM, Q2z hM, hS.sp⟩)))
                               | (refine Q4 rfl ?_ -- Q8 c11
                                  all_goals refine zsk ?_)
                             all_goals (refine Q0 ?_; refine Q1 ?_; refine zv hS ?_; refine Q3l (cs := [_, _, _]) vw (by rfl) ?_; intro ob w1 hb1 hf1 _ hk1; have hS := hS.laid hb1 hf1 hk1; refine zm ?_; refine zm ?_; refine zn ?_; have hM : rmk m j.f s x = .ok [.mk 3 t.r ts] := (by rw [QuI (by omega), Q9 hjt, Q9 hts]; exact if_neg (by omega)); refine zr ?_; refine zf2 ?_)
                             all_goals (first | (exact ⟨_, rfl, cx, _, St.refl hS, cd_e hM, Q2z hM, hS.sp⟩) | (exact ⟨_, rfl, cx, _, St.refl hS, cd_o hM, Q1g hM (Rep.SR.nil _ _ _), hS.sp⟩) | (exact ⟨_, rfl, cx, _, St.refl hS, cd_w hM hw, Q1g hM (Rep.SR.nil _ _ _), hS.sp⟩) | (obtain ⟨c9, hle9, hS, hk9⟩ := St.freeze1 (r := tyR) (L := KLf j s vl css L) hS.sp (hN : tyR.at _ _ number); exact ⟨_, rfl, c9, _, hle9, cd_c hC, Q6b hT hk9, hS⟩) | (obtain ⟨c9, hle9, hS, hk9⟩ := St.freeze1 (r := tyR) (L := KLf j s vl css L) hS.sp (hN : tyR.at _ _ number); exact ⟨_, rfl, c9, _, hle9, cd_o hM, Q1g hM hk9, hS⟩) | (obtain ⟨c9, hle9, hS, hk9⟩ := St.freeze1 (r := tyR) (L := KLf j s vl css L) hS.sp hrow; exact ⟨_, rfl, c9, _, hle9, cd_o hM, Q1g hM hk9, hS⟩) | (obtain ⟨c9, hle9, hS, hk9⟩ := St.freeze1 (r := tyR) (L := KLf j s vl css L) hS.sp hrow; exact ⟨_, rfl, c9, _, hle2.trans hle9, cd_o hM, Q1g hM hk9, hS⟩)))
                        | (refine Q4 rfl ?_ -- Q8 c7
                           all_goals (refine Q0 ?_; refine Q0 ?_; refine Q1 ?_)
                           all_goals (first | (refine Qv ?_) | (refine QB ?_) | (refine Qn rfl rfl (fun hc => ?_) (fun hc => ?_)))
                           all_goals (refine zm ?_; refine zn ?_)
                           all_goals
                             first
                             | (refine Q3 rfl ?_ -- Q8 c12
                                all_goals refine zsk ?_)
                             | (refine Q4 rfl ?_ -- Q8 c12
                                all_goals (refine Q1 ?_)
                                all_goals (first | (refine Qv ?_) | (refine QB ?_) | (refine Qn rfl rfl (fun hc => ?_) (fun hc => ?_)))
                                all_goals (refine zm ?_)
                                all_goals refine zn ?_)
                           all_goals
                             first
                             | (refine Q4 rfl ?_ -- Q8 c13
                                all_goals (refine Q0 ?_; refine Q1 ?_)
                                all_goals (first | (refine Qv ?_) | (refine QB ?_) | (refine Qn rfl rfl (fun hc => ?_) (fun hc => ?_)))
                                all_goals (refine zm ?_; refine zn ?_)
                                all_goals
                                  first
                                  | (refine Q3 rfl ?_ -- Q8 c19
                                     all_goals (refine Q0 ?_; refine Q0 ?_; refine zC [(0, none), (1, none), (2, none), (4, none), (5, none), (6, none), (3, some (some [6])), (7, some none), (8, some none), (9, some none), (10, some none)] ?_; have hS := hS.drew; refine s_cq ?_; refine zm ?_; refine zt ?_; refine s_cq ?_; refine Q2 rfl ?_; refine zt ?_; refine s_cq ?_; refine zl hS ?_; refine zt ?_; refine s_cq ?_; refine zm ?_; refine zt ?_; refine s_cq ?_; refine Q2 rfl ?_; refine zt ?_; refine s_cq ?_; refine zl hS ?_; refine zt ?_; refine QU ?_; refine zR4 (c := Q2H (s := s) (k := x.a) (kd := 2) (held := true) hls hS.p3) (h := ?_); rintro v1 w1 ⟨rfl, hS⟩; refine zt ?_; refine zy ?_; refine s_cf ?_; refine zR4 (c := Q2H (s := s) (k := x.b) (kd := 1) (held := false) hls hS.p3) (h := ?_); rintro v1 w1 ⟨rfl, hS⟩; refine zt ?_; refine s_cf ?_; refine QgV (cs := [_, _]) vw vw (by rfl) ?_; intro fb w1 hb1 hf1 _ hk1; have hS := hS.laid hb1 hf1 hk1; have hS := St.slOf (es := 1) (css := [Q1b s x.a 2 true, Q1b s x.b 1 false].map Q36) hS rfl (by simp [Q36]) rfl; refine zt ?_; refine s_cf ?_; refine zR1 (c := Qgb (xs := [Q1b s x.a 2 true, Q1b s x.b 1 false]) (by simp) hS) (h := ?_); rintro v1 w1 ⟨rfl, hS⟩)
                                     all_goals (refine zt ?_; refine s_cf ?_; refine zm ?_; refine zt ?_; refine zcn ?_; refine Q0 ?_; refine Q1 ?_; refine zm ?_)
                                     all_goals (first | (refine QZ ?_) | (refine Q10 ?_) | (refine Qp rfl rfl (fun hc => ?_) (fun hc => ?_)))
                                     all_goals (refine zn ?_)
                                     all_goals
                                       first
                                       | (refine Q3 rfl ?_ -- Q8 c20
                                          all_goals (refine Q0 ?_; refine Q1 ?_; refine zm ?_; refine zm ?_; refine zm ?_; refine zn ?_; have hM : rmk m j.f s x = .error (Q1Z [Q1b s x.a 2 true, Q1b s x.b 1 false]) := (by rw [rmk_8 (by omega), QaO, Q4P]; exact Qto (Qhj _ _ _) (by rw [← QaO, ← Q4P]; omega) _); refine zr ?_; refine zf2 ?_)
                                          all_goals (exact ⟨_, rfl, cx, _, St.refl hS, cd_e hM, Q2z hM, hS.sp⟩))
                                       | (refine Q4 rfl ?_ -- Q8 c20
                                          all_goals refine zsk ?_)
                                     all_goals (refine Q0 ?_; obtain ⟨t, tb, hjt, hjb⟩ := Qtn (x := jat s x.a 2) (y := jkind s x.b 1) (Qhj _ _ _) (Q3j _ _ _) (by rw [← QaO, ← Q4P]; omega); obtain ⟨g0, ht, hk, hb⟩ := Qer hjt; have g1 := (List.getElem?_eq_some_iff.1 ht).1; obtain ⟨d, hd, hrd⟩ := hls.2 _ _ ht; obtain ⟨vd, rfl, hld⟩ := Qf hrd; refine zD [(0, none), (1, none), (2, none), (3, none), (4, none), (5, none), (6, none), (7, none), (8, none), (9, none), (10, some none), (11, none), (12, some none)] ?_; have hS := hS.drew; refine zm ?_; refine Qi rfl ?_; refine Q2 rfl ?_; refine zl hS ?_; refine Q2 rfl ?_; refine zl hS ?_; refine Q3L hS vw rfl fd (by omega) (by omega) ?_; intro b1 o1 hel1; (first | refine Q2 rfl ?_ | refine Q1d rfl ?_); refine Q42 (j := 1) hS hel1 rfl fd rfl hd rfl ?_; refine zb2 [_, _, _] ?_; refine Q3l (cs := [_, _, _]) vw (by rfl) ?_; intro ob w1 hb1 hf1 _ hk1; have hS := hS.laid hb1 hf1 hk1; refine zm ?_; refine zm ?_; refine zn ?_; have hM : rmk m j.f s x = .ok [.mk 4 t.r []] := (by rw [rmk_8 (by omega), Q9 hjt, Q9 hjb]); have hrow : ∀ {c : Cx}, tyR.at c [.int .i64 4, .int .i64 t.r, .slice none 0 0] (.mk 4 t.r []) := Q1N (Rep.SR.nil _ _ _))
                                     all_goals (refine zr ?_; refine zf2 ?_)
                                     all_goals (first | (exact ⟨_, rfl, cx, _, St.refl hS, cd_e hM, Q2z hM, hS.sp⟩) | (exact ⟨_, rfl, cx, _, St.refl hS, cd_o hM, Q1g hM (Rep.SR.nil _ _ _), hS.sp⟩) | (exact ⟨_, rfl, cx, _, St.refl hS, cd_w hM hw, Q1g hM (Rep.SR.nil _ _ _), hS.sp⟩) | (obtain ⟨c9, hle9, hS, hk9⟩ := St.freeze1 (r := tyR) (L := KLf j s vl css L) hS.sp (hN : tyR.at _ _ number); exact ⟨_, rfl, c9, _, hle9, cd_c hC, Q6b hT hk9, hS⟩) | (obtain ⟨c9, hle9, hS, hk9⟩ := St.freeze1 (r := tyR) (L := KLf j s vl css L) hS.sp (hN : tyR.at _ _ number); exact ⟨_, rfl, c9, _, hle9, cd_o hM, Q1g hM hk9, hS⟩) | (obtain ⟨c9, hle9, hS, hk9⟩ := St.freeze1 (r := tyR) (L := KLf j s vl css L) hS.sp hrow; exact ⟨_, rfl, c9, _, hle9, cd_o hM, Q1g hM hk9, hS⟩)))
                                  | (refine Q4 rfl ?_ -- Q8 c19
                                     all_goals (refine Q0 ?_; refine Q1 ?_)
                                     all_goals (first | (refine Qv ?_) | (refine QB ?_) | (refine Qn rfl rfl (fun hc => ?_) (fun hc => ?_)))
                                     all_goals (refine zm ?_; refine zn ?_)
                                     all_goals
                                       first
                                       | (refine Q3 rfl ?_ -- Q8 c21
                                          all_goals (refine Q0 ?_; refine zC [(0, none), (1, none), (2, none), (3, none), (5, none), (6, none), (7, none), (4, some (some [7])), (8, some (some [])), (9, some (some [])), (10, some (some [])), (11, none), (12, some none)] ?_; have hS := hS.drew; refine s_cq ?_; refine zm ?_; refine zt ?_; refine s_cq ?_; refine zm ?_; refine zt ?_; refine s_cq ?_; refine Q2 rfl ?_; refine zt ?_; refine s_cq ?_; refine zl hS ?_; refine zt ?_; refine s_cq ?_; refine zm ?_; refine zt ?_; refine s_cq ?_; refine Q2 rfl ?_; refine zt ?_; refine s_cq ?_; refine zl hS ?_; refine zt ?_; refine QU ?_; refine zR4 (c := Q2H (s := s) (k := x.a) (kd := 4) (held := true) hls hS.p3) (h := ?_); rintro v1 w1 ⟨rfl, hS⟩; refine zt ?_; refine zy ?_; refine QU ?_; refine zR4 (c := Q2H (s := s) (k := x.b) (kd := 1) (held := false) hls hS.p3) (h := ?_); rintro v1 w1 ⟨rfl, hS⟩; refine zt ?_; refine zy ?_; refine QU ?_; refine QgV (cs := [_, _]) vw vw (by rfl) ?_; intro fb w1 hb1 hf1 _ hk1; have hS := hS.laid hb1 hf1 hk1; have hS := St.slOf (es := 1) (css := [Q1b s x.a 4 true, Q1b s x.b 1 false].map Q36) hS rfl (by simp [Q36]) rfl; refine zt ?_; refine zy ?_; refine QU ?_; refine zR1 (c := Qgb (xs := [Q1b s x.a 4 true, Q1b s x.b 1 false]) (by simp) hS) (h := ?_); rintro v1 w1 ⟨rfl, hS⟩)
                                          all_goals (refine zt ?_; refine zy ?_; refine s_cq ?_; refine zm ?_; refine zt ?_; refine s_cf ?_; refine zm ?_; refine zt ?_; refine zcn ?_)
                                          all_goals (have hC : QL (rmk m j.f s x) = Q1Z [Q1b s x.a 4 true, Q1b s x.b 1 false] := (by rw [rmk_9 (by omega), QaO, Q4P]; exact Qn7 (Qhj _ _ _) (Q3j _ _ _) _); have hT : ∀ ts, rmk m j.f s x = .ok ts → ts = [number] := (fun ts h => by rw [rmk_9 (by omega)] at h; exact ok1 h fun _ h => ok1 h fun _ h => by cases h; rfl))
                                          all_goals (refine zr ?_; refine zf2 ?_)
                                          all_goals (first | (exact ⟨_, rfl, cx, _, St.refl hS, cd_e hM, Q2z hM, hS.sp⟩) | (exact ⟨_, rfl, cx, _, St.refl hS, cd_o hM, Q1g hM (Rep.SR.nil _ _ _), hS.sp⟩) | (exact ⟨_, rfl, cx, _, St.refl hS, cd_w hM hw, Q1g hM (Rep.SR.nil _ _ _), hS.sp⟩) | (obtain ⟨c9, hle9, hS, hk9⟩ := St.freeze1 (r := tyR) (L := KLf j s vl css L) hS.sp (hN : tyR.at _ _ number); exact ⟨_, rfl, c9, _, hle9, cd_c hC, Q6b hT hk9, hS⟩)))
                                       | (refine Q4 rfl ?_ -- Q8 c21
                                          all_goals (refine Q0 ?_; refine Q1 ?_)
                                          all_goals (first | (refine Qv ?_) | (refine QB ?_) | (refine Qn rfl rfl (fun hc => ?_) (fun hc => ?_)))
                                          all_goals (refine zm ?_; refine zn ?_)
                                          all_goals
                                            first
                                            | (refine Q3 rfl ?_ -- Q8 c22
                                               all_goals (refine Q0 ?_; refine zC [(0, none), (1, none), (2, none), (4, none), (5, none), (6, none), (8, none), (9, none), (10, none), (3, some (some [6, 10])), (7, some (some [10])), (11, some none), (12, some none), (13, some none), (14, none), (15, some none)] ?_; have hS := hS.drew; refine s_cq ?_; refine zm ?_; refine zt ?_; refine s_cq ?_; refine Q2 rfl ?_; refine zt ?_; refine s_cq ?_; refine zl hS ?_; refine zt ?_; refine s_cq ?_; refine zm ?_; refine zt ?_; refine s_cq ?_; refine Q2 rfl ?_; refine zt ?_; refine s_cq ?_; refine zl hS ?_; refine zt ?_; refine s_cq ?_; refine zm ?_; refine zt ?_; refine s_cq ?_; refine Q2 rfl ?_; refine zt ?_; refine s_cq ?_; refine zl hS ?_; refine zt ?_; refine QU ?_; refine zR4 (c := Q2H (s := s) (k := x.a) (kd := 4) (held := true) hls hS.p3) (h := ?_); rintro v1 w1 ⟨rfl, hS⟩; refine zt ?_; refine zy ?_; refine QU ?_; refine zR4 (c := Q2H (s := s) (k := x.b) (kd := 1) (held := false) hls hS.p3) (h := ?_); rintro v1 w1 ⟨rfl, hS⟩; refine zt ?_; refine zy ?_; refine s_cf ?_; refine zR4 (c := Q2H (s := s) (k := x.c) (kd := 1) (held := false) hls hS.p3) (h := ?_); rintro v1 w1 ⟨rfl, hS⟩)
                                               all_goals (refine zt ?_; refine s_cf ?_; refine QuB (cs := [_, _, _]) vw vw vw (by rfl) ?_; intro fb w1 hb1 hf1 _ hk1; have hS := hS.laid hb1 hf1 hk1; have hS := St.slOf (es := 1) (css := [Q1b s x.a 4 true, Q1b s x.b 1 false, Q1b s x.c 1 false].map Q36) hS rfl (by simp [Q36]) rfl; refine zt ?_; refine s_cf ?_; refine zR1 (c := Qgb (xs := [Q1b s x.a 4 true, Q1b s x.b 1 false, Q1b s x.c 1 false]) (by simp) hS) (h := ?_); rintro v1 w1 ⟨rfl, hS⟩; refine zt ?_; refine s_cq ?_; refine zm ?_; refine zt ?_; refine s_cf ?_; refine zm ?_; refine zt ?_; refine zcn ?_)
                                               all_goals (have hC : QL (rmk m j.f s x) = Q1Z [Q1b s x.a 4 true, Q1b s x.b 1 false, Q1b s x.c 1 false] := (by rw [QuL (by omega), QaO, Q4P, Q4P]; exact first3_c (Qhj _ _ _) (Q3j _ _ _) (Q3j _ _ _) _); have hT : ∀ ts, rmk m j.f s x = .ok ts → ts = [] := (fun ts h => by rw [QuL (by omega)] at h; exact ok1 h fun _ h => ok1 h fun _ h => ok1 h fun _ h => by cases h; rfl))
                                               all_goals (refine zr ?_; refine zf2 ?_)
                                               all_goals (first | (exact ⟨_, rfl, cx, _, St.refl hS, cd_e hM, Q2z hM, hS.sp⟩) | (exact ⟨_, rfl, cx, _, St.refl hS, cd_o hM, Q1g hM (Rep.SR.nil _ _ _), hS.sp⟩) | (exact ⟨_, rfl, cx, _, St.refl hS, cd_w hM hw, Q1g hM (Rep.SR.nil _ _ _), hS.sp⟩) | (obtain ⟨c9, hle9, hS, hk9⟩ := St.freeze1 (r := tyR) (L := KLf j s vl css L) hS.sp (hN : tyR.at _ _ number); exact ⟨_, rfl, c9, _, hle9, cd_c hC, Q6b hT hk9, hS⟩) | (obtain ⟨c9, hle9, hS, hk9⟩ := St.freeze1 (r := tyR) (L := KLf j s vl css L) hS.sp (hN : tyR.at _ _ number); exact ⟨_, rfl, c9, _, hle9, cd_o hM, Q1g hM hk9, hS⟩) | (obtain ⟨c9, hle9, hS, hk9⟩ := St.freeze1 (r := tyR) (L := KLf j s vl css L) hS.sp hrow; exact ⟨_, rfl, c9, _, hle9, cd_o hM, Q1g hM hk9, hS⟩) | (obtain ⟨c9, hle9, hS, hk9⟩ := St.freeze1 (r := tyR) (L := KLf j s vl css L) hS.sp hrow; exact ⟨_, rfl, c9, _, hle2.trans hle9, cd_o hM, Q1g hM hk9, hS⟩) | (exact ⟨_, rfl, c1, _, hle2, cd_e hM, Q2z hM, hS.sp⟩) | (exact ⟨_, rfl, cx, _, St.refl hS, cd_c hC, Q6b hT (Rep.SR.nil _ _ _), hS.sp⟩)))
                                            | (refine Q4 rfl ?_ -- Q8 c22
                                               all_goals (refine Q0 ?_; refine Q1 ?_)
                                               all_goals (first | (refine Qv ?_) | (refine QB ?_) | (refine Qn rfl rfl (fun hc => ?_) (fun hc => ?_)))
                                               all_goals (refine zm ?_; refine zn ?_)
                                               all_goals
                                                 first
                                                 | (refine Q3 rfl ?_ -- Q8 c23
                                                    all_goals (refine Q0 ?_; refine Q1 ?_; refine zm ?_; refine zm ?_; refine Q2 rfl ?_; refine zl hS ?_; refine zR4 (c := Q2H (s := s) (k := x.a) (kd := 4) (held := true) hls hS.p3) (h := ?_); rintro v1 w1 ⟨rfl, hS⟩; refine zm ?_; refine zm ?_; refine zn ?_)
                                                    all_goals (have hC : QL (rmk m j.f s x) = Q1b s x.a 4 true := (by rw [QuK (by omega), QaO]; cases jat s x.a 4 <;> rfl); have hT : ∀ ts, rmk m j.f s x = .ok ts → ts = [number] := (fun ts h => by rw [QuK (by omega)] at h; exact ok1 h fun _ h => by cases h; rfl))
                                                    all_goals (refine zr ?_; refine zf2 ?_)
                                                    all_goals (first | (exact ⟨_, rfl, cx, _, St.refl hS, cd_e hM, Q2z hM, hS.sp⟩) | (exact ⟨_, rfl, cx, _, St.refl hS, cd_o hM, Q1g hM (Rep.SR.nil _ _ _), hS.sp⟩) | (exact ⟨_, rfl, cx, _, St.refl hS, cd_w hM hw, Q1g hM (Rep.SR.nil _ _ _), hS.sp⟩) | (obtain ⟨c9, hle9, hS, hk9⟩ := St.freeze1 (r := tyR) (L := KLf j s vl css L) hS.sp (hN : tyR.at _ _ number); exact ⟨_, rfl, c9, _, hle9, cd_c hC, Q6b hT hk9, hS⟩)))
                                                 | (refine Q4 rfl ?_ -- Q8 c23
                                                    all_goals (refine Q0 ?_; refine Q1 ?_)
                                                    all_goals (first | (refine Qv ?_) | (refine QB ?_) | (refine Qn rfl rfl (fun hc => ?_) (fun hc => ?_)))
                                                    all_goals (refine zm ?_; refine zn ?_)
                                                    all_goals
                                                      first
                                                      | (refine Q3 rfl ?_ -- Q8 c24
                                                         all_goals (refine Q0 ?_; refine Q1 ?_; refine zm ?_; refine Q2 rfl ?_; refine zl hS ?_; refine zR4 (c := Q2H (s := s) (k := x.a) (kd := 1) (held := false) hls hS.p3) (h := ?_); rintro v1 w1 ⟨rfl, hS⟩; refine zm ?_; refine zm ?_; refine zn ?_)
                                                         all_goals (have hC : QL (rmk m j.f s x) = Q1b s x.a 1 false := (by rw [QuJ (by omega), Q4P]; cases jkind s x.a 1 <;> rfl); have hT : ∀ ts, rmk m j.f s x = .ok ts → ts = [] := (fun ts h => by rw [QuJ (by omega)] at h; exact ok1 h fun _ h => by cases h; rfl))
                                                         all_goals (refine zr ?_; refine zf2 ?_)
                                                         all_goals (first | (exact ⟨_, rfl, cx, _, St.refl hS, cd_e hM, Q2z hM, hS.sp⟩) | (exact ⟨_, rfl, cx, _, St.refl hS, cd_o hM, Q1g hM (Rep.SR.nil _ _ _), hS.sp⟩) | (exact ⟨_, rfl, cx, _, St.refl hS, cd_w hM hw, Q1g hM (Rep.SR.nil _ _ _), hS.sp⟩) | (obtain ⟨c9, hle9, hS, hk9⟩ := St.freeze1 (r := tyR) (L := KLf j s vl css L) hS.sp (hN : tyR.at _ _ number); exact ⟨_, rfl, c9, _, hle9, cd_c hC, Q6b hT hk9, hS⟩) | (obtain ⟨c9, hle9, hS, hk9⟩ := St.freeze1 (r := tyR) (L := KLf j s vl css L) hS.sp (hN : tyR.at _ _ number); exact ⟨_, rfl, c9, _, hle9, cd_o hM, Q1g hM hk9, hS⟩) | (obtain ⟨c9, hle9, hS, hk9⟩ := St.freeze1 (r := tyR) (L := KLf j s vl css L) hS.sp hrow; exact ⟨_, rfl, c9, _, hle9, cd_o hM, Q1g hM hk9, hS⟩) | (obtain ⟨c9, hle9, hS, hk9⟩ := St.freeze1 (r := tyR) (L := KLf j s vl css L) hS.sp hrow; exact ⟨_, rfl, c9, _, hle2.trans hle9, cd_o hM, Q1g hM hk9, hS⟩) | (exact ⟨_, rfl, c1, _, hle2, cd_e hM, Q2z hM, hS.sp⟩) | (exact ⟨_, rfl, cx, _, St.refl hS, cd_c hC, Q6b hT (Rep.SR.nil _ _ _), hS.sp⟩)))
                                                      | (refine Q4 rfl ?_ -- Q8 c24
                                                         all_goals refine zsk ?_))))))
                             | (refine Q3 rfl ?_ -- Q8 c13
                                all_goals (refine Q0 ?_; refine Q0 ?_; refine Q1 ?_; refine zm ?_; refine Q2 rfl ?_; refine zl hS ?_; refine zR4 (c := Q2H (s := s) (k := x.a) (kd := 3) (held := true) hls hS.p3) (h := ?_); rintro v1 w1 ⟨rfl, hS⟩; refine zm ?_; refine zn ?_; refine Q0 ?_; refine Q1 ?_; refine zm ?_)
                                all_goals (first | (refine QZ ?_) | (refine Q10 ?_) | (refine Qp rfl rfl (fun hc => ?_) (fun hc => ?_)))
                                all_goals (refine zn ?_)
                                all_goals
                                  first
                                  | (refine Q3 rfl ?_ -- Q8 c14
                                     all_goals (refine Q0 ?_; refine Q1 ?_; refine zm ?_; refine zm ?_; refine zm ?_; refine zn ?_; have hM : rmk m j.f s x = .error (Q1b s x.a 3 true) := rmk_67e (by omega) (Qgk (by omega)); refine zr ?_; refine zf2 ?_)
                                     all_goals (exact ⟨_, rfl, cx, _, St.refl hS, cd_e hM, Q2z hM, hS.sp⟩))
                                  | (refine Q4 rfl ?_ -- Q8 c14
                                     all_goals refine zsk ?_)
                                all_goals (refine Q0 ?_; refine Q0 ?_; have hxk := Q64 hF (by omega); obtain ⟨t, g0, g1, ht, hk, hb, hjt⟩ := Qmw (s := s) (k := x.a) (kd := 3) (by omega); obtain ⟨d, hd, hrd⟩ := hls.2 _ _ ht; have hrt := hrd; obtain ⟨vd, rfl, hld⟩ := Qf hrd; refine zD [(0, none), (1, none), (2, none), (3, none), (4, none), (5, none), (6, none), (7, none), (8, none), (9, none), (10, none), (11, none), (12, some none)] ?_; have hS := hS.drew; refine Q2 rfl ?_; refine zl hS ?_; refine zm ?_; refine Qi rfl ?_; refine Q2 rfl ?_; refine zl hS ?_; refine Q2 rfl ?_; refine zl hS ?_; refine Q3L hS vw rfl fd (by omega) (by omega) ?_; intro b1 o1 hel1; (first | refine Q2 rfl ?_ | refine Q1d rfl ?_); refine Q42 (j := 2) hS hel1 rfl fd rfl hd rfl ?_; refine Quv vw hld ?_)
                                all_goals (first | (refine Q3f ?_) | (refine Q3g ?_) | (refine Q1A rfl rfl (fun hc => ?_) (fun hc => ?_)))
                                all_goals (refine zn ?_)
                                all_goals
                                  first
                                  | (refine Q3 rfl ?_ -- Q8 c15
                                     all_goals (refine Q0 ?_; refine Q1 ?_; refine zm ?_; refine zm ?_; refine zn ?_; have hM : rmk m j.f s x = .error 9 := rmk_67f (by omega) hjt (List.getElem?_eq_none (by omega)); refine zr ?_; refine zf2 ?_)
                                     all_goals (exact ⟨_, rfl, cx, _, St.refl hS, cd_e hM, Q2z hM, hS.sp⟩))
                                  | (refine Q4 rfl ?_ -- Q8 c15
                                     all_goals refine zsk ?_)
                                all_goals (refine Q0 ?_; refine zC [(0, none), (1, none), (2, none), (3, none), (4, none), (5, none), (6, none), (7, none), (8, none), (9, none), (10, none), (11, none), (12, none), (13, some (some [3, 5, 8, 10, 12])), (14, some none)] ?_; have hS := hS.drew; refine s_cq ?_; refine zm ?_; refine zt ?_; refine s_cq ?_; refine Qi rfl ?_; refine zt ?_; refine s_cq ?_; refine Q2 rfl ?_; refine zt ?_; refine s_cq ?_; refine zl hS ?_; refine zt ?_; refine s_cq ?_; refine Q2 rfl ?_; refine zt ?_; refine s_cq ?_; refine zl hS ?_; refine zt ?_; refine s_cq ?_; refine Q3L hS vw rfl fd (by omega) (by omega) ?_; intro b2 o2 hel2; refine zt ?_; refine s_cq ?_; (first | refine Q2 rfl ?_ | refine Q1d rfl ?_); refine zt ?_; refine s_cq ?_; refine Q42 (j := 2) hS hel2 rfl fd rfl hd rfl ?_; refine zt ?_; refine s_cq ?_; refine Q2 rfl ?_; refine zt ?_; refine s_cq ?_; refine zl hS ?_; refine zt ?_; refine s_cq ?_; refine Qmd vw rfl hld rfl (by omega) (by omega) ?_; intro b3 o3 cs3 u3 hat3 hu3 hru3; have hrow := hru3; obtain ⟨vu3, rfl, hlu3⟩ := Qf hru3; have hjf := QtM hu3)
                                all_goals (refine zt ?_; refine s_cq ?_; (first | (refine zv hS ?_) | (refine zvk hS ?_)); refine zt ?_; refine QU ?_; refine Qd hS ?_; intro p12 w1 hS; refine zt ?_; refine ⟨List.forall_mem_cons.2 ⟨(by first | (exact Q46 (j := 2) hS hel2 rfl fd rfl hd rfl) | (exact Q18 hS rfl fd rfl)), List.forall_mem_cons.2 ⟨(by first | (exact Q46 (j := 2) hS hel2 rfl fd rfl hd rfl) | (exact Q18 hS rfl fd rfl)), List.forall_mem_cons.2 ⟨(by (exact Q46 (j := 2) hS hel2 rfl fd rfl hd rfl)), List.forall_mem_cons.2 ⟨(by first | (exact Q46 (j := 2) hS hel2 rfl fd rfl hd rfl) | (exact Q18 hS rfl fd rfl)), List.forall_mem_cons.2 ⟨(by first | (exact Q46 (j := 2) hS hel2 rfl fd rfl hd rfl) | (exact Q2i hS rfl fd rfl rfl) | (exact Q3D hS (by assumption) rfl rfl rfl)), fun _ h => (List.not_mem_nil h).elim⟩⟩⟩⟩⟩, ?_⟩)
                                all_goals (refine s_cf ?_; refine zsn hS ?_; intro w1 hS; have hS := hS.ns; refine zt ?_; refine zcn ?_; refine Q0 ?_; refine Q0 ?_; refine Q1 ?_; refine Q2 rfl ?_; refine zl hS ?_)
                                all_goals (first | (refine Qv ?_) | (refine QB ?_))
                                all_goals (refine zn ?_)
                                all_goals
                                  first
                                  | (refine Q3 rfl ?_ -- Q8 c16
                                     all_goals (refine Q0 ?_; refine Q1 ?_; refine zv hS ?_; refine Q3l (cs := [_, _, _]) vw (by rfl) ?_; intro ob w1 hb1 hf1 _ hk1; have hS := hS.laid hb1 hf1 hk1; refine zm ?_; refine zm ?_; refine zn ?_; have hM : rmk m j.f s x = .ok [u3] := (by rw [rmk_6 (by omega), Q9 hjt, Q9 hjf]); refine zr ?_; refine zf2 ?_)
                                     all_goals (first | (exact ⟨_, rfl, cx, _, St.refl hS, cd_e hM, Q2z hM, hS.sp⟩) | (exact ⟨_, rfl, cx, _, St.refl hS, cd_o hM, Q1g hM (Rep.SR.nil _ _ _), hS.sp⟩) | (exact ⟨_, rfl, cx, _, St.refl hS, cd_w hM hw, Q1g hM (Rep.SR.nil _ _ _), hS.sp⟩) | (obtain ⟨c9, hle9, hS, hk9⟩ := St.freeze1 (r := tyR) (L := KLf j s vl css L) hS.sp (hN : tyR.at _ _ number); exact ⟨_, rfl, c9, _, hle9, cd_c hC, Q6b hT hk9, hS⟩) | (obtain ⟨c9, hle9, hS, hk9⟩ := St.freeze1 (r := tyR) (L := KLf j s vl css L) hS.sp (hN : tyR.at _ _ number); exact ⟨_, rfl, c9, _, hle9, cd_o hM, Q1g hM hk9, hS⟩) | (obtain ⟨c9, hle9, hS, hk9⟩ := St.freeze1 (r := tyR) (L := KLf j s vl css L) hS.sp hrow; exact ⟨_, rfl, c9, _, hle9, cd_o hM, Q1g hM hk9, hS⟩)))
                                  | (refine Q4 rfl ?_ -- Q8 c16
                                     all_goals refine zsk ?_)
                                all_goals (refine Q0 ?_; refine Q0 ?_; refine zD [(0, none), (1, none), (2, none), (3, none), (4, none), (5, none), (6, none), (7, none), (8, none), (9, none), (10, none), (11, none), (12, some none)] ?_; have hS := hS.drew; refine Q2 rfl ?_; refine zl hS ?_)
                                all_goals (first | (refine Q1L ?_) | (refine Q1M ?_) | (refine QE rfl rfl (fun hc => ?_) (fun hc => ?_)))
                                all_goals (refine zm ?_; (first | refine s_gn rfl rfl ?_ | (refine s_gy rfl ?_; refine Q2 rfl ?_)); (first | refine s_gn rfl rfl ?_ | (refine s_gy rfl ?_; refine zl hS ?_)); (first | refine s_gn rfl rfl ?_ | (refine s_gy rfl ?_; refine zm ?_)); (first | refine s_gn rfl rfl ?_ | (refine s_gy rfl ?_; refine Qi rfl ?_)); (first | refine s_gn rfl rfl ?_ | (refine s_gy rfl ?_; refine Q2 rfl ?_)); (first | refine s_gn rfl rfl ?_ | (refine s_gy rfl ?_; refine zl hS ?_)); (first | refine s_gn rfl rfl ?_ | (refine s_gy rfl ?_; refine Q1P hS vw fd hlc ?_)))
                                all_goals (first | refine s_gn rfl rfl ?_ | (refine s_gy rfl ?_; (first | (refine Q3f ?_) | (refine Q3g ?_) | (refine Q1A rfl rfl (fun hc => ?_) (fun hc => ?_)))))
                                all_goals ((first | (refine zpt ?_) | (refine zpf ?_)); refine zn ?_)
                                all_goals
                                  first
                                  | (refine Q3 rfl ?_ -- Q8 c17
                                     all_goals (refine Q0 ?_; refine Q1 ?_; refine zm ?_; refine zm ?_; refine zn ?_; have hM : rmk m j.f s x = .error 1 := (by rw [QtC (by omega), Q9 hjt, Q9 hjf, Qt (Q5R (by omega))]); refine zr ?_; refine zf2 ?_)
                                     all_goals (exact ⟨_, rfl, cx, _, St.refl hS, cd_e hM, Q2z hM, hS.sp⟩))
                                  | (refine Q4 rfl ?_ -- Q8 c17
                                     all_goals refine zsk ?_)
                                all_goals (refine Q0 ?_; refine Q0 ?_; obtain ⟨t4, ht4⟩ : ∃ t, s.l[x.b.toNat]? = some t := ⟨_, List.getElem?_eq_getElem (by omega)⟩; obtain ⟨d4, hd4, hrd4⟩ := hls.2 _ _ ht4; have hrt4 := hrd4; obtain ⟨vd4, rfl, hld4⟩ := Qf hrd4; have hj4 := Q44 (s := s) (k := x.b) (by omega) ht4; refine zD [(0, none), (1, none), (2, none), (3, none), (4, none), (5, none), (6, none), (7, none), (8, none), (9, some none), (10, some none)] ?_; have hS := hS.drew; refine zv hS ?_; refine zm ?_; refine Qi rfl ?_; refine Q2 rfl ?_; refine zl hS ?_; refine Q2 rfl ?_; refine zl hS ?_; refine Q3L hS vw rfl fd (by omega) (by omega) ?_; intro b4 o4 hel4; refine Q6o hS hel4 rfl fd rfl hd4 ?_)
                                all_goals (refine zR2 (c := QrD _ _ hrow hrt4 hS) (h := ?_); rintro v1 w1 ⟨rfl, hS⟩; cases hdc : decide (u3 = t4))
                                all_goals (refine Q1O rfl ?_; refine zn ?_)
                                all_goals
                                  first
                                  | (refine Q3 rfl ?_ -- Q8 c18
                                     all_goals (refine Q0 ?_; refine Q1 ?_; refine zm ?_; refine zm ?_; refine zn ?_; have hM : rmk m j.f s x = .error 9 := (by rw [QtC (by omega), Q9 hjt, Q9 hjf, Q9 hj4]; exact if_pos (of_decide_eq_false hdc)); refine zr ?_; refine zf2 ?_)
                                     all_goals (exact ⟨_, rfl, cx, _, St.refl hS, cd_e hM, Q2z hM, hS.sp⟩))
                                  | (refine Q4 rfl ?_ -- Q8 c18
                                     all_goals refine zsk ?_)
                                all_goals (refine Q0 ?_; refine Q1 ?_; refine zm ?_; refine zm ?_; refine zn ?_)
                                all_goals (have hM : rmk m j.f s x = .ok [] := (by rw [QtC (by omega), Q9 hjt, Q9 hjf, Q9 hj4]; exact if_neg (fun h => h (of_decide_eq_true hdc))))
                                all_goals (refine zr ?_; refine zf2 ?_)
                                all_goals (first | (exact ⟨_, rfl, cx, _, St.refl hS, cd_e hM, Q2z hM, hS.sp⟩) | (exact ⟨_, rfl, cx, _, St.refl hS, cd_o hM, Q1g hM (Rep.SR.nil _ _ _), hS.sp⟩)))
                           all_goals (refine Q0 ?_; have hk := Qq6 hF (by omega); have hop14 : x.op = 14 := (by omega); refine zC [(0, none), (1, none), (2, none), (3, none), (4, none), (5, none), (6, none), (7, none), (8, none), (9, some (some [4, 6, 8])), (10, some none)] ?_; have hS := hS.drew; refine s_cq ?_; refine zm ?_; refine zt ?_; refine s_cq ?_; refine Qi rfl ?_; refine zt ?_; refine s_cq ?_; refine Q2 rfl ?_; refine zt ?_; refine s_cq ?_; refine Q2 rfl ?_; refine zt ?_; refine s_cq ?_; refine zl hS ?_; refine zt ?_; refine s_cq ?_; refine Q2 rfl ?_; refine zt ?_; refine s_cq ?_; refine zl hS ?_; refine zt ?_; refine s_cq ?_; ((first | refine zi ?_ | refine zj ?_); intro b2 o2 cs2 x2 hat2 hx2 he2; obtain ⟨vp2, vr2, vb2, rfl, hp2, hr2, hb2⟩ := Q1e he2); refine zt ?_; refine s_cq ?_; (first | (refine zv hS ?_) | (refine zvk hS ?_)); refine zt ?_; refine QU ?_; refine Qd hS ?_; intro p14 w1 hS; refine zt ?_; refine zy ?_; refine s_cf ?_; refine zsn hS ?_; intro w1 hS; have hS := hS.ns)
                           all_goals (refine zt ?_; refine zcn ?_; have ej := rcall_k (m := m) (f := j.f) (s := s) hop14 hx2; have hsf := hm.2 x2 (List.mem_of_getElem? hx2); have hrl := hr2.len; have hrs := hsf.2.1.1; refine Q0 ?_; refine Q0 ?_; refine Q1 ?_; refine Q2 rfl ?_; refine zl hS ?_; (first | (refine Q1P hS vw fd hlc ?_) | (refine zL ?_)); refine Q2 rfl ?_; refine zl hS ?_)
                           all_goals (first | (refine QZ ?_) | (refine Q10 ?_) | (refine Qp rfl rfl (fun hc => ?_) (fun hc => ?_)))
                           all_goals (refine zn ?_)
                           all_goals
                             first
                             | (refine Q3 rfl ?_ -- Q8 c25
                                all_goals (refine Q0 ?_; refine Q1 ?_; refine zm ?_; refine zm ?_; refine zn ?_; have hM : rmk m j.f s x = .error 2 := ej.trans (if_pos (by omega)); refine zr ?_; refine zf2 ?_)
                                all_goals (exact ⟨_, rfl, cx, _, St.refl hS, cd_e hM, Q2z hM, hS.sp⟩))
                             | (refine Q4 rfl ?_ -- Q8 c25
                                all_goals refine zsk ?_)
                           all_goals (refine Q0 ?_; refine Q0 ?_; refine Q1 ?_; refine zm ?_; refine zn ?_; refine Qa ?_)
                           refine zoL hS [0, 3, 14] (fun A LL ρ' w' => ∃ (q : Nat), Has ρ' A ∧ Has ρ' [(15, .int .i64 q)] ∧ (q ≤ x.regs.length) ∧ (Q2I s.h [] x.regs = Q2I s.h (x.regs.take q) (x.regs.drop q)) ∧ (¬ (x.regs.length : Int) ≠ x2.regs) ∧ St cx w' (LL)) (fun ρ' _ => (x.regs.length - iv (ρ' 15)).toNat) ?_ ?_
                           · exact ⟨0, zh, zh, (by omega), by rfl, by omega, hS.sp⟩
                           rintro ρ w1 ⟨q, hA, hρ, hq, hdr, hne, hS⟩; obtain ⟨ρ, rfl⟩ := env2 hA hρ
                           unfold Q4L
                           all_goals (refine Q0 ?_; refine Q0 ?_; refine Q1 ?_; refine zm ?_; refine Q2 rfl ?_; refine zl hS ?_; (first | (refine Q1P hS vw fd hlc ?_) | (refine zL ?_)); refine Qx rfl rfl ?_; refine zn ?_)
                           refine Qo rfl (fun hc => ?_) (fun hc => ?_)
                           · skip
                             all_goals (refine zsk ?_; refine Q0 ?_; refine Qa ?_; refine Q0 ?_; refine Q0 ?_; refine zD [(0, none), (1, none), (2, none), (3, none), (4, none), (5, none), (6, none), (7, none), (8, none), (9, some none), (10, some none)] ?_; have hS := hS.drew; refine zm ?_; refine Qi rfl ?_; refine Q2 rfl ?_; refine zl hS ?_; refine Q2 rfl ?_; refine zl hS ?_; refine zm ?_; refine zi ?_; intro b3 o3 cs3 x3 hat3 hx3 he3; obtain rfl := QJ he3; (first | (refine zl hS ?_) | (refine zlk hS ?_)))
                             all_goals (refine zR2 (c := QuO hS fd) (h := ?_); rintro v1 w1 ⟨rfl, hS⟩; cases hb1 : hasB s.h x3)
                             all_goals (refine Q1O rfl ?_; refine zn ?_)
                             all_goals
                               first
                               | (refine Q3 rfl ?_ -- Q8 c27
                                  all_goals (refine Q0 ?_; refine Q1 ?_; refine zm ?_; refine zm ?_; refine zn ?_; have hM : rmk m j.f s x = .error 10 := (by rw [ej, if_neg hne, Qt (Qv4 (p := []) hx3 hdr hb1)]); refine zr ?_; refine zf2 ?_)
                                  all_goals (exact ⟨_, rfl, cx, _, St.refl hS, cd_e hM, Q2z hM, hS.sp⟩))
                               | (refine Q4 rfl ?_ -- Q8 c27
                                  all_goals refine zsk ?_)
                             all_goals (refine Q0 ?_; refine zD [(0, none), (1, none), (2, none), (3, none), (4, none), (5, none), (6, none), (7, none), (8, none), (9, some none)] ?_; have hS := hS.drew; refine Q2 rfl ?_; refine zl hS ?_; refine zm ?_; refine Quk vw hr rfl rfl ⟨_, rfl⟩ rfl (by omega) (by omega) ?_; intro v4 hs4; rw [List.drop_zero] at hs4; refine Q2 rfl ?_; refine zl hS ?_; refine zm ?_; refine Q56 vw rfl hr rfl (by omega) ?_; intro b7 o7 cs7 x7 hat7 hx7 he7; obtain rfl := QJ he7; obtain rfl : x3 = x7 := Option.some.inj (hx3.symm.trans hx7); (first | (refine zl hS ?_) | (refine zlk hS ?_)))
                             all_goals (refine zR2 (c := rin_c hs4 hS) (h := ?_); rintro v1 w1 ⟨rfl, hS⟩; cases hb2 : decide (x3 ∈ x.regs.take q))
                             all_goals (refine zn ?_)
                             all_goals
                               first
                               | (refine Q3 rfl ?_ -- Q8 c28
                                  all_goals (refine Q0 ?_; refine Q1 ?_; refine zm ?_; refine zm ?_; refine zn ?_; have hM : rmk m j.f s x = .error 13 := (by rw [ej, if_neg hne, Qt (Qn0 hx3 hdr hb1 (of_decide_eq_true hb2))]); refine zr ?_; refine zf2 ?_)
                                  all_goals (exact ⟨_, rfl, cx, _, St.refl hS, cd_e hM, Q2z hM, hS.sp⟩))
                               | (refine Q4 rfl ?_ -- Q8 c28
                                  all_goals refine zsk ?_)
                             all_goals (refine Q1 ?_; refine zm ?_; refine zad ?_; refine zm ?_; refine zn ?_; exact ⟨⟨q + 1, zh, zh, (by omega), by exact Qv3 hx3 hdr hb1 (of_decide_eq_false hb2), hne, hS.sp⟩, Qr (by omega)⟩)
                           · skip
                             all_goals (refine zex ?_; have hrg := QrS hdr (by omega); refine Q0 ?_; refine Q0 ?_; refine Q1 ?_; refine zm ?_; refine Q2 rfl ?_; refine zl hS ?_; refine Q2 rfl ?_; refine zl hS ?_; refine Q2 rfl ?_; refine zl hS ?_; refine zR4 (c := QrH (s := s) hsf.1.2 hls ha hp2 hr hS.p3) (h := ?_); rintro v1 w1 ⟨rfl, hS⟩; refine zm ?_; refine zn ?_; refine Q0 ?_; refine Q1 ?_; refine zm ?_)
                             all_goals (first | (refine QZ ?_) | (refine Q10 ?_) | (refine Qp rfl rfl (fun hc => ?_) (fun hc => ?_)))
                             all_goals (refine zn ?_)
                             all_goals
                               first
                               | (refine Q3 rfl ?_ -- Q8 c29
                                  all_goals (refine Q0 ?_; refine Q1 ?_; refine zm ?_; refine zm ?_; refine zm ?_; refine zn ?_; have hM : rmk m j.f s x = .error (QL (Q61 s x.args x2.params x.regs)) := (by rw [ej, if_neg hne, Q9 hrg, Qt (Qgh (by omega))]); refine zr ?_; refine zf2 ?_)
                                  all_goals (exact ⟨_, rfl, cx, _, St.refl hS, cd_e hM, Q2z hM, hS.sp⟩))
                               | (refine Q4 rfl ?_ -- Q8 c29
                                  all_goals refine zsk ?_)
                             all_goals (refine Q0 ?_; refine Q1 ?_; refine zm ?_; refine zn ?_; have har := Qnx (Qa6 s x.args x2.params x.regs) (by omega); have hM : rmk m j.f s x = .ok (x2.results.map (renT x.regs)) := (by rw [ej, if_neg hne, Q9 hrg, Q9 har]); refine Q0 ?_; refine Q0 ?_; refine Q1 ?_; refine zm ?_; refine zn ?_; refine Qa ?_; have hS := St.nil (T := 112) (es := 3) hS)
                             refine zo [3, 14] (fun A ρ' w' => ∃ (k2 : Cx) (q : Nat) (vl2 : Value) (cs2 : List (List Value)), Has ρ' A ∧ Has ρ' [(18, .int .i64 q), (17, vl2)] ∧ (cx.Le k2) ∧ (q ≤ x2.results.length) ∧ (tyR.ls k2 cs2 ((x2.results.take q).map (renT x.regs))) ∧ St k2 w' (sl 112 3 vl2 cs2 :: blk p14 53 [.int .i64 x2.regs, vp2, vr2, vb2] :: blk nb 112 [.int .i64 1, .int .i64 0, .slice none 0 0] :: blk p3 57 [.int .i64 x.op, .int .i64 x.a, .int .i64 x.b, .int .i64 x.c, .int .i64 x.k, .int .i64 x.n, vr, va] :: blk j.sp 63 (j.kcells vl) :: Q7h j.hp s.h :: sl 112 3 vl css :: L)) (fun ρ' _ => (x2.results.length - iv (ρ' 18)).toNat) ?_ ?_
                             · exact ⟨cx, 0, _, _, zh, zh, St.refl hS, (by omega), Rep.LR.nil _ _ _, hS.sp⟩
                             rintro ρ w1 ⟨k2, q, vl2, cs2, hA, hρ, hle2, hq, hlo, hS⟩; obtain ⟨ρ, rfl⟩ := env2 hA hρ; have hL2 := hle2; (try have hp2 := hp2.up hle2); (try have hr2 := hr2.up hle2); (try have hb2 := hb2.up hle2); (try have he2 := he2.up hle2); (try have hls := hls.up hle2); (try have hr := hr.up hle2); (try have ha := ha.up hle2); (try have hm1 := hm1.up hle2)
                             unfold Q4K
                             all_goals (refine Q0 ?_; refine Q0 ?_; refine Q1 ?_; refine zm ?_; refine Q2 rfl ?_; refine zl hS ?_; (first | (refine Q1P hS vw fd hlc ?_) | (refine zL ?_)); refine Qx rfl rfl ?_; refine zn ?_)
                             refine Qo rfl (fun hc => ?_) (fun hc => ?_)
                             · skip
                               all_goals (refine zsk ?_; refine Q0 ?_; refine Qa ?_; refine Q0 ?_)
                               refine Q7z 7 11 (by kernel_rfl) ?_ ?_
                               · skip
                                 all_goals (refine zC [(0, none), (1, none), (2, none), (3, none), (4, none), (5, none), (6, none), (7, some none), (8, none), (9, none), (10, none), (11, some (some [])), (12, some (some [])), (13, some none)] ?_; have hS := hS.drew; refine s_cq ?_; refine Q2 rfl ?_; refine zt ?_; refine s_cq ?_; refine zl hS ?_; refine zt ?_; refine s_cq ?_; refine zm ?_; refine zt ?_; refine s_cq ?_; refine zi ?_; intro b4 o4 cs4 x4 hat4 hx4 he4; obtain ⟨vl4, rfl, hl4⟩ := Qf he4; refine zt ?_; refine s_cq ?_; (first | (refine zv hS ?_) | (refine zvk hS ?_)); refine zt ?_; refine s_cq ?_; refine Q2 rfl ?_; refine zt ?_; refine s_cq ?_; refine zl hS ?_; refine zt ?_; refine s_cf ?_)
                                 all_goals (refine zR2 (c := QuG x4 (hsf.2.1.2 x4 (List.mem_of_getElem? hx4)) he4 hr hS) (h := ?_); rintro v1 w1 ⟨c3, ds, rfl, hle2, hu3, hS⟩; (try have hL2 := hL2.trans hle2); (try have hp2 := hp2.up hle2); (try have hr2 := hr2.up hle2); (try have hb2 := hb2.up hle2); (try have hl4 := hl4.up hle2); (try have he2 := he2.up hle2); (try have he4 := he4.up hle2); (try have hls := hls.up hle2); (try have hr := hr.up hle2); (try have ha := ha.up hle2); (try have hm1 := hm1.up hle2); (try have hlo := hlo.up hle2); have hu3' := hu3; obtain ⟨vu, rfl, hlu⟩ := Qf hu3)
                                 all_goals (refine zt ?_; refine s_cq ?_; refine zm ?_; refine zt ?_; refine s_cq ?_; refine Q3z rfl rfl ?_; refine zt ?_; refine s_cq ?_; refine Q3z rfl rfl ?_; refine zt ?_; refine QU ?_; refine Qd hS ?_; intro p19 w1 hS; refine zt ?_; refine zy ?_; refine QU ?_; refine zsn hS ?_; intro w1 hS; have hS := hS.ns; refine zt ?_; refine zy ?_; refine s_cf ?_; refine zm ?_; refine zt ?_; refine zcn ?_; refine Q1 ?_; refine zm ?_; refine zv hS ?_; refine zB1 hS [_, _, _] ?_; intro b1 w1 hS; refine za Q38 Q5x hS ?_; intro vp2 w2 css2 hls2 hv2 hS; have hS := hS.ns; refine zm ?_; refine zn ?_; refine Q1 ?_; refine zm ?_; refine zad ?_; refine zm ?_; refine zn ?_; exact ⟨⟨_, q + 1, _, _, zh, zh, hL2, (by omega), by rw [Q1E hx4, List.map_append]; exact hls2, hS.sp⟩, Qr (by omega)⟩)
                               · skip
                                 all_goals (refine zC [(0, none), (1, none), (2, none), (3, none), (4, none), (5, none), (6, none), (11, some (some [1, 4, 6])), (7, some none), (8, none), (9, none), (10, none), (12, some (some [])), (13, some none)] ?_; have hS := hS.drew; refine s_cq ?_; refine Q2 rfl ?_; refine zt ?_; refine s_cq ?_; refine zl hS ?_; refine zt ?_; refine s_cq ?_; refine zm ?_; refine zt ?_; refine s_cq ?_; refine zi ?_; intro b4 o4 cs4 x4 hat4 hx4 he4; obtain ⟨vl4, rfl, hl4⟩ := Qf he4; refine zt ?_; refine s_cq ?_; (first | (refine zv hS ?_) | (refine zvk hS ?_)); refine zt ?_; refine s_cq ?_; refine Q2 rfl ?_; refine zt ?_; refine s_cq ?_; refine zl hS ?_; refine zt ?_; refine QU ?_; refine Qd hS ?_; intro p19 w1 hS; refine zt ?_; refine zy ?_; refine s_cf ?_)
                                 all_goals (refine zR2 (c := QuG x4 (hsf.2.1.2 x4 (List.mem_of_getElem? hx4)) he4 hr hS) (h := ?_); rintro v1 w1 ⟨c3, ds, rfl, hle2, hu3, hS⟩; (try have hL2 := hL2.trans hle2); (try have hp2 := hp2.up hle2); (try have hr2 := hr2.up hle2); (try have hb2 := hb2.up hle2); (try have hl4 := hl4.up hle2); (try have he2 := he2.up hle2); (try have he4 := he4.up hle2); (try have hls := hls.up hle2); (try have hr := hr.up hle2); (try have ha := ha.up hle2); (try have hm1 := hm1.up hle2); (try have hlo := hlo.up hle2); have hu3' := hu3; obtain ⟨vu, rfl, hlu⟩ := Qf hu3)
                                 all_goals (refine zt ?_; refine s_cq ?_; refine zm ?_; refine zt ?_; refine s_cq ?_; refine Q3z rfl rfl ?_; refine zt ?_; refine s_cq ?_; refine Q3z rfl rfl ?_; refine zt ?_; refine QU ?_; refine zsn hS ?_; intro w1 hS; have hS := hS.ns; refine zt ?_; refine zy ?_; refine s_cf ?_; refine zm ?_; refine zt ?_; refine zcn ?_; refine Q1 ?_; refine zm ?_; refine zv hS ?_; refine zB1 hS [_, _, _] ?_; intro b1 w1 hS; refine za Q38 Q5x hS ?_; intro vp2 w2 css2 hls2 hv2 hS; have hS := hS.ns; refine zm ?_; refine zn ?_; refine Q1 ?_; refine zm ?_; refine zad ?_; refine zm ?_; refine zn ?_; exact ⟨⟨_, q + 1, _, _, zh, zh, hL2, (by omega), by rw [Q1E hx4, List.map_append]; exact hls2, hS.sp⟩, Qr (by omega)⟩)
                             · skip
                               all_goals (refine zex ?_; refine Q0 ?_; refine Q1 ?_; refine zm ?_; refine zm ?_; refine zm ?_; refine zn ?_; refine zr ?_; refine zf2 ?_)
                               all_goals (first | (exact ⟨_, rfl, cx, _, St.refl hS, cd_e hM, Q2z hM, hS.sp⟩) | (exact ⟨_, rfl, cx, _, St.refl hS, cd_o hM, Q1g hM (Rep.SR.nil _ _ _), hS.sp⟩) | (exact ⟨_, rfl, cx, _, St.refl hS, cd_w hM hw, Q1g hM (Rep.SR.nil _ _ _), hS.sp⟩) | (obtain ⟨c9, hle9, hS, hk9⟩ := St.freeze1 (r := tyR) (L := KLf j s vl css L) hS.sp (hN : tyR.at _ _ number); exact ⟨_, rfl, c9, _, hle9, cd_c hC, Q6b hT hk9, hS⟩) | (obtain ⟨c9, hle9, hS, hk9⟩ := St.freeze1 (r := tyR) (L := KLf j s vl css L) hS.sp (hN : tyR.at _ _ number); exact ⟨_, rfl, c9, _, hle9, cd_o hM, Q1g hM hk9, hS⟩) | (obtain ⟨c9, hle9, hS, hk9⟩ := St.freeze1 (r := tyR) (L := KLf j s vl css L) hS.sp hrow; exact ⟨_, rfl, c9, _, hle9, cd_o hM, Q1g hM hk9, hS⟩) | (obtain ⟨c9, hle9, hS, hk9⟩ := St.freeze1 (r := tyR) (L := KLf j s vl css L) hS.sp hrow; exact ⟨_, rfl, c9, _, hle2.trans hle9, cd_o hM, Q1g hM hk9, hS⟩) | (exact ⟨_, rfl, c1, _, hle2, cd_e hM, Q2z hM, hS.sp⟩) | (exact ⟨_, rfl, cx, _, St.refl hS, cd_c hC, Q6b hT (Rep.SR.nil _ _ _), hS.sp⟩) | (have hM : rmk m j.f s x = .error 11 := (by rw [QrE (by omega), Q9 hjt, if_pos (by omega)]); exact ⟨_, rfl, cx, _, St.refl hS, cd_e hM, Q2z hM, hS.sp⟩) | (have hM : rmk m j.f s x = .ok [] := (by rw [QrE (by omega), Q9 hjt, if_neg (by omega)]); exact ⟨_, rfl, cx, _, St.refl hS, cd_w hM hw, Q1g hM (Rep.SR.nil _ _ _), hS.sp⟩) | (obtain ⟨c9, hle9, hS, hk9⟩ := St.freezeL (r := tyR) hS hlo rfl (by simp only [List.length_map, List.length_take]; omega); exact ⟨_, rfl, c9, _, hL2.trans hle9, cd_o hM, Q1g hM (by rw [List.take_of_length_le (by omega)] at hk9; exact hk9), hS.sp⟩)))))))
end Go.Proofs.YtanlkfeogoganaaGreat
namespace Go.Proofs.YtanlkfeogoganaaGreat
open Go.Lir
set_option maxHeartbeats 1000000
attribute [local irreducible] LC.wp Q5 Q11 Q1c retQ Q2b LO.wp QD Calls
set_option linter.unusedSimpArgs false
set_option linter.unusedVariables false
attribute [local irreducible] hasB Q1W Q1o Q1I Q3A upTo Q1b Q1Z rmk jIns
variable {cx : Cx} {w : World} {L : List Res} {j : JP} {h : List Bool} {vl : Value} {css : List (List Value)} {i : Nat} {m : Module}
theorem Q5a {s s' : JS} {x : Ins} {c : Int} {c' : Cx} {vl' : Value} {css' : List (List Value)} (hJ : jIns m j.f s x = (c, s')) (hle : cx.Le c') (hls : tyR.ls c' css' s'.l) (hS : St c' w (KLf j s' vl' css' L)) :
    ∃ c' vl' css', cx.Le c' ∧ (Value.int .i64 c) = .int .i64 (jIns m j.f s x).1 ∧ tyR.ls c' css' (jIns m j.f s x).2.l ∧ St c' w (KLf j (jIns m j.f s x).2 vl' css' L) := by
  rw [hJ]; exact ⟨_, _, _, hle, rfl, hls, hS⟩
theorem rIns_c {s : JS} {x : Ins} {cs : List Value} (hm : m.Short) (hg : JInv m j.f s) (hj : j.Fits cx m) (hx : insR.at cx cs x) (hls : tyR.ls cx css s.l) (hS : St cx w (KLf j s vl css L)) :
    Rets Tryz.prog Q1C [.pointer (some ⟨j.sp, 0, none⟩), .agg ⟨cs⟩] w fun u w' => ∃ c' vl' css', cx.Le c' ∧ u = .int .i64 (jIns m j.f s x).1 ∧ tyR.ls c' css' (jIns m j.f s x).2.l ∧ St c' w' (KLf j (jIns m j.f s x).2 vl' css' L) := by
  have hx' := hx
  have hlc := hls.1
  have hn := hg.n
  have hh := hg.h
  have hlen : (s.h.map QK).length = s.h.length := List.length_map _
  obtain ⟨vr, va, rfl, hr, ha⟩ := Q1J hx
  all_goals refine Qlo ?_
  all_goals (unfold R_Known_Ins_lc; refine Q0 ?_; refine Q1 ?_; refine zb hS ?_; intro p3 w1 hS; refine zm ?_; refine zn ?_; refine Q0 ?_; refine Q0 ?_; refine zD [(0, none), (1, none), (2, none), (3, none), (4, none), (5, some none), (6, some none)] ?_; have hS := hS.drew; refine zm ?_; refine Qi rfl ?_; refine Q2 rfl ?_; refine zv hS ?_; refine zv hS ?_; refine zR2 (c := rins_c (m := m) ⟨_, rfl, hj.m⟩ hx' hS) (h := ?_); rintro v1 w1 ⟨rfl, hS⟩; refine zm ?_; refine zn ?_; refine Q0 ?_; refine Q1 ?_; refine zm ?_)
  all_goals (first | (refine QZ ?_) | (refine Q10 ?_) | (refine Qp rfl rfl (fun hc => ?_) (fun hc => ?_)))
  all_goals (refine zn ?_)
  all_goals
    first
    | (refine Q3 rfl ?_ -- Q1C c0
       all_goals (refine Q0 ?_; refine Q1 ?_; refine zm ?_; refine zm ?_; refine zn ?_; have hJ := jIns_f (f := j.f) (s := s) (x := x) (m := m) (by omega); refine zr ?_; refine zf ?_)
       all_goals (exact ⟨_, rfl, Q5a hJ (St.refl hS) hls hS.sp⟩))
    | (refine Q4 rfl ?_ -- Q1C c0
       all_goals refine zsk ?_)
  all_goals (refine Q0 ?_; have hF : QF m.funcs.length x = 0 := (by omega); refine Q1 ?_; refine zm ?_; refine zv hS ?_; refine zR2 (c := rmakes_c (s := s) hm hF hg.toJGood hj hx' hls hS.p3) (h := ?_); rintro v1 w1 ⟨c1, vm1, hle2, rfl, hv0, hS⟩; have hls := hls.up hle2; refine zm ?_; refine Q3z rfl rfl ?_; refine Q3z rfl rfl ?_; refine zm ?_; refine zm ?_; refine zn ?_; refine Q0 ?_; refine Q0 ?_; refine Q1 ?_; refine zm ?_)
  all_goals (first | (refine QZ ?_) | (refine Q10 ?_) | (refine Qp rfl rfl (fun hc => ?_) (fun hc => ?_)))
  all_goals (refine zn ?_)
  all_goals
    first
    | (refine Q3 rfl ?_ -- Q1C c1
       all_goals (refine Q0 ?_; refine Q1 ?_; refine zm ?_; refine zm ?_; refine zn ?_; have hJ := jIns_e (f := j.f) (s := s) hF hg (by omega); refine zr ?_; refine zf ?_)
       all_goals (first | (exact ⟨_, rfl, Q5a hJ (St.refl hS) hls hS.sp⟩) | (exact ⟨_, rfl, Q5a hJ hle2 hls hS.sp⟩)))
    | (refine Q4 rfl ?_ -- Q1C c1
       all_goals refine zsk ?_)
  all_goals (refine Q0 ?_; refine Q0 ?_; obtain ⟨ts, hts⟩ := Qgg (rmk_nz m j.f s x) (by omega); have hv := hv0 ts hts; have hvl := hv.len; refine Q1 ?_; refine zm ?_; refine Qi rfl ?_; refine Q2 rfl ?_; refine zl hS ?_; refine Q1P hS vw fd hlc ?_; refine zm ?_; refine Quv vw hv ?_; refine zad ?_)
  all_goals (first | (refine Q12 ?_) | (refine Q15 ?_) | (refine Qq rfl rfl (fun hc => ?_) (fun hc => ?_)))
  all_goals (refine zn ?_)
  all_goals
    first
    | (refine Q3 rfl ?_ -- Q1C c2
       all_goals (refine Q0 ?_; refine Q1 ?_; refine zm ?_; refine zn ?_; have hJ := jIns_m hF hg hts (by omega); refine zr ?_; refine zf ?_)
       all_goals (first | (exact ⟨_, rfl, Q5a hJ (St.refl hS) hls hS.sp⟩) | (exact ⟨_, rfl, Q5a hJ hle2 hls hS.sp⟩)))
    | (refine Q4 rfl ?_ -- Q1C c2
       all_goals refine zsk ?_)
  all_goals (refine Q0 ?_; refine Q0 ?_; refine Q1 ?_; refine Q2 rfl ?_; refine zl hS ?_)
  all_goals (first | (refine Qv ?_) | (refine QB ?_) | (refine Qn rfl rfl (fun hc => ?_) (fun hc => ?_)))
  all_goals (refine zn ?_)
  all_goals
    first
    | (refine Q3 rfl ?_ -- Q1C c3
       all_goals (obtain ⟨vh, hS⟩ := Q3o (hp := j.hp) (h := s.h) (L := blk j.sp 63 (j.kcells vl) :: sl 112 3 vl css :: blk p3 57 [.int .i64 x.op, .int .i64 x.a, .int .i64 x.b, .int .i64 x.c, .int .i64 x.k, .int .i64 x.n, vr, va] :: L) hS.sp; have h16 := rmk_3ok hts (by omega); have hJ := jIns_o3 hF hg hts (by omega) (by omega); refine zC [(0, none), (1, none), (2, none), (3, none), (4, none), (5, none), (6, none), (7, none), (8, none), (9, none), (10, none), (11, some (some [3, 7, 10])), (12, some (some [3])), (13, none), (14, none), (15, some none)] ?_; have hS := hS.drew; refine s_cq ?_; refine zm ?_; refine zt ?_; refine s_cq ?_; refine Qi rfl ?_; refine zt ?_; refine s_cq ?_; refine Q2 rfl ?_; refine zt ?_; refine s_cq ?_; refine zl hS ?_; refine zt ?_; refine s_cq ?_; refine zm ?_; refine zt ?_; refine s_cq ?_; refine Qi rfl ?_; refine zt ?_; refine s_cq ?_; refine Q2 rfl ?_; refine zt ?_; refine s_cq ?_; refine zl hS ?_; refine zt ?_; refine s_cq ?_; refine Qi rfl ?_; refine zt ?_; refine s_cq ?_; refine Q2 rfl ?_; refine zt ?_; refine s_cq ?_; refine zl hS ?_)
       all_goals (refine zt ?_; refine QU ?_; refine zB1 hS [_] ?_; intro b1 w1 hS; refine zt ?_; refine zy ?_; refine QU ?_; refine Qme Qq9 (.inl u_T70) hS vw vw fd (hS.srcB1 fd rfl) (by simp; omega) ?_; intro vp w2 hS; have hS := hS.ns; rw [show s.h.map QK ++ [[Value.bool true]] = (s.h ++ [true]).map QK by simp [QK]] at hS; refine zt ?_; refine zy ?_; refine s_cq ?_; refine Qi rfl ?_; refine zt ?_; refine s_cq ?_; refine Q2 rfl ?_; refine zt ?_; refine s_cf ?_; refine zst hS ?_; intro w1 hS; have hS := hS.ns; refine zt ?_; refine zcn ?_)
       all_goals (have hS := Q37 (hp := j.hp) (h := s.h ++ [true]) (v := vp) (L := blk j.sp 63 (j.kcells vl) :: sl 112 3 vl css :: blk p3 57 [.int .i64 x.op, .int .i64 x.a, .int .i64 x.b, .int .i64 x.c, .int .i64 x.k, .int .i64 x.n, vr, va] :: L) hS.sp))
    | (refine Q4 rfl ?_ -- Q1C c3
       all_goals refine zsk ?_)
  all_goals (refine Q0 ?_; refine Q0 ?_; refine Q1 ?_; refine Q2 rfl ?_; refine zl hS ?_)
  all_goals (first | (refine Qv ?_) | (refine QB ?_) | (refine Qn rfl rfl (fun hc => ?_) (fun hc => ?_)))
  all_goals (refine zn ?_)
  all_goals
    first
    | (refine Q4 rfl ?_ -- Q1C c4
       all_goals refine zsk ?_)
    | (refine Q3 rfl ?_ -- Q1C c4
       all_goals (obtain ⟨vh, hS⟩ := Q3o (hp := j.hp) (h := s.h) (L := blk j.sp 63 (j.kcells vl) :: sl 112 3 vl css :: blk p3 57 [.int .i64 x.op, .int .i64 x.a, .int .i64 x.b, .int .i64 x.c, .int .i64 x.k, .int .i64 x.n, vr, va] :: L) hS.sp; obtain ⟨t, g0, g1, ht, r0, r1⟩ := rmk_4ok hts (by omega); have hJ := jIns_o4 hF hg hts (by omega) (by omega) ht; obtain ⟨d, hd, hrd⟩ := hls.2 _ _ ht; obtain ⟨vd, rfl, hld⟩ := Qf hrd; refine zD [(0, none), (1, none), (2, none), (3, none), (4, none), (5, none), (6, none), (7, none), (8, none), (9, none), (10, none), (11, none), (12, none), (13, none), (14, none), (15, none), (16, none), (17, some none)] ?_; have hS := hS.drew; refine zm ?_; refine Qi rfl ?_; refine Q2 rfl ?_; refine zl hS ?_; refine Qi rfl ?_; refine Q2 rfl ?_; refine zl hS ?_; refine zm ?_; refine Qi rfl ?_; refine Q2 rfl ?_; refine zl hS ?_; refine Q2 rfl ?_; refine zl hS ?_)
       all_goals (refine Q3L hS vw rfl fd (by omega) (by omega) ?_; intro b1 o1 hel1; (first | refine Q2 rfl ?_ | refine Q1d rfl ?_); refine Q42 (j := 1) hS hel1 rfl fd rfl hd rfl ?_; refine Q3L hS vw rfl fd (by omega) (by omega) ?_; intro b2 o2 hel2; refine Qg8 hS hel2 rfl vw fd rfl (Q2c QK s.h false (by omega)) (by decide) rfl ?_; intro w2 hS; have hS := hS.ns; rw [show (QK (s.h.getD t.r.toNat false)).set 0 (Value.bool false) = QK false from rfl, map_set] at hS; refine zn ?_)
       all_goals (have hS := Q37 (hp := j.hp) (h := s.h.set t.r.toNat false) (v := vh) (L := blk j.sp 63 (j.kcells vl) :: sl 112 3 vl css :: blk p3 57 [.int .i64 x.op, .int .i64 x.a, .int .i64 x.b, .int .i64 x.c, .int .i64 x.k, .int .i64 x.n, vr, va] :: L) hS.sp))
  all_goals (refine Q0 ?_; refine Q1 ?_; refine zm ?_; refine zm ?_; refine Qi rfl ?_; refine Q2 rfl ?_; refine zl hS ?_; refine zm ?_; (first | (refine za Q38 Q5x hS ?_; intro vp1 w1 css1 hls1 hv1 hS; have hS := hS.ns) | (refine zak Q38 Q5x hS ?_; intro vp1 w1 css1 hls1 hv1 hS; have hS := hS.ns)); refine Qi rfl ?_; refine Q2 rfl ?_; refine zst hS ?_; intro w1 hS; have hS := hS.ns; refine zn ?_; refine Q0 ?_; refine Q1 ?_; refine zm ?_; refine zn ?_; refine zr ?_; refine zf ?_; (first | (exact ⟨_, rfl, Q5a hJ (St.refl hS) hls hS.sp⟩) | (exact ⟨_, rfl, Q5a hJ hle2 hls hS.sp⟩) | (exact ⟨_, rfl, Q5a hJ hle2 hls1 hS.sp⟩) | (exact ⟨_, rfl, Q5a (jIns_o hF hg hts (by omega) (by omega) (by omega)) hle2 hls1 hS.sp⟩)))
theorem rTo_c {s : JS} {t : To} {cs : List Value} (hsf : j.f.Short) (hb : 0 ≤ t.block ∧ t.block < j.f.blocks.length) (hfb : ∀ b ∈ j.f.blocks, j.f.regs ≤ b.regs) (hh : s.h.length ≤ 16) (hj : j.Fits cx m) (hx : toR.at cx cs t) (hls : tyR.ls cx css s.l) (hS : St cx w (KLf j s vl css L)) :
    Rets Tryz.prog Q2P [.pointer (some ⟨j.sp, 0, none⟩), .agg ⟨cs⟩] w fun u w' => u = .int .i64 (QL (jto j.f s t)) ∧ St cx w' (KLf j s vl css L) := by
  have hx' := hx
  obtain ⟨vr, va, rfl, hr, ha⟩ := Q7x hx
  have hlr := hr.len
  have hbl := hj.b
  all_goals refine QoF ?_
  all_goals (unfold R_Known_to_lc; refine Q0 ?_; refine Q1 ?_; refine zb hS ?_; intro p3 w1 hS; refine zm ?_; refine zn ?_; refine Q0 ?_; refine zC [(0, none), (1, none), (2, none), (3, none), (4, none), (5, none), (6, none), (7, none), (8, none), (9, some (some [4, 6, 8])), (10, some none)] ?_; have hS := hS.drew; refine s_cq ?_; refine zm ?_; refine zt ?_; refine s_cq ?_; refine Qi rfl ?_; refine zt ?_; refine s_cq ?_; refine Q2 rfl ?_; refine zt ?_; refine s_cq ?_; (first | refine Q2 rfl ?_ | refine Q1d rfl ?_); refine zt ?_; refine s_cq ?_; refine zl hS ?_; refine zt ?_; refine s_cq ?_; refine Q2 rfl ?_; refine zt ?_; refine s_cq ?_; refine zl hS ?_; refine zt ?_; refine s_cq ?_; ((first | refine zi ?_ | refine zj ?_); intro b1 o1 cs1 x1 hat1 hx1 he1; obtain ⟨vp1, vc1, ve11, ve12, ve13, ve14, ve15, rfl, hp1, hc1, he11, he12, he13, he14, he15⟩ := Q2N he1); refine zt ?_; refine s_cq ?_; (first | (refine zv hS ?_) | (refine zvk hS ?_)); refine zt ?_; refine QU ?_; refine Qd hS ?_; intro p5 w1 hS; refine zt ?_; refine zy ?_; refine s_cf ?_; refine zsn hS ?_; intro w1 hS; have hS := hS.ns)
  all_goals (refine zt ?_; refine zcn ?_; have hbm := List.mem_of_getElem? hx1; have hf1 := hfb x1 hbm; have hsb := hsf.2.2.2 x1 hbm; refine Q0 ?_; refine Q0 ?_; refine Q1 ?_; refine Q2 rfl ?_; refine zl hS ?_; refine zL ?_; refine Q2 rfl ?_; refine zl hS ?_)
  all_goals (first | (refine QZ ?_) | (refine Q10 ?_) | (refine Qp rfl rfl (fun hc => ?_) (fun hc => ?_)))
  all_goals (refine zn ?_)
  all_goals
    first
    | (refine Q3 rfl ?_ -- Q2P c0
       all_goals (refine Q0 ?_; refine Q1 ?_; refine zm ?_; refine zn ?_; refine zr ?_; refine zf ?_)
       all_goals (refine ⟨_, rfl, ?_, hS.sp⟩; rw [Qv2 hx1 (by omega)]; rfl; done))
    | (refine Q4 rfl ?_ -- Q2P c0
       all_goals refine zsk ?_)
  all_goals (refine Q0 ?_; refine Q0 ?_; refine Q1 ?_; refine zm ?_; refine zn ?_; refine Qa ?_)
  refine zoL hS [0, 3, 5] (fun A LL ρ' w' => ∃ (q : Nat), Has ρ' A ∧ Has ρ' [(6, .int .i64 q)] ∧ (q ≤ j.f.regs.toNat) ∧ (Q3A t.regs q = true) ∧ (¬ (t.regs.length : Int) ≠ x1.regs) ∧ St cx w' (LL)) (fun ρ' _ => (j.f.regs - iv (ρ' 6)).toNat) ?_ ?_
  · exact ⟨0, zh, zh, (by omega), by unfold Q3A; rfl, by omega, hS.sp⟩
  rintro ρ w1 ⟨q, hA, hρ, hq, hk, hne, hS⟩; obtain ⟨ρ, rfl⟩ := env2 hA hρ
  unfold QaL
  all_goals (refine Q0 ?_; refine Q0 ?_; refine Q1 ?_; refine zm ?_; refine zm ?_; refine Qi rfl ?_; refine Q2 rfl ?_; (first | refine Q2 rfl ?_ | refine Q1d rfl ?_); refine zl hS ?_; refine Qx rfl rfl ?_; refine zn ?_)
  refine Qo rfl (fun hc => ?_) (fun hc => ?_)
  · skip
    all_goals (refine zsk ?_; refine Q0 ?_; refine Qa ?_; refine Q0 ?_; refine Q1 ?_; refine Q2 rfl ?_; refine zl hS ?_; refine zm ?_; refine zi ?_; intro b2 o2 cs2 x2 hat2 hx2 he2; obtain rfl := QJ he2; (first | (refine zl hS ?_) | (refine zlk hS ?_)); refine zm ?_)
    all_goals (first | (refine QZ ?_) | (refine Q10 ?_) | (refine Qp rfl rfl (fun hc => ?_) (fun hc => ?_)))
    all_goals (refine zn ?_)
    all_goals
      first
      | (refine Q3 rfl ?_ -- Q2P c2
         all_goals (refine Q0 ?_; refine Q1 ?_; refine zm ?_; refine zn ?_; refine zr ?_; refine zf ?_)
         all_goals (first | (refine ⟨_, rfl, ?_, hS.sp⟩; rw [Qv2 hx1 (by omega)]; rfl; done) | (refine ⟨_, rfl, ?_, hS.sp⟩; rw [Qtj hx1 hne (QmT (q := q) (by omega) (by rw [hx2]; intro h; cases h; omega))]; rfl; done)))
      | (refine Q4 rfl ?_ -- Q2P c2
         all_goals refine zsk ?_)
    all_goals (refine Q1 ?_; refine zm ?_; refine zad ?_; refine zm ?_; refine zn ?_; exact ⟨⟨q + 1, zh, zh, (by omega), by rw [kept_s, hk, hx2]; simp; omega, hne, hS.sp⟩, Qr (by omega)⟩)
  · skip
    all_goals (refine zex ?_; have hq' : q = j.f.regs.toNat := (by omega); rw [hq'] at hk; refine Q0 ?_; refine Q0 ?_; refine zD [(0, none), (1, none), (2, none), (3, none), (4, none), (5, none), (6, some none), (7, some none)] ?_; have hS := hS.drew; refine zm ?_; refine Qi rfl ?_; refine Q2 rfl ?_; refine zl hS ?_; refine Q2 rfl ?_; refine zl hS ?_; refine zR2 (c := rpass_h (h := s.h) hh hr hS fd) (h := ?_); rintro v1 w1 ⟨rfl, hS⟩; refine zm ?_; refine zn ?_; refine Q0 ?_; refine Q1 ?_; refine zm ?_)
    all_goals (first | (refine QZ ?_) | (refine Q10 ?_) | (refine Qp rfl rfl (fun hc => ?_) (fun hc => ?_)))
    all_goals (refine zn ?_)
    all_goals
      first
      | (refine Q3 rfl ?_ -- Q2P c3
         all_goals (refine Q0 ?_; refine Q1 ?_; refine zm ?_; refine zm ?_; refine zn ?_; refine zr ?_; refine zf ?_)
         all_goals (first | (refine ⟨_, rfl, ?_, hS.sp⟩; rw [Qv2 hx1 (by omega)]; rfl; done) | (refine ⟨_, rfl, ?_, hS.sp⟩; rw [Qtj hx1 hne (QmT (q := q) (by omega) (by rw [hx2]; intro h; cases h; omega))]; rfl; done) | (refine ⟨_, rfl, ?_, hS.sp⟩; rw [jto_p hx1 hne hk (by omega)]; rfl; done)))
      | (refine Q4 rfl ?_ -- Q2P c3
         all_goals refine zsk ?_)
    all_goals (refine Q0 ?_; refine Q1 ?_; refine zm ?_; refine Q2 rfl ?_; refine zl hS ?_; refine Q2 rfl ?_; refine zl hS ?_; refine Q2 rfl ?_; refine zl hS ?_; refine zR4 (c := QrH (s := s) hsb.1.2 hls ha hp1 hr hS.p3) (h := ?_); rintro v1 w1 ⟨rfl, hS⟩; refine zm ?_; refine zn ?_; refine zr ?_; refine zf ?_)
    all_goals (first | (refine ⟨_, rfl, ?_, hS.sp⟩; rw [Qv2 hx1 (by omega)]; rfl; done) | (refine ⟨_, rfl, ?_, hS.sp⟩; rw [Qtj hx1 hne (QmT (q := q) (by omega) (by rw [hx2]; intro h; cases h; omega))]; rfl; done) | (refine ⟨_, rfl, ?_, hS.sp⟩; rw [jto_p hx1 hne hk (by omega)]; rfl; done) | (refine ⟨_, rfl, ?_, hS.sp⟩; rw [jto_a hx1 hne hk (by omega)]; done))
end Go.Proofs.YtanlkfeogoganaaGreat
namespace Go.Proofs.YtanlkfeogoganaaGreat
open Go.Lir
set_option maxHeartbeats 1000000
attribute [local irreducible] LC.wp Q5 Q11 Q1c retQ Q2b LO.wp QD Calls
set_option linter.unusedSimpArgs false
set_option linter.unusedVariables false
attribute [local irreducible] hasB Q1W Q1o Q1I Q3A upTo Q1b Q1Z rmk jIns jEnd Module.fault
variable {cx : Cx} {w : World} {L : List Res} {j : JP} {h : List Bool} {vl : Value} {css : List (List Value)} {i : Nat} {m : Module}
theorem jto_nz (f : Fun) (s : JS) (t : To) : NZ (jto f s t) := by
  unfold jto
  split
  · exact .e (by decide)
  · split
    · exact .e (by decide)
    · split
      · exact .e (by decide)
      · split
        · rename_i h; exact .e h
        · exact Qa6 _ _ _ _
theorem rEnd_c {s : JS} {e : Tail} {cs : List Value} (hsf : j.f.Short) (hfb : ∀ b ∈ j.f.blocks, j.f.regs ≤ b.regs) (hf0 : 0 ≤ j.f.regs) (hfr : j.f.regs ≤ 100000) (hg : JInv m j.f s) (hj : j.Fits cx m) (hx : endR.at cx cs e) (hls : tyR.ls cx css s.l) (hS : St cx w (KLf j s vl css L)) :
    Rets Tryz.prog Q13 [.pointer (some ⟨j.sp, 0, none⟩), .agg ⟨cs⟩] w fun u w' => u = .int .i64 (jEnd j.f s e) ∧ St cx w' (KLf j s vl css L) := by
  have hx' := hx
  have hh := hg.h
  obtain ⟨v1, v2, v3, v4, v5, rfl, h1, h2, h3, h4, h5⟩ := Q47 hx
  have hT1 : toR.at cx [.int .i64 e.yes.block, v1, v2] e.yes := ⟨_, _, rfl, h1, h2⟩
  have hT2 : toR.at cx [.int .i64 e.no.block, v3, v4] e.no := ⟨_, _, rfl, h3, h4⟩
  have hjr := hj.r
  all_goals refine QlA ?_
  all_goals (unfold R_Known_End_lc; refine Q0 ?_; refine Q1 ?_; refine zb hS ?_; intro p3 w1 hS; refine zm ?_; refine zn ?_; refine Q0 ?_; refine Q0 ?_; refine zD [(0, none), (1, none), (2, none), (3, none), (4, none), (5, some none), (6, some none)] ?_; have hS := hS.drew; refine zm ?_; refine Qi rfl ?_; refine Q2 rfl ?_; refine zv hS ?_; refine zv hS ?_; refine zR2 (c := rend_c (x := j.f) ⟨_, _, _, rfl, hj.p, hj.r, hj.b⟩ hx' hS) (h := ?_); rintro v1 w1 ⟨rfl, hS⟩; refine zm ?_; refine zn ?_; refine Q0 ?_; refine Q1 ?_; refine zm ?_)
  all_goals (first | (refine QZ ?_) | (refine Q10 ?_) | (refine Qp rfl rfl (fun hc => ?_) (fun hc => ?_)))
  all_goals (refine zn ?_)
  all_goals
    first
    | (refine Q3 rfl ?_ -- Q13 c0
       all_goals (refine Q0 ?_; refine Q1 ?_; refine zm ?_; refine zm ?_; refine zn ?_; have hJ := jEnd_f (f := j.f) (s := s) (e := e) (by omega); refine zr ?_; refine zf ?_)
       all_goals (exact ⟨_, rfl, (by rw [hJ]), hS.sp⟩))
    | (refine Q4 rfl ?_ -- Q13 c0
       all_goals refine zsk ?_)
  all_goals (refine Q0 ?_; refine Q0 ?_)
  all_goals (have hF : Q1K j.f.blocks.length e = 0 := (by omega); have hE := jEnd_g (s := s) hF; have hop := Qmn hF; have hy : e.op ≠ 3 → 0 ≤ e.yes.block ∧ e.yes.block < j.f.blocks.length := (fun h => Qg7 (by have := hop.2.2.1; rwa [decide_eq_true h] at this)); have hz : e.op = 2 → 0 ≤ e.no.block ∧ e.no.block < j.f.blocks.length := (fun h => Qg7 (by have := hop.2.2.2; rwa [decide_eq_true h] at this)))
  all_goals (refine Q1 ?_; refine Q2 rfl ?_; refine zl hS ?_; refine zn ?_; refine Qa ?_; refine Q0 ?_; refine Q1 ?_)
  all_goals (first | (refine Qv ?_) | (refine QB ?_) | (refine Qn rfl rfl (fun hc => ?_) (fun hc => ?_)))
  all_goals (refine zm ?_; refine zn ?_)
  all_goals
    first
    | (refine Q3 rfl ?_ -- Q13 c1
       all_goals (refine Q0 ?_; refine Q1 ?_; refine zm ?_; refine Q2 rfl ?_; refine zv hS ?_; refine zR2 (c := rTo_c (s := s) hsf (hy (by omega)) hfb hh hj hT1 hls hS.p3) (h := ?_); rintro v6 w1 ⟨rfl, hS⟩; refine zm ?_; refine zn ?_; have hJ : jEnd j.f s e = QL (jto j.f s e.yes) := (by rw [hE, Qva (by omega)]); refine zr ?_; refine zf ?_)
       all_goals (exact ⟨_, rfl, (by rw [hJ]), hS.sp⟩))
    | (refine Q4 rfl ?_ -- Q13 c1
       all_goals (refine Q0 ?_; refine Q1 ?_)
       all_goals (first | (refine Qv ?_) | (refine QB ?_) | (refine Qn rfl rfl (fun hc => ?_) (fun hc => ?_)))
       all_goals (refine zm ?_; refine zn ?_)
       all_goals
         first
         | (refine Q3 rfl ?_ -- Q13 c2
            all_goals (refine Q0 ?_; refine Q0 ?_; refine Q1 ?_; refine zm ?_; refine Q2 rfl ?_; refine zl hS ?_; refine zR4 (c := Q2H (s := s) (k := e.a) (kd := 1) (held := false) hls hS.p3) (h := ?_); rintro v6 w1 ⟨rfl, hS⟩; refine zm ?_; refine zn ?_; refine Q0 ?_; refine Q1 ?_; refine zm ?_)
            all_goals (first | (refine QZ ?_) | (refine Q10 ?_) | (refine Qp rfl rfl (fun hc => ?_) (fun hc => ?_)))
            all_goals (refine zn ?_)
            all_goals
              first
              | (refine Q3 rfl ?_ -- Q13 c3
                 all_goals (refine Q0 ?_; refine Q1 ?_; refine zm ?_; refine zm ?_; refine zn ?_; have hJ : jEnd j.f s e = Q1b s e.a 1 false := (by rw [hE, Qhi (by omega), Qt (Qrt (by omega))]; rfl); refine zr ?_; refine zf ?_)
                 all_goals (exact ⟨_, rfl, (by rw [hJ]), hS.sp⟩))
              | (refine Q4 rfl ?_ -- Q13 c3
                 all_goals refine zsk ?_)
            all_goals (refine Q0 ?_; refine Q0 ?_; obtain ⟨t1, g1⟩ := Qu9 (s := s) (k := e.a) (kd := 1) (by omega); refine Q1 ?_; refine zm ?_; refine Q2 rfl ?_; refine zv hS ?_; refine zR2 (c := rTo_c (s := s) hsf (hy (by omega)) hfb hh hj hT1 hls hS.p3) (h := ?_); rintro v6 w1 ⟨rfl, hS⟩; refine zm ?_; refine zn ?_; refine Q0 ?_; refine Q1 ?_; refine zm ?_)
            all_goals (first | (refine QZ ?_) | (refine Q10 ?_) | (refine Qp rfl rfl (fun hc => ?_) (fun hc => ?_)))
            all_goals (refine zn ?_)
            all_goals
              first
              | (refine Q3 rfl ?_ -- Q13 c4
                 all_goals (refine Q0 ?_; refine Q1 ?_; refine zm ?_; refine zm ?_; refine zn ?_; have hJ : jEnd j.f s e = QL (jto j.f s e.yes) := (by rw [hE, Qhi (by omega), Q9 g1, Qt (Qgh (by omega))]; rfl); refine zr ?_; refine zf ?_)
                 all_goals (exact ⟨_, rfl, (by rw [hJ]), hS.sp⟩))
              | (refine Q4 rfl ?_ -- Q13 c4
                 all_goals refine zsk ?_)
            all_goals (refine Q0 ?_; refine Q1 ?_; refine zm ?_; refine Q2 rfl ?_; refine zv hS ?_; refine zR2 (c := rTo_c (s := s) hsf (hz (by omega)) hfb hh hj hT2 hls hS.p3) (h := ?_); rintro v6 w1 ⟨rfl, hS⟩; refine zm ?_; refine zn ?_; have hJ : jEnd j.f s e = QL (jto j.f s e.no) := (by rw [hE, Qhi (by omega), Q9 g1, Q9 (Qnx (jto_nz _ _ _) (by omega))]); refine zr ?_; refine zf ?_)
            all_goals (exact ⟨_, rfl, (by rw [hJ]), hS.sp⟩))
         | (refine Q4 rfl ?_ -- Q13 c2
            all_goals refine zsk ?_))
  all_goals (refine Q0 ?_; refine Q1 ?_; refine zm ?_; refine zn ?_; refine Q0 ?_; refine Q0 ?_; refine Q1 ?_; refine zm ?_; refine zn ?_; refine Qa ?_; have hS := St.nil (T := 3) (es := 1) hS)
  refine zo [0, 3] (fun A ρ' w' => ∃ (q : Nat) (vo : Value) (co : List (List Value)), Has ρ' A ∧ Has ρ' [(9, .int .i64 q), (8, vo)] ∧ (q ≤ j.f.regs.toNat) ∧ (intR.ls cx co (upTo q)) ∧ ((upTo q).length = q) ∧ (e.op = 3) ∧ St cx w' (sl 3 1 vo co :: blk p3 45 [.int .i64 e.op, .int .i64 e.a, .int .i64 e.yes.block, v1, v2, .int .i64 e.no.block, v3, v4, v5] :: blk j.sp 63 (j.kcells vl) :: Q7h j.hp s.h :: sl 112 3 vl css :: L)) (fun ρ' _ => (j.f.regs - iv (ρ' 9)).toNat) ?_ ?_
  · exact ⟨0, _, [], zh, zh, (by omega), by unfold upTo; exact Rep.LR.nil _ _ _, by unfold upTo; rfl, by omega, hS.sp⟩
  rintro ρ w1 ⟨q, vo, co, hA, hρ, hq, hlo, hlq, ho3, hS⟩; obtain ⟨ρ, rfl⟩ := env2 hA hρ
  unfold Q6g
  all_goals (refine Q0 ?_; refine Q0 ?_; refine Q1 ?_; refine zm ?_; refine zm ?_; refine Qi rfl ?_; refine Q2 rfl ?_; (first | refine Q2 rfl ?_ | refine Q1d rfl ?_); refine zl hS ?_; refine Qx rfl rfl ?_; refine zn ?_)
  refine Qo rfl (fun hc => ?_) (fun hc => ?_)
  · skip
    all_goals (refine zsk ?_; refine Q0 ?_; refine Qa ?_; refine Q1 ?_; refine zm ?_; refine zm ?_; refine zB1 hS [_] ?_; intro b1 w1 hS; refine za Qeu Qrx hS ?_; intro vp1 w1 css1 hls1 hv1 hS; have hS := hS.ns; refine zm ?_; refine zn ?_; refine Q1 ?_; refine zm ?_; refine zad ?_; refine zm ?_; refine zn ?_; exact ⟨⟨q + 1, _, _, zh, zh, (by omega), by rw [Qt6]; exact hls1, by rw [Qt6, List.length_append, hlq]; rfl, ho3, hS.sp⟩, Qr (by omega)⟩)
  · skip
    all_goals (refine zex ?_; have hq' : q = j.f.regs.toNat := (by omega); rw [hq'] at hlo; obtain ⟨c1, hle2, hS, hk1⟩ := St.freezeL (r := intR) hS hlo rfl (by rw [← hq']; omega); have hls' := hls.up hle2; have h5' := h5.up hle2; have hjr' := hjr.up hle2; refine Q0 ?_; refine Q0 ?_; refine zD [(0, none), (1, none), (2, none), (3, none), (4, none), (5, none), (6, none), (7, none), (8, none), (9, some none), (10, some none)] ?_; have hS := hS.drew; refine zm ?_; refine Q2 rfl ?_; refine zl hS ?_; refine zm ?_; refine Qi rfl ?_; refine Q2 rfl ?_; (first | refine Q2 rfl ?_ | refine Q1d rfl ?_); refine zl hS ?_; refine zm ?_; refine zR4 (c := QrH (s := s) hsf.2.1.2 hls' h5' hjr' hk1 hS.p3) (h := ?_); rintro v6 w1 ⟨rfl, hS⟩; refine zm ?_; refine zn ?_; refine Q0 ?_; refine Q1 ?_; refine zm ?_)
    all_goals (first | (refine QZ ?_) | (refine Q10 ?_) | (refine Qp rfl rfl (fun hc => ?_) (fun hc => ?_)))
    all_goals (refine zn ?_)
    all_goals
      first
      | (refine Q3 rfl ?_ -- Q13 c6
         all_goals (refine Q0 ?_; refine Q1 ?_; refine zm ?_; refine zm ?_; refine zn ?_; have hJ : jEnd j.f s e = QL (Q61 s e.args j.f.results (upTo j.f.regs.toNat)) := (by rw [hE, Qmj ho3, Qt (Qgh (by omega))]; rfl); refine zr ?_; refine zf ?_)
         all_goals (first | (exact ⟨_, rfl, (by rw [hJ]), hS.sp⟩) | (exact ⟨_, rfl, (by rw [hJ]), St.weak hS.sp hle2⟩)))
      | (refine Q4 rfl ?_ -- Q13 c6
         all_goals refine zsk ?_)
    all_goals (refine Q0 ?_; have har := Qnx (Qa6 s e.args j.f.results (upTo j.f.regs.toNat)) (by omega); refine Q1 ?_; refine zm ?_; refine Qi rfl ?_; refine Q2 rfl ?_; refine zl hS ?_; refine zR1 (c := QuN (h := s.h) hh hS fd) (h := ?_); rintro v1 w1 ⟨c2, hle3, hk2, hS⟩; have hl2 := hk2.len; refine zm ?_; refine zn ?_; refine Q0 ?_; refine Q0 ?_; refine Q1 ?_; refine zm ?_; refine zn ?_; refine Qa ?_)
    refine zoL hS [0, 11] (fun A LL ρ' w' => ∃ (q : Nat), Has ρ' A ∧ Has ρ' [(12, .int .i64 q)] ∧ (q ≤ (Q1W s.h).length) ∧ (∀ r ∈ (Q1W s.h).take q, r < j.f.regs) ∧ St c2 w' (LL)) (fun ρ' _ => ((Q1W s.h).length - iv (ρ' 12)).toNat) ?_ ?_
    · exact ⟨0, zh, zh, (by omega), by simp, hS.sp⟩
    rintro ρ w1 ⟨q, hA, hρ, hq, hall, hS⟩; obtain ⟨ρ, rfl⟩ := env2 hA hρ
    unfold Q6f
    all_goals (refine Q0 ?_; refine Q0 ?_; refine Q1 ?_; refine zm ?_; refine zm ?_; refine zL ?_; refine Qx rfl rfl ?_; refine zn ?_)
    refine Qo rfl (fun hc => ?_) (fun hc => ?_)
    · skip
      all_goals (refine zsk ?_; refine Q0 ?_; refine Qa ?_; refine Q0 ?_; refine zD [(0, none), (1, none), (2, none), (3, none), (4, none), (5, none), (6, none), (7, none), (8, none), (9, some none)] ?_; have hS := hS.drew; refine zm ?_; refine zm ?_; refine zi ?_; intro b1 o1 cs1 x1 hat1 hx1 he1; obtain rfl := QJ he1; (first | (refine zl hS ?_) | (refine zlk hS ?_)); refine zm ?_; refine Qi rfl ?_; refine Q2 rfl ?_; (first | refine Q2 rfl ?_ | refine Q1d rfl ?_); refine zl hS ?_)
      all_goals (first | (refine Q3f ?_) | (refine Q3g ?_) | (refine Q1A rfl rfl (fun hc => ?_) (fun hc => ?_)))
      all_goals (refine zn ?_)
      all_goals
        first
        | (refine Q3 rfl ?_ -- Q13 c8
           all_goals (refine Q0 ?_; refine Q1 ?_; refine zm ?_; refine zn ?_; have hJ : jEnd j.f s e = 12 := (by rw [hE, Qmj ho3, Q9 har, if_pos ((Qti hg hf0).2 ⟨x1, List.mem_of_getElem? hx1, by omega⟩)]; rfl); refine zr ?_; refine zf ?_)
           all_goals (first | (exact ⟨_, rfl, (by rw [hJ]), hS.sp⟩) | (exact ⟨_, rfl, (by rw [hJ]), St.weak hS.sp hle2⟩) | (exact ⟨_, rfl, (by rw [hJ]), St.weak hS.sp (hle2.trans hle3)⟩)))
        | (refine Q4 rfl ?_ -- Q13 c8
           all_goals refine zsk ?_)
      all_goals (refine Q1 ?_; refine zm ?_; refine zad ?_; refine zm ?_; refine zn ?_; exact ⟨⟨q + 1, zh, zh, (by omega), Q5k hall hx1 (by omega), hS.sp⟩, Qr (by omega)⟩)
    · skip
      all_goals (refine zex ?_; refine Q0 ?_; refine Q1 ?_; refine zm ?_; refine zn ?_)
      all_goals (have hJ : jEnd j.f s e = 0 := (by rw [hE, Qmj ho3, Q9 har, if_neg (fun h => by obtain ⟨r, hr, h2⟩ := (Qti hg hf0).1 h; have := hall r (by rw [List.take_of_length_le (by omega)]; exact hr); omega)]; rfl))
      all_goals (refine zr ?_; refine zf ?_; (first | (exact ⟨_, rfl, (by rw [hJ]), hS.sp⟩) | (exact ⟨_, rfl, (by rw [hJ]), St.weak hS.sp hle2⟩) | (exact ⟨_, rfl, (by rw [hJ]), St.weak hS.sp (hle2.trans hle3)⟩)))
theorem QuH {l : List Ty} (hlen : l.length ≤ 100000) (hs : ∀ x ∈ l, x.Short) {cx : Cx} {w : World} {L : List Res} {v : Value} (hl : tyR.sl cx v l) (hS : St cx w L) : Rets Tryz.prog Qcp [v] w fun u w' => ∃ c' css, cx.Le c' ∧ oneC u = true ∧ tyR.ls c' css l ∧ St c' w' (sl 112 3 u css :: L) := by
  all_goals refine QaJ ?_
  all_goals (unfold R_OwnTypes_lc; refine Q0 ?_; refine Q1 ?_; refine zm ?_; refine zn ?_; refine Q0 ?_; refine Q1 ?_; refine zm ?_; refine zn ?_; refine Q0 ?_; refine Q0 ?_; refine Q1 ?_; refine zm ?_; refine zn ?_; refine Qa ?_)
  refine zoL hS [0] (fun A LL ρ' w' => ∃ (c1 : Cx) (j : Nat) (u : Value) (css : List (List Value)), Has ρ' A ∧ Has ρ' [(3, u), (4, .int .i64 j)] ∧ (cx.Le c1) ∧ (j ≤ l.length) ∧ (tyR.ls c1 css (l.take j)) ∧ (oneC u = true) ∧ St c1 w' (sl 112 3 u css :: LL)) (fun ρ' _ => (l.length - iv (ρ' 4)).toNat) ?_ ?_
  · exact ⟨cx, 0, .slice none 0 0, [], zh, zh, St.refl hS, (by omega), Rep.LR.nil _ _ _, rfl, by have hS := hS.nil (T := 112) (es := 3); exact hS⟩
  rintro ρ w1 ⟨c1, j, u, css, hA, hρ, hle, hj, hls, hu, hS⟩; obtain ⟨ρ, rfl⟩ := env2 hA hρ; have hl := Rep.SR.up hl hle
  unfold Q5m
  all_goals (refine Q0 ?_; refine Q0 ?_; refine Q1 ?_; refine zm ?_; refine zm ?_; refine zL ?_; refine Qx rfl rfl ?_; refine zn ?_)
  refine Qo rfl (fun hc => ?_) (fun hc => ?_)
  · skip
    all_goals (refine zsk ?_; refine Q0 ?_; refine Qa ?_; refine Q1 ?_; refine zm ?_; refine zm ?_; refine zm ?_; refine zi ?_; intro b1 o1 cs1 x1 hat1 hx1 he1; obtain ⟨vl1, rfl, hl1⟩ := Qf he1; (first | (refine zv hS ?_) | (refine zvk hS ?_)); refine zR1 (c := rown_c x1 (hs x1 (List.mem_of_getElem? hx1)) he1 hS) (h := ?_); rintro v1 w1 ⟨c2, ds, rfl, hle2, hd, hS⟩; obtain ⟨v2, rfl, hv2⟩ := Qf hd; have hls := Rep.LR.up hls hle2; refine zB1 hS [_, _, _] ?_; intro b1 w1 hS; refine za Q38 Q5x hS ?_; intro vp1 w1 css1 hls1 hv1 hS; have hS := hS.ns; refine zm ?_; refine zn ?_; refine Q1 ?_; refine zm ?_; refine zad ?_; refine zm ?_; refine zn ?_; exact ⟨⟨c2, j + 1, _, _, zh, zh, hle.trans hle2, (by omega), by rw [Q1E hx1]; assumption, by assumption, hS.sp⟩, Qr (by omega)⟩)
  · skip
    all_goals (refine zex ?_; refine Q0 ?_; refine Q1 ?_; refine zm ?_; refine zm ?_; refine zn ?_; refine zr ?_; refine zf ?_; rw [List.take_of_length_le (by omega)] at hls; exact ⟨_, rfl, c1, css, hle, hu, hls, hS.sp⟩)
theorem rKAt_c {f b : Int} {fn : Fun} {y : Block} {cs : List Value} (hm : m.Short) (hf : 0 ≤ f) (hb : 0 ≤ b) (hfn : m.funcs[f.toNat]? = some fn) (hy : fn.blocks[b.toNat]? = some y) (hx : modR.at cx cs m) (hS : St cx w L) :
    Rets Tryz.prog QqU [.agg ⟨cs⟩, .int .i64 f, .int .i64 b] w fun u w' => ∃ (j : JP) (c' : Cx) (vl : Value) (css : List (List Value)), u = .pointer (some ⟨j.sp, 0, none⟩) ∧ cx.Le c' ∧ j.Fits c' m ∧ j.f = fn ∧ tyR.ls c' css y.params ∧ St c' w' (KLf j (Q62 y) vl css L) := by
  obtain ⟨vf, rfl, hf1⟩ := Q31 hx
  have hff := (List.getElem?_eq_some_iff.1 hfn).1
  have hbb := (List.getElem?_eq_some_iff.1 hy).1
  have hsf := hm.2 fn (List.mem_of_getElem? hfn)
  have hle := St.refl hS
  all_goals refine QqS ?_
  all_goals (unfold R_KnownAt_lc; refine Q0 ?_; refine Q1 ?_; refine zb hS ?_; intro p3 w1 hS; refine zm ?_; refine zn ?_; refine Q0 ?_; refine Q1 ?_; refine Q2 rfl ?_; refine zl hS ?_; refine zm ?_; refine Qmd vw rfl hf1 rfl (by omega) (by omega) ?_; intro b1 o1 cs1 x1 hat1 hx1 he1; obtain ⟨vp1, vr1, vb1, rfl, hp1, hr1, hb1⟩ := Q1e he1; obtain rfl : fn = x1 := Option.some.inj (hfn.symm.trans hx1); (first | refine Q2 rfl ?_ | refine Q1d rfl ?_); (first | (refine zl hS ?_) | (refine zlk hS ?_) | (refine zlj hS ?_)); refine zm ?_; refine Qmd vw rfl hb1 rfl (by omega) (by omega) ?_; intro b2 o2 cs2 x2 hat2 hx2 he2; obtain ⟨vp2, vc2, ve21, ve22, ve23, ve24, ve25, rfl, hp2, hc2, he21, he22, he23, he24, he25⟩ := Q2N he2; obtain rfl : y = x2 := Option.some.inj (hy.symm.trans hx2); (first | (refine zv hS ?_) | (refine zvk hS ?_)); refine Qd hS ?_; intro p7 w1 hS; refine zsn hS ?_; intro w1 hS; have hS := hS.ns; refine zn ?_; refine Q0 ?_; refine zC [(0, none), (1, none), (2, none), (3, none), (4, none), (5, none), (6, none), (7, none), (9, none), (10, none), (8, some (some [0, 2, 5, 10])), (11, some (some [0, 2, 5])), (12, none), (13, some none), (14, some none)] ?_; have hS := hS.drew; refine s_cq ?_; refine zv hS ?_)
  all_goals (refine zt ?_; refine s_cq ?_; refine Q2 rfl ?_; refine zt ?_; refine s_cq ?_; refine zl hS ?_; refine zt ?_; refine s_cq ?_; refine zm ?_; refine zt ?_; refine s_cq ?_; refine Qmd vw rfl hf1 rfl (by omega) (by omega) ?_; intro b3 o3 cs3 x3 hat3 hx3 he3; obtain ⟨vp3, vr3, vb3, rfl, hp3, hr3, hb3⟩ := Q1e he3; obtain rfl : fn = x3 := Option.some.inj (hfn.symm.trans hx3); refine zt ?_; refine s_cq ?_; (first | (refine zv hS ?_) | (refine zvk hS ?_)); refine zt ?_; refine s_cq ?_; refine Q2 rfl ?_; refine zt ?_; refine s_cq ?_; refine zl hS ?_; refine zt ?_; refine s_cq ?_; refine Q2 rfl ?_; refine zt ?_; refine s_cq ?_; refine zl hS ?_; refine zt ?_; refine QU ?_; refine zR1 (c := rnew_u hS) (h := ?_); rintro v1 w1 ⟨hp, vh, rfl, hS⟩; refine zt ?_; refine zy ?_; refine QU ?_; refine zR1 (c := QuH (hsf.2.2.2 y (List.mem_of_getElem? hy)).1.1 (hsf.2.2.2 y (List.mem_of_getElem? hy)).1.2 hp2 hS) (h := ?_); rintro v1 w1 ⟨c2, css2, hle2, hv1, hls2, hS⟩; have hat3 := hat3.up hle2; obtain ⟨av, nv, rfl⟩ := hS.shape nth0; refine zt ?_; refine zy ?_; refine s_cq ?_; refine zb4 [_, _, _, _, _, _, _] ?_; refine zt ?_; refine s_cf ?_; refine zb hS ?_; intro p30 w1 hS; refine zt ?_)
  all_goals (refine s_cf ?_; refine zm ?_; refine zt ?_; refine zcn ?_; have hS := Q37 (hp := hp) (h := (Q62 y).h) (v := vh) (L := blk p30 63 (JP.kcells ⟨p30, hp, fn, vf, vp3, vr3, vb3⟩ (.slice av css2.length nv)) :: sl 112 3 (.slice av css2.length nv) css2 :: L) hS.sp; refine zr ?_; refine zf ?_; exact ⟨_, rfl, ⟨p30, hp, fn, vf, vp3, vr3, vb3⟩, c2, _, css2, rfl, hle2, ⟨hf1.up hle2, hp3.up hle2, hr3.up hle2, hb3.up hle2⟩, rfl, hls2, hS.sp⟩)
end Go.Proofs.YtanlkfeogoganaaGreat
namespace Go.Proofs.YtanlkfeogoganaaGreat
open Go.Lir
set_option maxHeartbeats 1000000
attribute [local irreducible] LC.wp Q5 Q11 Q1c retQ Q2b LO.wp QD Calls
set_option linter.unusedSimpArgs false
set_option linter.unusedVariables false
attribute [local irreducible] hasB Q1W Q1o Q1I Q3A upTo Q1b Q1Z rmk jIns jEnd Module.fault Qcm Qf7
variable {cx : Cx} {w : World} {L : List Res} {j : JP} {h : List Bool} {vl : Value} {css : List (List Value)} {i : Nat} {m : Module}
end Go.Proofs.YtanlkfeogoganaaGreat
namespace Go.Lir
theorem St.lent {c : Cx} {w : World} {L : List Res} {r : Res} (h : St c w (r :: L)) : ∃ c' F, c.Le c' ∧ St c' w L ∧ r.A c'.H0 F ∧ (∀ b, F b → c'.K b) ∧ ∀ {w' : World} {L' : List Res}, St c' w' L' → St c w' (r :: L') := by
  obtain ⟨ok, F, ⟨F1, F2, h1, h2, h3, h4⟩, hd⟩ := h
  have hle : c.Le ⟨c.base, fun b => c.K b ∨ F1 b, w.heap⟩ := ⟨rfl, fun b hb => ⟨.inl hb, ok.same b hb⟩, ok.size, ok.lt⟩
  refine ⟨⟨c.base, fun b => c.K b ∨ F1 b, w.heap⟩, F1, hle, ⟨⟨ok.os, ok.tape, ok.output, Nat.le_refl _, fun b hb => hb.elim (fun hb => Nat.lt_of_lt_of_le (ok.lt b hb) ok.size) (r.lt h1 b), fun b _ => rfl⟩, F2, h2, ?_⟩, h1, fun b hb => .inr hb, ?_⟩
  · rintro b hb (hk | hk)
    · exact hd b ((h4 b).2 (.inr hb)) hk
    · exact h3 b hk hb
  · intro w' L' hS
    have hw := hS.weak hle
    obtain ⟨ok', F', hF', hd'⟩ := hS
    refine ⟨hw.1, fun b => F1 b ∨ F' b, ⟨F1, F', r.loc h1 fun b hb _ => ok'.same b (.inr hb), hF', fun b hb hb' => hd' b hb' (.inr hb), fun b => Iff.rfl⟩, ?_⟩
    rintro b (hb | hb) hk
    · exact hd b ((h4 b).2 (.inl hb)) hk
    · exact hd' b hb (.inl hk)
theorem St.lend {α : Type} {r : Rep α} {c : Cx} {w : World} {L : List Res} {T : TypeId} {es : Nat} {v : Value} {css : List (List Value)} {l : List α} (h : St c w (sl T es v css :: L)) (hl : r.ls c css l) (hes : r.es = es) (hm : l.length ≤ 140737488355328) :
    ∃ c', c.Le c' ∧ St c' w L ∧ r.sl c' v l ∧ ∀ {w' : World} {L' : List Res}, St c' w' L' → St c w' (sl T es v css :: L') := by
  subst hes
  obtain ⟨c', F, h1, h2, h3, h4, h5⟩ := h.lent
  exact ⟨c', h1, h2, ⟨css, SlR.mono (Sl.toR h3) fun b _ hb => h4 b hb, hl.up h1, hm⟩, h5⟩
end Go.Lir
namespace Go.Proofs.YtanlkfeogoganaaGreat
open Go.Lir
set_option maxHeartbeats 1000000
attribute [local irreducible] LC.wp Q5 Q11 Q1c retQ Q2b LO.wp QD Calls
set_option linter.unusedSimpArgs false
set_option linter.unusedVariables false
attribute [local irreducible] hasB Q1W Q1o Q1I Q3A upTo Module.fault jIns jEnd
variable {cx : Cx} {w : World} {L : List Res} {m : Module}
theorem QrR {f b : Int} {l : List Ins} {e : Tail} {cs ds : List Value} {v2 : Value} (hx : modR.at cx cs m) (hl : insR.sl cx v2 l) (he : endR.at cx ds e) (hS : St cx w L) : Rets Tryz.prog QO [.agg ⟨cs⟩, .int .i64 f, .int .i64 b, v2, .agg ⟨ds⟩] w fun u w' => u = .bool true ∧ St cx w' L := by
  obtain ⟨vf, rfl, hf⟩ := Q31 hx
  obtain ⟨a0, n0, rfl⟩ := Rep.SR.shape hf
  obtain ⟨u1, u2, u3, u4, u5, rfl, h1, h2, h3, h4, h5⟩ := Q47 he
  have hll := hl.len
  have hl1 := h1.len
  have hl2 := h2.len
  have hl3 := h3.len
  have hl4 := h4.len
  have hl5 := h5.len
  all_goals refine Qg5 ?_
  all_goals (unfold Law_JudgeDoes_lc; refine Q0 ?_; refine Q1 ?_; refine zb hS ?_; intro p5 w1 hS; refine zb hS ?_; intro p9 w1 hS; refine zm ?_; refine zn ?_; refine Q0 ?_; refine Q0 ?_; refine Q1 ?_; refine zR0 (c := QpR hS) (h := ?_); rintro v1 w1 ⟨rfl, hS⟩; refine Q1O rfl ?_; refine zn ?_)
  all_goals
    first
    | (refine Q3 rfl ?_ -- QO c0
       all_goals (refine Q0 ?_; refine Q1 ?_; refine zm ?_; refine zn ?_; refine zr ?_; refine zf ?_)
       all_goals (exact ⟨_, rfl, rfl, hS.sp⟩))
    | (refine Q4 rfl ?_ -- QO c0
       all_goals refine zsk ?_)
  all_goals (refine Q0 ?_; refine Q0 ?_; refine Q1 ?_; refine zv hS ?_)
  all_goals (refine zR1 (c := QtP hx hS) (h := ?_); rintro v1 w1 ⟨g1, rfl, hg1, hS⟩; cases g1)
  all_goals (refine zm ?_; (first | refine s_gn rfl rfl ?_ | (refine s_gy rfl ?_; refine zm ?_)); (first | refine s_gn rfl rfl ?_ | (refine s_gy rfl ?_; refine zL ?_)))
  all_goals (first | refine s_gn rfl rfl ?_ | (refine s_gy rfl ?_; (first | (refine Q12 ?_) | (refine Q15 ?_) | (refine Qq rfl rfl (fun hc => ?_) (fun hc => ?_)))))
  all_goals ((first | (refine zpt ?_) | (refine zpf ?_)); refine zm ?_; (first | refine s_gn rfl rfl ?_ | (refine s_gy rfl ?_; refine Q2 rfl ?_)); (first | refine s_gn rfl rfl ?_ | (refine s_gy rfl ?_; (first | (refine Qe hS rfl fd rfl ?_) | (refine zl hS ?_)))); (first | refine s_gn rfl rfl ?_ | (refine s_gy rfl ?_; refine zL ?_)); (first | refine s_gn rfl rfl ?_ | (refine s_gy rfl ?_; refine Q2 rfl ?_)); (first | refine s_gn rfl rfl ?_ | (refine s_gy rfl ?_; (first | refine Q2 rfl ?_ | refine Q1d rfl ?_))); (first | refine s_gn rfl rfl ?_ | (refine s_gy rfl ?_; (first | (refine Qe hS rfl fd rfl ?_) | (refine zl hS ?_)))); (first | refine s_gn rfl rfl ?_ | (refine s_gy rfl ?_; refine zL ?_)); (first | refine s_gn rfl rfl ?_ | (refine s_gy rfl ?_; refine zad ?_)); (first | refine s_gn rfl rfl ?_ | (refine s_gy rfl ?_; refine Q2 rfl ?_)); (first | refine s_gn rfl rfl ?_ | (refine s_gy rfl ?_; (first | refine Q2 rfl ?_ | refine Q1d rfl ?_))); (first | refine s_gn rfl rfl ?_ | (refine s_gy rfl ?_; (first | (refine Qe hS rfl fd rfl ?_) | (refine zl hS ?_)))))
  all_goals ((first | refine s_gn rfl rfl ?_ | (refine s_gy rfl ?_; refine zL ?_)); (first | refine s_gn rfl rfl ?_ | (refine s_gy rfl ?_; refine zad ?_)); (first | refine s_gn rfl rfl ?_ | (refine s_gy rfl ?_; refine Q2 rfl ?_)); (first | refine s_gn rfl rfl ?_ | (refine s_gy rfl ?_; (first | refine Q2 rfl ?_ | refine Q1d rfl ?_))); (first | refine s_gn rfl rfl ?_ | (refine s_gy rfl ?_; (first | (refine Qe hS rfl fd rfl ?_) | (refine zl hS ?_)))); (first | refine s_gn rfl rfl ?_ | (refine s_gy rfl ?_; refine zL ?_)); (first | refine s_gn rfl rfl ?_ | (refine s_gy rfl ?_; refine zad ?_)); (first | refine s_gn rfl rfl ?_ | (refine s_gy rfl ?_; refine Q2 rfl ?_)); (first | refine s_gn rfl rfl ?_ | (refine s_gy rfl ?_; (first | refine Q2 rfl ?_ | refine Q1d rfl ?_))); (first | refine s_gn rfl rfl ?_ | (refine s_gy rfl ?_; (first | (refine Qe hS rfl fd rfl ?_) | (refine zl hS ?_)))); (first | refine s_gn rfl rfl ?_ | (refine s_gy rfl ?_; refine zL ?_)); (first | refine s_gn rfl rfl ?_ | (refine s_gy rfl ?_; refine zad ?_)))
  all_goals (first | refine s_gn rfl rfl ?_ | (refine s_gy rfl ?_; (first | (refine Q12 ?_) | (refine Q15 ?_) | (refine Qq rfl rfl (fun hc => ?_) (fun hc => ?_)))))
  all_goals ((first | (refine zpt ?_) | (refine zpf ?_)); refine zn ?_)
  all_goals
    first
    | (refine Q3 rfl ?_ -- QO c1
       all_goals (refine Q0 ?_; refine Q1 ?_; refine zm ?_; refine zn ?_; refine zr ?_; refine zf ?_)
       all_goals (exact ⟨_, rfl, rfl, hS.sp⟩))
    | (refine Q4 rfl ?_ -- QO c1
       all_goals refine zsk ?_)
  all_goals (refine Q0 ?_; have hm := hg1 rfl; refine Q1 ?_; refine zv hS ?_; refine zm ?_; refine zm ?_)
  all_goals (refine zR3 (c := jNew_c hm hx hS) (h := ?_); rintro v1 w1 (⟨h0, rfl, hS⟩ | ⟨h0, (h9 | h9) | ⟨fn, hfn, h9 | h9⟩, rfl, hS⟩ | ⟨fn, y, j, c2, vl, css, h0, hf0, hb0, hfn, hy, rfl, hleN, hj, jf, hls, hS⟩))
  all_goals (refine zm ?_; refine Q3z rfl rfl ?_; refine Q3z rfl rfl ?_; refine Qd hS ?_; intro p12 w1 hS; refine zm ?_; refine zsn hS ?_; intro w1 hS; have hS := hS.ns; refine zn ?_; refine Q0 ?_; (try have hfl := (List.getElem?_eq_some_iff.1 hfn).1); (try have hbl := (List.getElem?_eq_some_iff.1 hy).1); (try have hf := Rep.SR.up hf hleN); (try have hx := Rep.R.up hx hleN); (try have hl := Rep.SR.up hl hleN); (try have he := Rep.R.up he hleN); refine Q1 ?_; refine zv hS ?_; refine zR1 (c := rcheck_c hm hx hS) (h := ?_); rintro v1 w1 ⟨rfl, hS⟩; unfold fltV; (try simp only [Module.fault_z h0]); refine Qd hS ?_; intro p13 w1 hS; refine zsn hS ?_; intro w1 hS; have hS := hS.ns; refine zn ?_; refine Q0 ?_; refine Q0 ?_; refine Q1 ?_; refine Q2 rfl ?_; (first | (refine Qe hS rfl fd rfl ?_) | (refine zl hS ?_)))
  all_goals (first | (refine Qv ?_) | (refine QB ?_))
  all_goals (refine zm ?_; (first | refine s_gn rfl rfl ?_ | (refine s_gy rfl ?_; refine zm ?_)))
  all_goals (first | refine s_gn rfl rfl ?_ | (refine s_gy rfl ?_; (first | (refine Q1L ?_) | (refine Q1M ?_) | (refine QE rfl rfl (fun hc => ?_) (fun hc => ?_)))))
  all_goals ((first | refine s_gn rfl rfl ?_ | (refine s_gy rfl ?_; refine zm ?_)); (first | refine s_gn rfl rfl ?_ | (refine s_gy rfl ?_; refine zm ?_)); (first | refine s_gn rfl rfl ?_ | (refine s_gy rfl ?_; refine Q2 rfl ?_)); (first | refine s_gn rfl rfl ?_ | (refine s_gy rfl ?_; (first | (refine Qe hS rfl fd rfl ?_) | (refine zl hS ?_)))); (first | refine s_gn rfl rfl ?_ | (refine s_gy rfl ?_; refine zL ?_)))
  all_goals (first | refine s_gn rfl rfl ?_ | (refine s_gy rfl ?_; (first | (refine Q3f ?_) | (refine Q3g ?_))))
  all_goals ((first | refine s_gn rfl rfl ?_ | (refine s_gy rfl ?_; (first | (refine zpt ?_) | (refine zpf ?_)))); (first | refine s_gn rfl rfl ?_ | (refine s_gy rfl ?_; refine zm ?_)); (first | refine s_gn rfl rfl ?_ | (refine s_gy rfl ?_; refine zm ?_)))
  all_goals (first | refine s_gn rfl rfl ?_ | (refine s_gy rfl ?_; (first | (refine Q1L ?_) | (refine Q1M ?_))))
  all_goals ((first | refine s_gn rfl rfl ?_ | (refine s_gy rfl ?_; (first | (refine zpt ?_) | (refine zpf ?_)))); (first | refine s_gn rfl rfl ?_ | (refine s_gy rfl ?_; refine zm ?_)); (first | refine s_gn rfl rfl ?_ | (refine s_gy rfl ?_; refine zm ?_)); (first | refine s_gn rfl rfl ?_ | (refine s_gy rfl ?_; refine Q2 rfl ?_)); (first | refine s_gn rfl rfl ?_ | (refine s_gy rfl ?_; (first | (refine Qe hS rfl fd rfl ?_) | (refine zl hS ?_)))); (first | refine s_gn rfl rfl ?_ | (refine s_gy rfl ?_; refine zm ?_)); (first | refine s_gn rfl rfl ?_ | (refine s_gy rfl ?_; refine zj ?_; intro b1 o1 cs1 x1 hat1 hx1 he1; obtain rfl : fn = x1 := Option.some.inj (hfn.symm.trans hx1); obtain ⟨vp1, vr1, vb1, rfl, hp1, hr1, hb1⟩ := Q1e he1)); (first | refine s_gn rfl rfl ?_ | (refine s_gy rfl ?_; (first | refine Q2 rfl ?_ | refine Q1d rfl ?_))); (first | refine s_gn rfl rfl ?_ | (refine s_gy rfl ?_; (first | (refine Qe hS rfl fd rfl ?_) | (refine zl hS ?_) | (refine zlk hS ?_) | (refine zlj hS ?_)))); (first | refine s_gn rfl rfl ?_ | (refine s_gy rfl ?_; refine zL ?_)))
  all_goals (first | refine s_gn rfl rfl ?_ | (refine s_gy rfl ?_; (first | (refine Q3f ?_) | (refine Q3g ?_))))
  all_goals ((first | refine s_gn rfl rfl ?_ | (refine s_gy rfl ?_; (first | (refine zpt ?_) | (refine zpf ?_)))); (first | (refine zpt ?_) | (refine zpf ?_)); refine zn ?_)
  all_goals
    first
    | (refine Q3 rfl ?_ -- QO c2
       all_goals (refine Q1 ?_; refine zb2 [_, _] ?_; refine zsn hS ?_; intro w1 hS; have hS := hS.ns)
       all_goals refine zn ?_)
    | (refine Q4 rfl ?_ -- QO c2
       all_goals refine zsk ?_)
  all_goals (refine Q0 ?_; refine Q0 ?_; refine Q1 ?_; refine zv hS ?_; refine zv hS ?_; (first | refine QrA (a := m.fault) Qah rfl rfl ?_ | refine QrA (a := (1, -1)) Qah rfl rfl ?_ | refine QrA (a := (0, 0)) Qah rfl rfl ?_); refine zm ?_; (first | refine s_gn rfl rfl ?_ | (refine s_gy rfl ?_; refine Q2 rfl ?_)); (first | refine s_gn rfl rfl ?_ | (refine s_gy rfl ?_; (first | (refine Qe hS rfl fd rfl ?_) | (refine zl hS ?_)))))
  all_goals (first | refine s_gn rfl rfl ?_ | (refine s_gy rfl ?_; (first | (refine QZ ?_) | (refine Q10 ?_))))
  all_goals ((first | (refine zpt ?_) | (refine zpf ?_)); refine zn ?_)
  all_goals
    first
    | (refine Q3 rfl ?_ -- QO c3
       all_goals (refine Q0 ?_; refine Q1 ?_; refine zv hS ?_; refine zv hS ?_; (first | refine Quy (a := m.fault) Qah rfl rfl ?_ | refine Quy (a := (1, -1)) Qah rfl rfl ?_); refine zm ?_; refine zn ?_; refine zr ?_; refine zf ?_)
       all_goals (exact ⟨_, rfl, rfl, hS.sp⟩))
    | (refine Q4 rfl ?_ -- QO c3
       all_goals refine zsk ?_)
  all_goals (refine Q0 ?_)
  all_goals (have hle := hleN; have hsf := hm.2 fn (List.mem_of_getElem? hfn); have hfb := mod_fb h0 hfn; have hfh := Q8S (Qht h0 hfn); have hg0 := QtN hm h0 hfn hy)
  all_goals (refine Q1 ?_; refine zv hS ?_; refine zm ?_; refine zm ?_; refine zR3 (c := rKAt_c hm hf0 hb0 hfn hy hx hS) (h := ?_); rintro v1 w1 ⟨j2, c3, vl2, css2, rfl, hle2, hj2, hjf2, hls2, hS⟩; have hle := hle.trans hle2; have hl := hl.up hle2; have he := Rep.R.up he hle2; have hj := hj.up hle2; have hls := hls.up hle2; subst jf; refine zm ?_; refine zn ?_; refine Q0 ?_; refine Q0 ?_; skip; refine Q1 ?_; refine zm ?_; refine zn ?_; refine Qa ?_)
  refine zo [1, 3, 9, 11, 14] (fun A ρ' w' => ∃ (k0 : Cx) (q : Nat) (s : JS) (vl : Value) (css : List (List Value)) (vl2 : Value) (css2 : List (List Value)), Has ρ' A ∧ Has ρ' [(15, .int .i64 q)] ∧ (c3.Le k0) ∧ (q ≤ l.length) ∧ (j.Fits k0 m) ∧ (j2.Fits k0 m) ∧ (tyR.ls k0 css s.l) ∧ (tyR.ls k0 css2 s.l) ∧ (JInv m j.f s) ∧ St k0 w' (blk j2.sp 63 (j2.kcells vl2) :: Q7h j2.hp s.h :: sl 112 3 vl2 css2 :: j.res s.h vl css :: blk p9 45 [.int .i64 e.op, .int .i64 e.a, .int .i64 e.yes.block, u1, u2, .int .i64 e.no.block, u3, u4, u5] :: L)) (fun ρ' _ => (l.length - iv (ρ' 15)).toNat) ?_ ?_
  · exact ⟨c3, 0, Q62 y, vl, css, vl2, css2, zh, zh, St.refl hS, (by omega), hj, hj2, hls, hls2, hg0, hS.sp⟩
  rintro ρ w1 ⟨k0, q, s, vl, css, vl2, css2, hA, hρ, hle2, hq, hj, hj2, hls, hls2, hg, hS⟩; obtain ⟨ρ, rfl⟩ := env2 hA hρ; have hL0 := hle2; (try have hle := hle.trans hle2); (try have hl := hl.up hle2); (try have he := he.up hle2)
  unfold Q4O
  all_goals (refine Q0 ?_; refine Q0 ?_; refine Q1 ?_; refine zm ?_; refine zm ?_; refine zL ?_; refine Qx rfl rfl ?_; refine zn ?_)
  refine Qo rfl (fun hc => ?_) (fun hc => ?_)
  · skip
    all_goals (refine zsk ?_; refine Q0 ?_; refine Qa ?_; refine Q0 ?_; refine Q0 ?_; refine zD [(0, none), (1, none), (2, none), (3, none), (4, none), (5, none), (6, none), (7, none), (8, none), (9, none), (10, none), (11, none), (12, none), (13, some none)] ?_; have hS := hS.drew; refine zm ?_; refine zm ?_; refine zi ?_; intro b1 o1 cs1 x1 hat1 hx1 he1; obtain ⟨vr1, va1, rfl, hr1, ha1⟩ := Q1J he1; (first | refine Q2 rfl ?_ | refine Q1d rfl ?_); (first | (refine Qe hS rfl fd rfl ?_) | (refine zl hS ?_) | (refine zlk hS ?_) | (refine zlj hS ?_)); refine zL ?_; refine zm ?_; refine zm ?_; refine zi ?_; intro b2 o2 cs2 x2 hat2 hx2 he2; obtain ⟨vr2, va2, rfl, hr2, ha2⟩ := Q1J he2; (first | refine Q2 rfl ?_ | refine Q1d rfl ?_); (first | (refine Qe hS rfl fd rfl ?_) | (refine zl hS ?_) | (refine zlk hS ?_) | (refine zlj hS ?_)); refine zL ?_; have hr1l := hr1.len; have ha2l := ha2.len; refine zad ?_)
    all_goals (first | (refine Q12 ?_) | (refine Q15 ?_) | (refine Qq rfl rfl (fun hc => ?_) (fun hc => ?_)))
    all_goals (refine zn ?_)
    all_goals
      first
      | (refine Q3 rfl ?_ -- QO c5
         all_goals (refine Q0 ?_; refine Q1 ?_; refine zm ?_; refine zn ?_; refine zr ?_; refine zf ?_)
         all_goals (first | (exact ⟨_, rfl, rfl, hS.sp⟩) | (exact ⟨_, rfl, rfl, St.weak hS.sp hle⟩)))
      | (refine Q4 rfl ?_ -- QO c5
         all_goals refine zsk ?_)
    all_goals (refine Q0 ?_; refine zC [(0, none), (1, none), (2, none), (3, none), (4, none), (6, none), (7, none), (8, none), (9, none), (10, none), (5, some (some [10])), (11, some none), (12, none), (13, none), (14, none), (16, none), (17, none), (18, none), (19, none), (15, some (some [19])), (20, some none), (21, none), (22, none), (23, none), (24, none), (25, none), (26, none), (27, none), (29, none), (30, none), (31, none), (32, none), (28, some (some [32])), (33, some none), (34, some none), (35, none), (36, none), (37, none), (38, none), (39, none), (40, none), (41, none), (43, none), (44, none), (45, none), (46, none), (47, none), (48, none), (49, none), (50, none), (42, some (some [46, 49])), (51, none), (52, some none)] ?_; have hS := hS.drew; refine s_cq ?_; refine zm ?_; refine zt ?_; refine s_cq ?_; refine zm ?_; refine zt ?_; refine s_cq ?_; refine zm ?_; refine zt ?_; refine s_cq ?_; refine zi ?_; intro b3 o3 cs3 x3 hat3 hx3 he3; obtain ⟨vr3, va3, rfl, hr3, ha3⟩ := Q1J he3; refine zt ?_; refine s_cq ?_; (first | (refine zv hS ?_) | (refine zvk hS ?_)); refine zt ?_; refine s_cq ?_; refine zm ?_; refine zt ?_; refine s_cq ?_; refine zm ?_; refine zt ?_; refine s_cq ?_; refine zm ?_; refine zt ?_; refine s_cq ?_; refine zi ?_; intro b4 o4 cs4 x4 hat4 hx4 he4; obtain ⟨vr4, va4, rfl, hr4, ha4⟩ := Q1J he4; refine zt ?_; refine s_cq ?_; (first | (refine zv hS ?_) | (refine zvk hS ?_)))
    all_goals (refine zt ?_; refine QU ?_)
    all_goals (obtain rfl : x1 = x3 := Option.some.inj (hx1.symm.trans hx3); refine zR2 (c := Qq3 (s := s) hm hg.n hg.h hj he3 hls hS fd) (h := ?_); rintro v1 w1 ⟨rfl, c4, vl4, css4, hle2, hls4, hS⟩; have hS := hS.ns; (try have hle := hle.trans hle2); (try have hL0 := hL0.trans hle2); (try have hl := hl.up hle2); (try have hr1 := hr1.up hle2); (try have ha1 := ha1.up hle2); (try have hr2 := hr2.up hle2); (try have ha2 := ha2.up hle2); (try have hr3 := hr3.up hle2); (try have ha3 := ha3.up hle2); (try have hr4 := hr4.up hle2); (try have ha4 := ha4.up hle2); (try have he1 := he1.up hle2); (try have he2 := he2.up hle2); (try have he3 := he3.up hle2); (try have he4 := he4.up hle2); (try have hls := hls.up hle2); (try have he := he.up hle2); have hat3 := hat3.up hle2; have hat4 := hat4.up hle2; have hj := hj.up hle2; have hj2 := hj2.up hle2; have hls2 := hls2.up hle2)
    all_goals (refine zt ?_; refine ⟨List.forall_mem_cons.2 ⟨(by first | (exact QG hS rfl fd rfl) | (exact Q1Y rfl (QG hS rfl fd rfl)) | (exact Q2i hS rfl fd rfl rfl) | (exact Q3D hS (by assumption) rfl rfl rfl)), fun _ h => (List.not_mem_nil h).elim⟩, ?_⟩; refine s_cf ?_)
    all_goals (obtain rfl : x1 = x4 := Option.some.inj (hx1.symm.trans hx4); refine zR2 (c := rIns_c (s := s) (x := x1) hm (by rw [hjf2]; exact hg) hj2 he4 hls2 hS.p3) (h := ?_); rintro v1 w1 ⟨c5, vl5, css5, hle2, rfl, hls5, hS⟩; (try have hle := hle.trans hle2); (try have hL0 := hL0.trans hle2); (try have hl := hl.up hle2); (try have hr1 := hr1.up hle2); (try have ha1 := ha1.up hle2); (try have hr2 := hr2.up hle2); (try have ha2 := ha2.up hle2); (try have hr3 := hr3.up hle2); (try have ha3 := ha3.up hle2); (try have hr4 := hr4.up hle2); (try have ha4 := ha4.up hle2); (try have he1 := he1.up hle2); (try have he2 := he2.up hle2); (try have he3 := he3.up hle2); (try have he4 := he4.up hle2); (try have hls := hls.up hle2); (try have he := he.up hle2); have hj := hj.up hle2; have hj2 := hj2.up hle2; have hls4 := hls4.up hle2; rw [hjf2] at hls5 hS; rw [hjf2]; have hg1 := jIns_inv (x := x1) h0 hm hg; obtain ⟨s1, hs1⟩ : ∃ s1, (jIns m j.f s x1).2 = s1 := ⟨_, rfl⟩; rw [hs1] at hls4 hls5 hS hg1; have hn1 := hg1.n; have hh1 := hg1.h)
    all_goals (refine zt ?_; refine s_cq ?_)
    all_goals (first | (refine QZ ?_) | (refine Q10 ?_))
    all_goals (refine zt ?_; refine s_cq ?_; refine zm ?_; refine zt ?_; refine s_cq ?_; (first | refine s_gn rfl rfl ?_ | (refine s_gy rfl ?_; refine zm ?_)); refine zt ?_; refine s_cq ?_; (first | refine s_gn rfl rfl ?_ | (refine s_gy rfl ?_; refine zm ?_)); refine zt ?_; refine s_cq ?_; (first | refine s_gn rfl rfl ?_ | (refine s_gy rfl ?_; refine Qi rfl ?_)); refine zt ?_; refine s_cq ?_; (first | refine s_gn rfl rfl ?_ | (refine s_gy rfl ?_; refine Q2 rfl ?_)); refine zt ?_; refine s_cq ?_; (first | refine s_gn rfl rfl ?_ | (refine s_gy rfl ?_; (first | (refine Qe hS rfl fd rfl ?_) | (refine zl hS ?_)))); refine zt ?_; refine QU ?_)
    all_goals (first | refine s_gn rfl rfl ?_ | (refine s_gy rfl ?_; refine zR1 (c := Qn3 (s := s1) hg1.s hg1.n hls4 hS fd) (h := ?_); rintro v1 w1 ⟨c6, hle2, hkT, hS⟩; (try have hle := hle.trans hle2); (try have hL0 := hL0.trans hle2); (try have hl := hl.up hle2); (try have hr1 := hr1.up hle2); (try have ha1 := ha1.up hle2); (try have hr2 := hr2.up hle2); (try have ha2 := ha2.up hle2); (try have hr3 := hr3.up hle2); (try have ha3 := ha3.up hle2); (try have hr4 := hr4.up hle2); (try have ha4 := ha4.up hle2); (try have he1 := he1.up hle2); (try have he2 := he2.up hle2); (try have he3 := he3.up hle2); (try have he4 := he4.up hle2); (try have hls := hls.up hle2); (try have he := he.up hle2); have hj := hj.up hle2; have hj2 := hj2.up hle2; have hls4 := hls4.up hle2; have hls5 := hls5.up hle2))
    all_goals (refine zt ?_; refine ⟨List.forall_mem_cons.2 ⟨(by first | (exact QG hS rfl fd rfl) | (exact Q1Y rfl (QG hS rfl fd rfl)) | (exact Q8R rfl rfl) | (exact Q1Y rfl (Q18 hS rfl fd rfl))), fun _ h => (List.not_mem_nil h).elim⟩, ?_⟩; refine s_cf ?_; (first | refine s_gn rfl rfl ?_ | (refine s_gy rfl ?_; obtain ⟨c7, hle7, hS, hk7, hback⟩ := St.lend (r := tyR) (hS.out (r := sl 112 3 vl5 css5) fd) hls5 rfl (by omega); simp only [List.eraseIdx_cons_zero, List.eraseIdx_cons_succ] at hS; refine zR2 (c := QmP (hkT.up hle7) hk7 hS) (h := ?_); rintro v9 w9 ⟨rfl, hS⟩; have hS := hback hS; rw [decide_eq_true rfl])); refine zt ?_; refine s_cq ?_; (first | refine s_gn rfl rfl ?_ | (refine s_gy rfl ?_; refine Q1O rfl ?_)); refine zt ?_; refine s_cq ?_; (first | (refine zpt ?_) | (refine zpf ?_)); refine zt ?_; refine s_cq ?_; refine zm ?_; refine zt ?_; refine s_cq ?_; (first | refine s_gn rfl rfl ?_ | (refine s_gy rfl ?_; refine zm ?_)); refine zt ?_; refine s_cq ?_; (first | refine s_gn rfl rfl ?_ | (refine s_gy rfl ?_; refine Qi rfl ?_)); refine zt ?_; refine s_cq ?_; (first | refine s_gn rfl rfl ?_ | (refine s_gy rfl ?_; refine Q2 rfl ?_)); refine zt ?_; refine s_cq ?_; (first | refine s_gn rfl rfl ?_ | (refine s_gy rfl ?_; refine Qe hS rfl fd rfl ?_)))
    all_goals (refine zt ?_; refine s_cq ?_; (first | refine s_gn rfl rfl ?_ | (refine s_gy rfl ?_; refine zm ?_)); refine zt ?_; refine s_cq ?_; (first | refine s_gn rfl rfl ?_ | (refine s_gy rfl ?_; refine Qi rfl ?_)); refine zt ?_; refine s_cq ?_; (first | refine s_gn rfl rfl ?_ | (refine s_gy rfl ?_; refine Q2 rfl ?_)); refine zt ?_; refine s_cq ?_; (first | refine s_gn rfl rfl ?_ | (refine s_gy rfl ?_; (first | (refine Qe hS rfl fd rfl ?_) | (refine zl hS ?_)))); refine zt ?_; refine QU ?_)
    all_goals (first | refine s_gn rfl rfl ?_ | (refine s_gy rfl ?_; refine zR1 (c := Qv5 (h := s1.h) hh1 hS fd) (h := ?_); rintro v1 w1 ⟨c8, hle2, hkA, hS⟩; (try have hle := hle.trans hle2); (try have hL0 := hL0.trans hle2); (try have hl := hl.up hle2); (try have hr1 := hr1.up hle2); (try have ha1 := ha1.up hle2); (try have hr2 := hr2.up hle2); (try have ha2 := ha2.up hle2); (try have hr3 := hr3.up hle2); (try have ha3 := ha3.up hle2); (try have hr4 := hr4.up hle2); (try have ha4 := ha4.up hle2); (try have he1 := he1.up hle2); (try have he2 := he2.up hle2); (try have he3 := he3.up hle2); (try have he4 := he4.up hle2); (try have hls := hls.up hle2); (try have he := he.up hle2); have hj := hj.up hle2; have hj2 := hj2.up hle2; have hls4 := hls4.up hle2; have hls5 := hls5.up hle2))
    all_goals (refine zt ?_; refine ⟨List.forall_mem_cons.2 ⟨(by first | (exact QG hS rfl fd rfl) | (exact Q1Y rfl (QG hS rfl fd rfl)) | (exact Q8R rfl rfl) | (exact Q1Y rfl (Q18 hS rfl fd rfl))), fun _ h => (List.not_mem_nil h).elim⟩, ?_⟩; refine s_cf ?_)
    all_goals (first | refine s_gn rfl rfl ?_ | (refine s_gy rfl ?_; refine zR1 (c := QuN (h := s1.h) hh1 hS fd) (h := ?_); rintro v1 w1 ⟨c9, hle2, hkB, hS⟩; (try have hle := hle.trans hle2); (try have hL0 := hL0.trans hle2); (try have hl := hl.up hle2); (try have hr1 := hr1.up hle2); (try have ha1 := ha1.up hle2); (try have hr2 := hr2.up hle2); (try have ha2 := ha2.up hle2); (try have hr3 := hr3.up hle2); (try have ha3 := ha3.up hle2); (try have hr4 := hr4.up hle2); (try have ha4 := ha4.up hle2); (try have he1 := he1.up hle2); (try have he2 := he2.up hle2); (try have he3 := he3.up hle2); (try have he4 := he4.up hle2); (try have hls := hls.up hle2); (try have he := he.up hle2); have hj := hj.up hle2; have hj2 := hj2.up hle2; have hls4 := hls4.up hle2; have hls5 := hls5.up hle2; have hkA := hkA.up hle2))
    all_goals (refine zt ?_; refine s_cf ?_; (first | refine s_gn rfl rfl ?_ | (refine s_gy rfl ?_; refine zR2 (c := rints_c hkA hkB hS) (h := ?_); rintro v1 w1 ⟨rfl, hS⟩; rw [decide_eq_true rfl])); refine zt ?_; refine s_cq ?_; (first | refine s_gn rfl rfl ?_ | (refine s_gy rfl ?_; refine Q1O rfl ?_)); refine zt ?_; refine s_cq ?_; (first | (refine zpt ?_) | (refine zpf ?_)); refine zt ?_; refine s_cq ?_; refine zm ?_; refine zt ?_; refine s_cq ?_; (first | refine s_gn rfl rfl ?_ | (refine s_gy rfl ?_; refine zm ?_)); refine zt ?_; refine s_cq ?_; (first | refine s_gn rfl rfl ?_ | (refine s_gy rfl ?_; refine Qi rfl ?_)); refine zt ?_; refine s_cq ?_; (first | refine s_gn rfl rfl ?_ | (refine s_gy rfl ?_; refine Q2 rfl ?_)); refine zt ?_; refine s_cq ?_; (first | refine s_gn rfl rfl ?_ | (refine s_gy rfl ?_; refine Qe hS rfl fd rfl ?_)); refine zt ?_; refine s_cq ?_; (first | refine s_gn rfl rfl ?_ | (refine s_gy rfl ?_; refine zm ?_)); refine zt ?_; refine s_cq ?_; (first | refine s_gn rfl rfl ?_ | (refine s_gy rfl ?_; refine Qi rfl ?_)); refine zt ?_; refine s_cq ?_; (first | refine s_gn rfl rfl ?_ | (refine s_gy rfl ?_; refine Q2 rfl ?_)); refine zt ?_; refine s_cq ?_; (first | refine s_gn rfl rfl ?_ | (refine s_gy rfl ?_; obtain ⟨vh, hS⟩ := Q3o (hp := j2.hp) (h := s1.h) (L := blk j2.sp 63 (j2.kcells vl5) :: sl 112 3 vl5 css5 :: j.res s1.h vl4 css4 :: blk p9 45 [.int .i64 e.op, .int .i64 e.a, .int .i64 e.yes.block, u1, u2, .int .i64 e.no.block, u3, u4, u5] :: L) hS.sp; refine QaQ hS vw fd rfl ?_)))
    all_goals (refine zt ?_; refine s_cq ?_; (first | refine s_gn rfl rfl ?_ | (refine s_gy rfl ?_; refine Qi rfl ?_)); refine zt ?_; refine s_cq ?_; (first | refine s_gn rfl rfl ?_ | (refine s_gy rfl ?_; refine Q2 rfl ?_)); refine zt ?_; refine s_cq ?_; (first | refine s_gn rfl rfl ?_ | (refine s_gy rfl ?_; refine QaQ hS vw fd rfl ?_)); refine zt ?_; refine s_cq ?_; (first | refine s_gn rfl rfl ?_ | (refine s_gy rfl ?_; refine Q1P hS vw fd (List.length_map _) ?_)); refine zt ?_; refine QU ?_; (first | refine s_gn rfl rfl ?_ | (refine s_gy rfl ?_; refine zR1 (c := Qv6 (h := s1.h) hS fd) (h := ?_); rintro v1 w1 ⟨rfl, hS⟩)); refine zt ?_; refine ⟨List.forall_mem_cons.2 ⟨(by first | (exact QG hS rfl fd rfl) | (exact Q1Y rfl (QG hS rfl fd rfl)) | (exact Q8R rfl rfl) | (exact Q1Y rfl (Q18 hS rfl fd rfl))), List.forall_mem_cons.2 ⟨(by first | (exact QG hS rfl fd rfl) | (exact Q1Y rfl (QG hS rfl fd rfl)) | (exact Q8R rfl rfl) | (exact Q1Y rfl (Q18 hS rfl fd rfl))), fun _ h => (List.not_mem_nil h).elim⟩⟩, ?_⟩; refine s_cq ?_)
    all_goals (first | refine s_gn rfl rfl ?_ | (refine s_gy rfl ?_; (first | (refine QZ ?_) | (refine Q10 ?_))))
    all_goals (refine zt ?_; refine s_cf ?_; (first | (refine zpt ?_) | (refine zpf ?_)); refine zt ?_; refine zcn ?_; have hS := Q37 (hp := j2.hp) (h := s1.h) (v := vh) (L := blk j2.sp 63 (j2.kcells vl5) :: sl 112 3 vl5 css5 :: j.res s1.h vl4 css4 :: blk p9 45 [.int .i64 e.op, .int .i64 e.a, .int .i64 e.yes.block, u1, u2, .int .i64 e.no.block, u3, u4, u5] :: L) hS.sp)
    all_goals
      first
      | (refine Q3 rfl ?_ -- QO c6
         all_goals (refine Q0 ?_; refine Q1 ?_; refine zm ?_; refine zn ?_; refine zr ?_; refine zf ?_)
         all_goals (exact ⟨_, rfl, rfl, hS.sp⟩))
      | (refine Q4 rfl ?_ -- QO c6
         all_goals refine zsk ?_)
    all_goals (refine Q1 ?_; refine zm ?_; refine zad ?_; refine zm ?_; refine zn ?_; exact ⟨⟨_, q + 1, s1, vl4, css4, vl5, css5, zh, zh, hL0, (by omega), hj, hj2, hls4, hls5, hg1, hS.sp⟩, Qr (by omega)⟩)
  · skip
    all_goals (refine zex ?_; refine Q0 ?_; refine zC [(0, none), (1, none), (3, none), (4, none), (2, some (some [4])), (5, some none), (6, none), (7, none), (8, none), (9, none), (10, none), (11, none), (12, none), (14, none), (15, none), (16, none), (17, none), (18, none), (13, some (some [17])), (19, some none), (20, none), (21, none), (22, none), (23, none), (25, none), (26, none), (27, none), (28, none), (24, some (some [28])), (29, some none), (30, none), (31, some none)] ?_; have hS := hS.drew; refine s_cq ?_; refine zm ?_; refine zt ?_; refine s_cq ?_; refine zv hS ?_; refine zt ?_; refine s_cq ?_; refine zm ?_; refine zt ?_; refine s_cq ?_; refine zv hS ?_; refine zt ?_; refine QU ?_; refine zR2 (c := jEnd_c (s := s) (x := e) hsf hfb (by omega) hg.h hj he hls hS fd) (h := ?_); rintro v1 w1 ⟨rfl, hS⟩; refine zt ?_; refine ⟨List.forall_mem_cons.2 ⟨(by first | (exact QG hS rfl fd rfl) | (exact Q1Y rfl (QG hS rfl fd rfl)) | (exact Q2i hS rfl fd rfl rfl)), fun _ h => (List.not_mem_nil h).elim⟩, ?_⟩; refine s_cf ?_; refine zR2 (c := rEnd_c (s := s) (e := e) (by rw [hjf2]; exact hsf) (by rw [hjf2]; exact hfb) (by rw [hjf2]; omega) (by rw [hjf2]; omega) (by rw [hjf2]; exact hg) hj2 he hls2 hS.p3) (h := ?_); rintro v1 w1 ⟨rfl, hS⟩; rw [hjf2])
    all_goals (refine zt ?_; refine s_cq ?_)
    all_goals (refine Qv ?_)
    all_goals (refine zt ?_; refine s_cq ?_; refine zm ?_; refine zt ?_; refine s_cq ?_; (first | refine s_gn rfl rfl ?_ | (refine s_gy rfl ?_; refine zm ?_)); refine zt ?_; refine s_cq ?_; (first | refine s_gn rfl rfl ?_ | (refine s_gy rfl ?_; refine Qi rfl ?_)); refine zt ?_; refine s_cq ?_; (first | refine s_gn rfl rfl ?_ | (refine s_gy rfl ?_; refine Q2 rfl ?_)); refine zt ?_; refine s_cq ?_; (first | refine s_gn rfl rfl ?_ | (refine s_gy rfl ?_; refine Qe hS rfl fd rfl ?_)); refine zt ?_; refine s_cq ?_; (first | refine s_gn rfl rfl ?_ | (refine s_gy rfl ?_; refine zm ?_)); refine zt ?_; refine s_cq ?_; (first | refine s_gn rfl rfl ?_ | (refine s_gy rfl ?_; refine zm ?_)); refine zt ?_; refine s_cq ?_; (first | refine s_gn rfl rfl ?_ | (refine s_gy rfl ?_; refine Qi rfl ?_)); refine zt ?_; refine s_cq ?_; (first | refine s_gn rfl rfl ?_ | (refine s_gy rfl ?_; refine Q2 rfl ?_)); refine zt ?_; refine s_cq ?_; (first | refine s_gn rfl rfl ?_ | (refine s_gy rfl ?_; (first | (refine Qe hS rfl fd rfl ?_) | (refine zl hS ?_)))); refine zt ?_; refine s_cq ?_; (first | refine s_gn rfl rfl ?_ | (refine s_gy rfl ?_; refine zm ?_)); refine zt ?_; refine QU ?_; (first | refine s_gn rfl rfl ?_ | (refine s_gy rfl ?_; refine zR2 (c := Qv9 hS fd) (h := ?_); rintro v1 w1 ⟨rfl, hS⟩)))
    all_goals (refine zt ?_; refine ⟨List.forall_mem_cons.2 ⟨(by first | (exact QG hS rfl fd rfl) | (exact Q1Y rfl (QG hS rfl fd rfl)) | (exact Q8R rfl rfl) | (exact Q1Y rfl (Q18 hS rfl fd rfl))), fun _ h => (List.not_mem_nil h).elim⟩, ?_⟩; refine s_cf ?_; (first | refine s_gn rfl rfl ?_ | (refine s_gy rfl ?_; refine zR2 (c := QuO hS fd) (h := ?_); rintro v1 w1 ⟨rfl, hS⟩)); refine zt ?_; refine s_cq ?_; (first | refine s_gn rfl rfl ?_ | (refine s_gy rfl ?_; refine s_beq_t (by kernel_rfl) rfl rfl rfl ?_)); refine zt ?_; refine s_cq ?_; refine zpt ?_; refine zt ?_; refine s_cq ?_; refine zm ?_; refine zt ?_; refine s_cq ?_; (first | refine s_gn rfl rfl ?_ | (refine s_gy rfl ?_; refine zm ?_)); refine zt ?_; refine s_cq ?_; (first | refine s_gn rfl rfl ?_ | (refine s_gy rfl ?_; refine zm ?_)); refine zt ?_; refine s_cq ?_; (first | refine s_gn rfl rfl ?_ | (refine s_gy rfl ?_; refine Qi rfl ?_)); refine zt ?_; refine s_cq ?_; (first | refine s_gn rfl rfl ?_ | (refine s_gy rfl ?_; refine Q2 rfl ?_)); refine zt ?_; refine s_cq ?_; (first | refine s_gn rfl rfl ?_ | (refine s_gy rfl ?_; (first | (refine Qe hS rfl fd rfl ?_) | (refine zl hS ?_)))))
    all_goals (refine zt ?_; refine QU ?_)
    all_goals (first | refine s_gn rfl rfl ?_ | (refine s_gy rfl ?_; have hn := hg.n; refine zR1 (c := Qn3 (s := s) hg.s hg.n hls hS fd) (h := ?_); rintro v1 w1 ⟨c6, hle2, hkT, hS⟩; (try have hle := hle.trans hle2); (try have hL0 := hL0.trans hle2); (try have hl := hl.up hle2); (try have hls := hls.up hle2); (try have he := he.up hle2); have hls2 := hls2.up hle2))
    all_goals (refine zt ?_; refine ⟨List.forall_mem_cons.2 ⟨(by first | (exact QG hS rfl fd rfl) | (exact Q1Y rfl (QG hS rfl fd rfl)) | (exact Q8R rfl rfl) | (exact Q1Y rfl (Q18 hS rfl fd rfl))), fun _ h => (List.not_mem_nil h).elim⟩, ?_⟩; refine s_cf ?_; (first | refine s_gn rfl rfl ?_ | (refine s_gy rfl ?_; obtain ⟨c7, hle7, hS, hk7, hback⟩ := St.lend (r := tyR) (hS.out (r := sl 112 3 vl2 css2) fd) hls2 rfl (by omega); simp only [List.eraseIdx_cons_zero, List.eraseIdx_cons_succ] at hS; refine zR2 (c := QmP (hkT.up hle7) hk7 hS) (h := ?_); rintro v9 w9 ⟨rfl, hS⟩; have hS := hback hS; rw [decide_eq_true rfl])); refine zt ?_; refine s_cq ?_; refine zpt ?_; refine zt ?_; refine s_cf ?_; refine zm ?_; refine zt ?_; refine zcn ?_; refine zr ?_; refine zf ?_; (first | (exact ⟨_, rfl, rfl, hS.sp⟩) | (exact ⟨_, rfl, rfl, St.weak hS.sp hle⟩)))
end Go.Proofs.YtanlkfeogoganaaGreat
namespace Go.Proofs.YtanlkfeogoganaaGreat
open Go.Lir
theorem judgeDoes_rd {c d : Array Value} {v : Value} {x : Module} {l : List Ins} {e : Tail} {w : World} (f b : Int) (h1 : cMod.cod.rd w.heap c.toList x) (h2 : cInss.cod.rd w.heap [v] l) (h3 : cEnd.cod.rd w.heap d.toList e) : Rets Tryz.prog QO [.agg c, .int .i64 f, .int .i64 b, v, .agg d] w fun v w' => v = .bool true ∧ Fr NF w w' := by
  obtain ⟨v1, e1, h4⟩ := cInss.top h2
  obtain rfl : v = v1 := by cases e1; rfl
  exact (QrR (cMod.top h1) h4 (cEnd.top h3) (St.top w)).mono fun _ _ ⟨h, h2⟩ => ⟨h, h2.fr⟩
end Go.Proofs.YtanlkfeogoganaaGreat
