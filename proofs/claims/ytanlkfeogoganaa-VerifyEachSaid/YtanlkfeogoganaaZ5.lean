/- Lemmas of the proof, part 5: what the functions of the program do (contracts), and what follows. -/
import Derived.Test.YtanlkfeogoganaaZ2
import Derived.Test.YtanlkfeogoganaaZ4
import Derived.Test.YtanlkfeogoganaaZ3
import Derived.Lib.Strings
namespace Go.Proofs.Ytanlkfeogoganaa
open Go.Lir
set_option maxHeartbeats 1000000
attribute [local irreducible] LC.wp Q3 QZ Q1g retQ Q2p LO.wp QH Calls
set_option linter.unusedSimpArgs false
set_option linter.unusedVariables false
attribute [local irreducible] hasB Q8a Q2q Q32
variable {cx : Cx} {w : World} {L : List Res} {j : JP} {h : List Bool} {vl : Value} {css : List (List Value)} {i : Nat} {m : Module}
theorem jtuple_c {s : JS} {x : Ins} {cs : List Value} (hal : x.args.length ≤ 8) (hn : s.l.length ≤ 80) (hx : insR.at cx cs x) (hls : tyR.ls cx css s.l) (hS : St cx w L) (hi : nth L i = some (j.res s.h vl css)) :
    Fins Try.prog Q4a [.pointer (some ⟨j.sp, 0, none⟩), .agg ⟨cs⟩] w (JOk cx L j i (Qci s x)) (JNo cx L (Qci s x)) := by
  have hS := hS.out hi
  obtain ⟨vr, va, rfl, hr, ha⟩ := Q1Q hx
  unfold Fins Qci
  all_goals refine Q6e ?_
  all_goals (unfold judge_State_tuple_lc; refine Q0 ?_; refine Q1 ?_; refine zb hS ?_; intro p3 w1 hS; refine zn ?_; refine Q0 ?_; refine Q1 ?_; refine zm ?_; refine Q2 rfl ?_; (first | (refine Qi hS rfl fd rfl ?_) | (refine zl hS ?_)); refine zE3 (c := QgR hls hS fd) (p := by rintro v9 w9 ⟨c, h1, rfl, hS⟩; (repeat (first | refine Qq ?_ | refine Qs ?_ | refine fun _ => ?_)); refine QO ?_; refine .inr ⟨_, rfl, ?_⟩; exact ⟨_, QM h1, rfl, (St.back0 hS.sp hi)⟩) (h := ?_); rintro v1 w1 ⟨t, cs1, h1, rfl, hrd, hS⟩; have hrd' := hrd; obtain ⟨vd, rfl, hld⟩ := Ql hrd; refine QkS rfl rfl ?_; refine zb2 [_, _, _] ?_; refine Q8 hS ?_; intro p4 w1 hS; refine zsn hS ?_; intro w1 hS; have hS := hS.ns; refine zn ?_; refine Q0 ?_; refine Q0 ?_; refine Q1 ?_; refine Q2 rfl ?_; (first | (refine Qi hS rfl fd rfl ?_) | (refine zl hS ?_)); refine zL ?_; refine zm ?_; refine zn ?_; refine Qb ?_; have hS := St.nil (T := 65) (es := 3) hS)
  refine zo [0, 4, 14, 15] (fun A ρ' w' => ∃ (q : Nat) (vo : Value) (co : List (List Value)) (ts : List Ty), Has ρ' A ∧ Has ρ' [(16, .int .i64 q)] ∧ (q ≤ x.args.length) ∧ (tyR.ls cx co ts) ∧ (ts.length = q) ∧ (oneC vo = true) ∧ (jfields s x.args = QF (jfields s (x.args.drop q)) fun l => .ok (ts ++ l)) ∧ St cx w' (sl 65 3 vo co :: blk p4 65 [.int .i64 3, .int .i64 t.r, vo] :: blk p3 27 [.int .i64 x.op, .int .i64 x.a, .int .i64 x.b, .int .i64 x.c, .int .i64 x.k, .int .i64 x.n, vr, va] :: j.res s.h vl css :: L.eraseIdx i)) (fun ρ' _ => (x.args.length - iv (ρ' 16)).toNat) ?_ ?_
  · exact ⟨0, _, [], [], zh, zh, (by omega), Rep.LR.nil _ _ _, rfl, rfl, by rw [List.drop_zero]; cases jfields s x.args <;> rfl, hS.sp⟩
  rintro ρ w1 ⟨q, vo, co, ts, hA, hρ, hq, hlo, hlt, hvo, hd, hS⟩; obtain ⟨ρ, rfl⟩ := env2 hA hρ
  unfold Q39
  all_goals (refine Q0 ?_; refine Q1 ?_; refine QC rfl rfl ?_; refine zn ?_; refine Q0 ?_)
  refine Qy rfl (fun hc => ?_) (fun hc => ?_)
  · skip
    all_goals (refine zsk ?_; refine Q0 ?_; refine Qb ?_; refine Q0 ?_; refine Q1 ?_; refine zi ?_; intro b1 o1 cs1 x1 hat1 hx1 he1; obtain rfl := Q1X he1; (first | (refine Qi hS rfl fd rfl ?_) | (refine zl hS ?_) | (refine zlk hS ?_)); refine zm ?_; refine zn ?_; refine zC [(0, none), (1, none), (2, none), (3, none), (4, some (some [1])), (5, some (some [1])), (6, some none), (7, none), (8, some none)] ?_; have hS := hS.drew; refine s_cq ?_; refine Q2 rfl ?_; refine zt ?_; refine s_cq ?_; (first | (refine Qi hS rfl fd rfl ?_) | (refine zl hS ?_)); refine zt ?_; refine s_cq ?_; refine zm ?_; refine zt ?_; refine s_cq ?_; refine zm ?_; refine zt ?_; refine Q10 ?_; refine zE2 (c := Q5Q hls hS fd) (p := by rintro v9 w9 ⟨c, h2, rfl, hS⟩; (repeat (first | refine Qq ?_ | refine Qs ?_ | refine fun _ => ?_)); refine QO ?_; refine .inr ⟨_, rfl, ?_⟩; exact ⟨_, by rw [Qe h1, QM (Qqs hx1 hd h2)], rfl, (St.back0 hS.sp hi)⟩) (h := ?_); rintro v1 w1 ⟨t2, cs2, h2, rfl, hrd2, hS⟩; have hrd2' := hrd2; obtain ⟨vd2, rfl, hld2⟩ := Ql hrd2; refine zt ?_; refine ⟨List.forall_mem_cons.2 ⟨(by first | (exact Q1f hS rfl fd rfl) | (exact Q1Y hS rfl fd rfl)), fun _ h => (List.not_mem_nil h).elim⟩, ?_⟩)
    all_goals (refine Q10 ?_; refine zB1 hS [_, _, _] ?_; intro b1 w1 hS; refine zt ?_; refine ⟨List.forall_mem_cons.2 ⟨(by first | (exact Q1f hS rfl fd rfl) | (exact Q1Y hS rfl fd rfl)), fun _ h => (List.not_mem_nil h).elim⟩, ?_⟩; refine s_cf ?_; refine za Q6M QiL hS ?_; intro vp1 w1 css1 hls1 hv1 hS; have hS := hS.ns; refine zt ?_; refine s_cq ?_; refine Q2 rfl ?_; refine zt ?_; refine s_cf ?_; refine zst hS ?_; intro w1 hS; have hS := hS.ns; refine zt ?_; refine zcn ?_; refine Q1 ?_; refine zad ?_; refine zm ?_; refine zn ?_; exact ⟨⟨q + 1, _, _, ts ++ [t2], zh, zh, (by omega), hls1, by simp [hlt], by assumption, Qqr hx1 hd h2, hS.sp⟩, Qx (by omega)⟩)
  · skip
    all_goals (refine zex ?_; have hts := Qqq hd (by omega); obtain ⟨c1, hle2, hS, hk1⟩ := St.freezeL (r := tyR) hS hlo rfl (by omega); have hT := Q37 (k := 3) (r := t.r) hk1; have hls := hls.up hle2; obtain ⟨ao, no, rfl⟩ := Rep.SR.shape hk1; refine Q0 ?_; refine zC [(0, none), (1, none), (2, none), (3, none), (4, none), (5, some (some [0])), (6, some none), (7, none), (8, some none)] ?_; have hS := hS.drew; refine s_cq ?_; refine zv hS ?_; refine zt ?_; refine s_cq ?_; refine zm ?_; refine zt ?_; refine s_cq ?_; refine QA rfl ?_; refine zt ?_; refine s_cq ?_; refine Q2 rfl ?_; refine zt ?_; refine s_cq ?_; refine Qi hS rfl fd rfl ?_; refine zt ?_; refine Q10 ?_; refine zR1 (c := jlen_c hS fd) (h := ?_); rintro v1 w1 ⟨rfl, hS⟩; refine zt ?_; refine ⟨List.forall_mem_cons.2 ⟨(by first | (exact Q1f hS rfl fd rfl) | (exact Q33 hS rfl fd rfl rfl)), fun _ h => (List.not_mem_nil h).elim⟩, ?_⟩; refine s_cf ?_; refine zR2 (c := Qoh hT hS) (h := ?_); rintro v1 w1 ⟨rfl, hS⟩; refine zt ?_; refine s_cq ?_; refine Q4F rfl rfl ?_; refine zt ?_; refine s_cf ?_)
    all_goals (first | (refine zR2 (c := Q2w hS) (h := ?_); rintro v1 w1 ⟨rfl, hS⟩) | (refine zE2 (c := Q2v hS) (p := by rintro v9 w9 ⟨rfl, hS⟩; (repeat (refine Qq ?_)); refine QO ?_; refine .inr ⟨_, rfl, ?_⟩; first | (exact ⟨_, by rw [Qe h1, Qe hts, if_pos (of_decide_eq_true hb)], rfl, St.weak (St.back0 hS.sp hi) hle2⟩)) (h := fun _ _ h => h.elim)) | (refine zE2 (c := Q3w hS) (p := by rintro v9 w9 ⟨rfl, hb, hS⟩; (repeat (first | refine Qq ?_ | refine Qs ?_ | refine fun _ => ?_)); refine QO ?_; refine .inr ⟨_, rfl, ?_⟩; first | (exact ⟨_, by rw [Qe h1, Qe hts, if_pos (of_decide_eq_true hb)], rfl, St.weak (St.back0 hS.sp hi) hle2⟩)) (h := ?_); rintro v1 w1 ⟨rfl, hb, hS⟩))
    all_goals (refine zt ?_; refine zcn ?_; refine Q1 ?_; refine zm ?_; refine zv hS ?_; refine zE2 (c := Q9l (s := s) (by omega) hT hls hS fd) (p := by rintro v9 w9 ⟨rfl, h80', hS⟩; (repeat (first | refine Qq ?_ | refine Qs ?_ | refine fun _ => ?_)); refine QO ?_; refine .inr ⟨_, rfl, ?_⟩; exact ⟨_, by rw [Qe h1, Qe hts, if_neg (of_decide_eq_false hb), Q88 h80'], rfl, St.weak (St.back0 hS.sp hi) hle2⟩) (h := ?_); rintro v1 w1 ⟨rfl, hne80, vl4, cs4, hls4, hS⟩; have hS := hS.ns; refine zn ?_; refine Q1y ?_; exact .inl ⟨_, rfl, rfl, c1, ⟨s.h, _⟩, vl4, cs4, hle2, by rw [Qe h1, Qe hts, if_neg (of_decide_eq_false hb), Q4J hne80], hls4, (St.back hS.sp hi)⟩)
theorem Q5z {n : Nat} {x : Ins} (h : QP n x = 0) : Q1H n x = 0 := by
  unfold QP at h
  split at h
  · cases h
  · split at h
    · cases h
    · exact h
theorem Q9m {n : Nat} {x : Ins} (h : QP n x = 0) (ho : x.op = 6 ∨ x.op = 7) : 0 ≤ x.k := by
  have h := Q5z h
  unfold Q1H at h
  rcases ho with ho | ho <;> simp [ho] at h <;> omega
theorem Qqz {n : Nat} {x : Ins} (h : QP n x = 0) (ho : x.op = 5) : x.args.length ≤ 8 := by
  have h := Q5z h
  unfold Q1H at h
  simp [ho] at h; omega
theorem QqA {n : Nat} {x : Ins} (h : QP n x = 0) (ho : x.op = 14) : 0 ≤ x.k ∧ x.k < n := by
  have h := Q5z h
  unfold Q1H at h
  simp [ho] at h; omega
theorem jins_c {s : JS} {x : Ins} {cs : List Value} (hm : m.Short) (hF : QP m.funcs.length x = 0) (hn : s.l.length ≤ 80) (hh : s.h.length ≤ 16) (hj : j.Fits cx m) (hx : insR.at cx cs x) (hls : tyR.ls cx css s.l) (hS : St cx w L) (hi : nth L i = some (j.res s.h vl css)) :
    Fins Try.prog Qd [.pointer (some ⟨j.sp, 0, none⟩), .agg ⟨cs⟩] w (JOk cx L j i (jins m j.f s x)) (JNo cx L (jins m j.f s x)) := by
  have hS := hS.out hi
  have hx' := hx
  have hop := Qiw hF
  have hlc := hls.1
  have hN : tyR.at cx [.int .i64 1, .int .i64 0, .slice none 0 0] number := Q37 (Rep.SR.nil _ _ _)
  obtain ⟨vr, va, rfl, hr, ha⟩ := Q1Q hx
  unfold Fins
  all_goals refine Q8U ?_
  all_goals (unfold judge_State_ins_lc; refine Q0 ?_; refine Q1 ?_; refine zb hS ?_; intro p3 w1 hS; refine zn ?_; refine Q0 ?_; refine Q1 ?_; refine zb1 [_, _, _] ?_; refine Q8 hS ?_; intro p4 w1 hS; refine zsn hS ?_; intro w1 hS; have hS := hS.ns; refine zn ?_; refine Q0 ?_; refine Q1 ?_; refine Q2 rfl ?_; (first | (refine Qi hS rfl fd rfl ?_) | (refine zl hS ?_)); refine zn ?_; refine Qb ?_; refine Q0 ?_; refine Q0 ?_; refine Q1 ?_)
  all_goals (first | (refine QD ?_) | (refine QI ?_) | (refine Qu rfl rfl (fun hc => ?_) (fun hc => ?_)))
  all_goals (refine zm ?_; refine zn ?_)
  all_goals
    first
    | (refine Q5 rfl ?_ -- Qd c0
       all_goals refine zsk ?_)
    | (refine Q6 rfl ?_ -- Qd c0
       all_goals (refine Q1 ?_)
       all_goals (first | (refine QD ?_) | (refine QI ?_) | (refine Qu rfl rfl (fun hc => ?_) (fun hc => ?_)))
       all_goals (refine zm ?_)
       all_goals refine zn ?_)
  all_goals
    first
    | (refine Q5 rfl ?_ -- Qd c1
       all_goals (refine Q1 ?_; refine zm ?_; refine zv hS ?_; refine zE2 (c := Q9l (s := s) (by omega) hN hls hS fd) (p := by rintro v9 w9 ⟨rfl, h80, hS⟩; (repeat (first | refine Qq ?_ | refine Qs ?_ | refine fun _ => ?_)); refine QO ?_; refine .inr ⟨_, rfl, ?_⟩; exact ⟨_, by rw [QoH (by omega), Q88 h80], rfl, (St.back0 hS.sp hi)⟩) (h := ?_); rintro v1 w1 ⟨rfl, hne, vl4, cs4, hls4, hS⟩; have hS := hS.ns; have hJ : JOk cx L j i (jins m j.f s x) (.tuple #[]) w1 := ⟨rfl, cx, ⟨s.h, _⟩, vl4, cs4, St.refl hS, by rw [QoH (by omega), Q4J hne], hls4, (St.back hS.sp hi)⟩; refine zn ?_)
       all_goals (refine Q1y ?_; exact .inl ⟨_, rfl, hJ⟩))
    | (refine Q6 rfl ?_ -- Qd c1
       all_goals (refine Q0 ?_; refine Q1 ?_)
       all_goals (first | (refine QD ?_) | (refine QI ?_) | (refine Qu rfl rfl (fun hc => ?_) (fun hc => ?_)))
       all_goals (refine zm ?_; refine zn ?_)
       all_goals
         first
         | (refine Q5 rfl ?_ -- Qd c2
            all_goals (refine Q0 ?_; refine Q1 ?_; refine zm ?_; refine Q2 rfl ?_; (first | (refine Qi hS rfl fd rfl ?_) | (refine zl hS ?_)); refine zE3 (c := Q4K (s := s) hls hS fd) (p := by rintro v9 w9 ⟨c, h1, rfl, hS⟩; (repeat (first | refine Qq ?_ | refine Qs ?_ | refine fun _ => ?_)); refine QO ?_; refine .inr ⟨_, rfl, ?_⟩; exact ⟨_, by rw [Qlk (by omega), QM h1], rfl, (St.back0 hS.sp hi)⟩) (h := ?_); rintro v1 w1 ⟨t1, cs1, h1, rfl, hrd1, hS⟩; skip; refine zn ?_; refine Q0 ?_; refine Q1 ?_; refine zm ?_; refine Q2 rfl ?_; (first | (refine Qi hS rfl fd rfl ?_) | (refine zl hS ?_)); refine zE3 (c := Q4K (s := s) hls hS fd) (p := by rintro v9 w9 ⟨c, h2, rfl, hS⟩; (repeat (first | refine Qq ?_ | refine Qs ?_ | refine fun _ => ?_)); refine QO ?_; refine .inr ⟨_, rfl, ?_⟩; exact ⟨_, by rw [Qlk (by omega), Qe h1, QM h2], rfl, (St.back0 hS.sp hi)⟩) (h := ?_); rintro v1 w1 ⟨t2, cs2, h2, rfl, hrd2, hS⟩; skip; refine zn ?_; refine Q1 ?_; refine zm ?_; refine zv hS ?_; refine zE2 (c := Q9l (s := s) (by omega) hN hls hS fd) (p := by rintro v9 w9 ⟨rfl, h80, hS⟩; (repeat (first | refine Qq ?_ | refine Qs ?_ | refine fun _ => ?_)); refine QO ?_; refine .inr ⟨_, rfl, ?_⟩; exact ⟨_, by rw [Qlk (by omega), Qe h1, Qe h2, Q88 h80], rfl, (St.back0 hS.sp hi)⟩) (h := ?_); rintro v1 w1 ⟨rfl, hne, vl4, cs4, hls4, hS⟩; have hS := hS.ns; have hJ : JOk cx L j i (jins m j.f s x) (.tuple #[]) w1 := ⟨rfl, cx, ⟨s.h, _⟩, vl4, cs4, St.refl hS, by rw [Qlk (by omega), Qe h1, Qe h2, Q4J hne], hls4, (St.back hS.sp hi)⟩)
            all_goals (refine zn ?_)
            all_goals (refine Q1y ?_; exact .inl ⟨_, rfl, hJ⟩))
         | (refine Q6 rfl ?_ -- Qd c2
            all_goals (refine Q0 ?_; refine Q1 ?_)
            all_goals (first | (refine QD ?_) | (refine QI ?_) | (refine Qu rfl rfl (fun hc => ?_) (fun hc => ?_)))
            all_goals (refine zm ?_; refine zn ?_)
            all_goals
              first
              | (refine Q6 rfl ?_ -- Qd c3
                 all_goals (refine Q0 ?_; refine Q1 ?_)
                 all_goals (first | (refine QD ?_) | (refine QI ?_) | (refine Qu rfl rfl (fun hc => ?_) (fun hc => ?_)))
                 all_goals (refine zm ?_; refine zn ?_)
                 all_goals
                   first
                   | (refine Q5 rfl ?_ -- Qd c4
                      all_goals (refine Q0 ?_; refine Q1 ?_; refine zm ?_; refine Q2 rfl ?_; (first | (refine Qi hS rfl fd rfl ?_) | (refine zl hS ?_)); refine zE3 (c := QgR (s := s) hls hS fd) (p := by rintro v9 w9 ⟨c, h1, rfl, hS⟩; (repeat (first | refine Qq ?_ | refine Qs ?_ | refine fun _ => ?_)); refine QO ?_; refine .inr ⟨_, rfl, ?_⟩; exact ⟨_, by rw [QoG (by omega), QM h1], rfl, (St.back0 hS.sp hi)⟩) (h := ?_); rintro v1 w1 ⟨t1, cs1, h1, rfl, hrd1, hS⟩; obtain ⟨vd1, rfl, hld1⟩ := Ql hrd1; refine QkS rfl rfl ?_; refine zm ?_; refine zn ?_; refine Q0 ?_; refine Q1 ?_; refine zm ?_; refine zm ?_; refine QA rfl ?_; refine Q2 rfl ?_; (first | refine Q2 rfl ?_ | refine Q1A rfl ?_); refine Qi hS rfl fd rfl ?_)
                      all_goals (first | (refine Q1Z ?_) | (refine Q20 ?_) | (refine QQ rfl rfl (fun hc => ?_) (fun hc => ?_)))
                      all_goals (first | (refine zR2 (c := Q2w hS) (h := ?_); rintro v1 w1 ⟨rfl, hS⟩) | (refine zE2 (c := Q2v hS) (p := by rintro v9 w9 ⟨rfl, hS⟩; (repeat (first | refine Qq ?_ | refine Qs ?_ | refine fun _ => ?_)); refine QO ?_; refine .inr ⟨_, rfl, ?_⟩; exact ⟨_, by rw [QoG (by omega), Qe h1, if_pos (by omega)], rfl, (St.back0 hS.sp hi)⟩) (h := fun _ _ h => h.elim)))
                      all_goals (refine zn ?_; refine Q1 ?_; refine zm ?_; refine QA rfl ?_; refine Q2 rfl ?_; refine Qi hS rfl fd rfl ?_; refine zm ?_; refine zR2 (c := jshut_c (QoJ h1).2.2.2 hS fd) (h := ?_); rintro v1 w1 ⟨rfl, hS⟩; have hS := hS.ns; have hJ : JOk cx L j i (jins m j.f s x) (.tuple #[]) w1 := ⟨rfl, cx, ⟨s.h.set t1.r.toNat false, s.l⟩, vl, css, St.refl hS, by rw [QoG (by omega), Qe h1, if_neg (by omega)], hls, (St.back hS.sp hi)⟩; refine zn ?_)
                      all_goals (refine Q1y ?_; exact .inl ⟨_, rfl, hJ⟩))
                   | (refine Q6 rfl ?_ -- Qd c4
                      all_goals (refine Q0 ?_; refine Q1 ?_)
                      all_goals (first | (refine QD ?_) | (refine QI ?_) | (refine Qu rfl rfl (fun hc => ?_) (fun hc => ?_)))
                      all_goals (refine zm ?_; refine zn ?_)
                      all_goals
                        first
                        | (refine Q5 rfl ?_ -- Qd c5
                           all_goals (refine Q1 ?_; refine zm ?_; refine zv hS ?_; refine zE2 (c := jtuple_c (Qqz hF (by omega)) hn hx' hls hS fd) (p := by rintro v9 w9 ⟨c, g1, rfl, hS⟩; (repeat (first | refine Qq ?_ | refine Qs ?_ | refine fun _ => ?_)); refine QO ?_; refine .inr ⟨_, rfl, ?_⟩; exact ⟨_, by rw [Qqo (by omega)]; exact g1, rfl, (St.back0 hS.sp hi)⟩) (h := ?_); rintro v1 w1 ⟨rfl, c1, s1, vl4, cs4, hle, hr1, hls4, hS⟩; have hS := hS.ns; have hJ : JOk cx L j i (jins m j.f s x) (.tuple #[]) w1 := ⟨rfl, c1, s1, vl4, cs4, hle, by rw [Qqo (by omega)]; exact hr1, hls4, (St.back hS.sp hi)⟩; refine zn ?_)
                           all_goals (refine Q1y ?_; exact .inl ⟨_, rfl, hJ⟩))
                        | (refine Q6 rfl ?_ -- Qd c5
                           all_goals (refine Q0 ?_; refine Q1 ?_)
                           all_goals (first | (refine QD ?_) | (refine QI ?_) | (refine Qu rfl rfl (fun hc => ?_) (fun hc => ?_)))
                           all_goals (refine zm ?_; refine zn ?_)
                           all_goals
                             first
                             | (refine Q5 rfl ?_ -- Qd c6
                                all_goals (refine zC [(0, none), (1, none), (2, none), (3, none), (4, none), (6, none), (7, none), (5, some (some [7])), (8, some (some [])), (9, some none)] ?_; have hS := hS.drew; refine s_cq ?_; refine zm ?_; refine zt ?_; refine s_cq ?_; refine zm ?_; refine zt ?_; refine s_cq ?_; refine zm ?_; refine zt ?_; refine s_cq ?_; refine Q2 rfl ?_; refine zt ?_; refine s_cq ?_; (first | (refine Qi hS rfl fd rfl ?_) | (refine zl hS ?_)); refine zt ?_; refine s_cq ?_; refine Q2 rfl ?_; refine zt ?_; refine s_cq ?_; (first | (refine Qi hS rfl fd rfl ?_) | (refine zl hS ?_)); refine zt ?_; refine Q10 ?_; refine zE3 (c := QgR (s := s) hls hS fd) (p := by rintro v9 w9 ⟨c, h1, rfl, hS⟩; (repeat (first | refine Qq ?_ | refine Qs ?_ | refine fun _ => ?_)); refine QO ?_; refine .inr ⟨_, rfl, ?_⟩; exact ⟨_, by rw [Qlj (by omega), QM h1], rfl, (St.back0 hS.sp hi)⟩) (h := ?_); rintro v1 w1 ⟨t1, cs1, h1, rfl, hrd1, hS⟩; have hrd1' := hrd1; obtain ⟨vd1, rfl, hld1⟩ := Ql hrd1; refine zt ?_; refine ⟨List.forall_mem_cons.2 ⟨(by first | (exact Q1f hS rfl fd rfl) | (exact Q1Y hS rfl fd rfl)), fun _ h => (List.not_mem_nil h).elim⟩, ?_⟩)
                                all_goals (refine Q10 ?_; refine zE3 (c := QdD (j := j) (Q9m hF (by omega)) hrd1' hS) (p := by rintro v9 w9 ⟨c, h2, rfl, hS⟩; (repeat (first | refine Qq ?_ | refine Qs ?_ | refine fun _ => ?_)); refine QO ?_; refine .inr ⟨_, rfl, ?_⟩; exact ⟨_, by rw [Qlj (by omega), Qe h1, QM h2], rfl, (St.back0 hS.sp hi)⟩) (h := ?_); rintro v1 w1 ⟨t2, cs2, h2, rfl, hrd2, hS⟩; skip; refine zt ?_; refine ⟨fun _ h => (List.not_mem_nil h).elim, ?_⟩; refine s_cf ?_; refine zE2 (c := Q9l (s := s) (by omega) hrd2 hls hS fd) (p := by rintro v9 w9 ⟨rfl, h80, hS⟩; (repeat (first | refine Qq ?_ | refine Qs ?_ | refine fun _ => ?_)); refine QO ?_; refine .inr ⟨_, rfl, ?_⟩; exact ⟨_, by rw [Qlj (by omega), Qe h1, Qe h2, Q88 h80], rfl, (St.back0 hS.sp hi)⟩) (h := ?_); rintro v1 w1 ⟨rfl, hne, vl4, cs4, hls4, hS⟩; have hS := hS.ns; have hJ : JOk cx L j i (jins m j.f s x) (.tuple #[]) w1 := ⟨rfl, cx, ⟨s.h, _⟩, vl4, cs4, St.refl hS, by rw [Qlj (by omega), Qe h1, Qe h2, Q4J hne], hls4, (St.back hS.sp hi)⟩; refine zt ?_; refine zcn ?_)
                                all_goals (refine Q1y ?_; exact .inl ⟨_, rfl, hJ⟩))
                             | (refine Q6 rfl ?_ -- Qd c6
                                all_goals (refine Q0 ?_; refine Q1 ?_)
                                all_goals (first | (refine QD ?_) | (refine QI ?_) | (refine Qu rfl rfl (fun hc => ?_) (fun hc => ?_)))
                                all_goals (refine zm ?_; refine zn ?_)
                                all_goals
                                  first
                                  | (refine Q5 rfl ?_ -- Qd c7
                                     all_goals (refine Q0 ?_)
                                     refine Q4D 4 8 (by kernel_rfl) ?_ ?_
                                     · skip
                                       refine Q4D 7 8 (by kernel_rfl) ?_ ?_
                                       · skip
                                         all_goals (refine zC [(0, none), (1, none), (2, none), (3, none), (5, none), (6, none), (4, some (some [6])), (7, some none), (8, some none), (9, some none)] ?_; have hS := hS.drew; refine s_cq ?_; refine zm ?_; refine zt ?_; refine s_cq ?_; refine zm ?_; refine zt ?_; refine s_cq ?_; refine Q2 rfl ?_; refine zt ?_; refine s_cq ?_; (first | (refine Qi hS rfl fd rfl ?_) | (refine zl hS ?_)); refine zt ?_; refine s_cq ?_; refine Q2 rfl ?_; refine zt ?_; refine s_cq ?_; (first | (refine Qi hS rfl fd rfl ?_) | (refine zl hS ?_)); refine zt ?_; refine Q10 ?_; refine zE3 (c := QgR (s := s) hls hS fd) (p := by rintro v9 w9 ⟨c, h1, rfl, hS⟩; (repeat (first | refine Qq ?_ | refine Qs ?_ | refine fun _ => ?_)); refine QO ?_; refine .inr ⟨_, rfl, ?_⟩; exact ⟨_, by rw [Q3b (by omega), QM h1], rfl, (St.back0 hS.sp hi)⟩) (h := ?_); rintro v1 w1 ⟨t1, cs1, h1, rfl, hrd1, hS⟩; have hrd1' := hrd1; obtain ⟨vd1, rfl, hld1⟩ := Ql hrd1; refine zt ?_; refine ⟨List.forall_mem_cons.2 ⟨(by first | (exact Q1f hS rfl fd rfl) | (exact Q1Y hS rfl fd rfl)), fun _ h => (List.not_mem_nil h).elim⟩, ?_⟩)
                                         all_goals (refine s_cf ?_; refine zE3 (c := QdD (j := j) (Q9m hF (by omega)) hrd1' hS) (p := by rintro v9 w9 ⟨c, h2, rfl, hS⟩; (repeat (first | refine Qq ?_ | refine Qs ?_ | refine fun _ => ?_)); refine QO ?_; refine .inr ⟨_, rfl, ?_⟩; exact ⟨_, by rw [Q3b (by omega), Qe h1, QM h2], rfl, (St.back0 hS.sp hi)⟩) (h := ?_); rintro v1 w1 ⟨t2, cs2, h2, rfl, hrd2, hS⟩; have hrd2' := hrd2; obtain ⟨vd2, rfl, hld2⟩ := Ql hrd2; refine zt ?_; refine s_cf ?_; refine Q8 hS ?_; intro p6 w1 hS; refine zt ?_; refine s_cf ?_; refine zsn hS ?_; intro w1 hS; have hS := hS.ns; refine zt ?_; refine zcn ?_; refine zC [(0, none), (1, none), (2, none), (3, none), (4, some (some [0])), (5, some none), (6, none), (7, some none)] ?_; have hS := hS.drew; refine s_cq ?_; refine zv hS ?_; refine zt ?_; refine s_cq ?_; refine zm ?_; refine zt ?_; refine s_cq ?_; refine Q2 rfl ?_; refine zt ?_; refine s_cq ?_; (first | (refine Qi hS rfl fd rfl ?_) | (refine zl hS ?_)); refine zt ?_; refine Q10 ?_; refine zE2 (c := Q5Q (s := s) hls hS fd) (p := by rintro v9 w9 ⟨c, h3, rfl, hS⟩; (repeat (first | refine Qq ?_ | refine Qs ?_ | refine fun _ => ?_)); refine QO ?_; refine .inr ⟨_, rfl, ?_⟩; exact ⟨_, by rw [Q3b (by omega), Qe h1, Qe h2, QM h3], rfl, (St.back0 hS.sp hi)⟩) (h := ?_); rintro v1 w1 ⟨t3, cs3, h3, rfl, hrd3, hS⟩; skip)
                                         all_goals (refine zt ?_; refine ⟨List.forall_mem_cons.2 ⟨(by first | (exact Q1f hS rfl fd rfl) | (exact Q33 hS rfl fd rfl rfl)), fun _ h => (List.not_mem_nil h).elim⟩, ?_⟩; refine s_cf ?_; refine zR2 (c := QeE _ _ hrd2' hrd3 hS) (h := ?_); rintro v1 w1 ⟨rfl, hS⟩; refine zt ?_; refine s_cq ?_; refine Q1W rfl ?_; refine zt ?_; refine s_cf ?_; refine zE2 (c := Q3w hS) (p := by rintro v9 w9 ⟨rfl, hb, hS⟩; (repeat (first | refine Qq ?_ | refine Qs ?_ | refine fun _ => ?_)); refine QO ?_; refine .inr ⟨_, rfl, ?_⟩; exact ⟨_, by rw [Q3b (by omega), Qe h1, Qe h2, Qe h3, if_pos (by simpa using hb)], rfl, (St.back0 hS.sp hi)⟩) (h := ?_); rintro v1 w1 ⟨rfl, hb, hS⟩; refine zt ?_; refine zcn ?_; have hJ : JOk cx L j i (jins m j.f s x) (.tuple #[]) w1 := ⟨rfl, cx, s, vl, css, St.refl hS, by rw [Q3b (by omega), Qe h1, Qe h2, Qe h3, if_neg (by simpa using hb)], hls, (St.back hS.sp hi)⟩; refine Q1y ?_; exact .inl ⟨_, rfl, hJ⟩)
                                       · skip
                                         all_goals (refine zC [(0, none), (1, none), (2, none), (3, none), (5, none), (6, none), (4, some (some [6])), (8, some (some [6])), (7, some none), (9, some none)] ?_; have hS := hS.drew; refine s_cq ?_; refine zm ?_; refine zt ?_; refine s_cq ?_; refine zm ?_; refine zt ?_; refine s_cq ?_; refine Q2 rfl ?_; refine zt ?_; refine s_cq ?_; (first | (refine Qi hS rfl fd rfl ?_) | (refine zl hS ?_)); refine zt ?_; refine s_cq ?_; refine Q2 rfl ?_; refine zt ?_; refine s_cq ?_; (first | (refine Qi hS rfl fd rfl ?_) | (refine zl hS ?_)); refine zt ?_; refine Q10 ?_; refine zE3 (c := QgR (s := s) hls hS fd) (p := by rintro v9 w9 ⟨c, h1, rfl, hS⟩; (repeat (first | refine Qq ?_ | refine Qs ?_ | refine fun _ => ?_)); refine QO ?_; refine .inr ⟨_, rfl, ?_⟩; exact ⟨_, by rw [Q3b (by omega), QM h1], rfl, (St.back0 hS.sp hi)⟩) (h := ?_); rintro v1 w1 ⟨t1, cs1, h1, rfl, hrd1, hS⟩; have hrd1' := hrd1; obtain ⟨vd1, rfl, hld1⟩ := Ql hrd1; refine zt ?_; refine ⟨List.forall_mem_cons.2 ⟨(by first | (exact Q1f hS rfl fd rfl) | (exact Q1Y hS rfl fd rfl)), fun _ h => (List.not_mem_nil h).elim⟩, ?_⟩)
                                         all_goals (refine Q10 ?_; refine Q8 hS ?_; intro p6 w1 hS; refine zt ?_; refine ⟨List.forall_mem_cons.2 ⟨(by first | (exact Q1f hS rfl fd rfl) | (exact Q1Y hS rfl fd rfl)), fun _ h => (List.not_mem_nil h).elim⟩, ?_⟩; refine s_cf ?_; refine zE3 (c := QdD (j := j) (Q9m hF (by omega)) hrd1' hS) (p := by rintro v9 w9 ⟨c, h2, rfl, hS⟩; (repeat (first | refine Qq ?_ | refine Qs ?_ | refine fun _ => ?_)); refine QO ?_; refine .inr ⟨_, rfl, ?_⟩; exact ⟨_, by rw [Q3b (by omega), Qe h1, QM h2], rfl, (St.back0 hS.sp hi)⟩) (h := ?_); rintro v1 w1 ⟨t2, cs2, h2, rfl, hrd2, hS⟩; have hrd2' := hrd2; obtain ⟨vd2, rfl, hld2⟩ := Ql hrd2; refine zt ?_; refine s_cf ?_; refine zsn hS ?_; intro w1 hS; have hS := hS.ns; refine zt ?_; refine zcn ?_; refine zC [(0, none), (1, none), (2, none), (3, none), (4, some (some [0])), (5, some none), (6, none), (7, some none)] ?_; have hS := hS.drew; refine s_cq ?_; refine zv hS ?_; refine zt ?_; refine s_cq ?_; refine zm ?_; refine zt ?_; refine s_cq ?_; refine Q2 rfl ?_; refine zt ?_; refine s_cq ?_; (first | (refine Qi hS rfl fd rfl ?_) | (refine zl hS ?_)))
                                         all_goals (refine zt ?_; refine Q10 ?_; refine zE2 (c := Q5Q (s := s) hls hS fd) (p := by rintro v9 w9 ⟨c, h3, rfl, hS⟩; (repeat (first | refine Qq ?_ | refine Qs ?_ | refine fun _ => ?_)); refine QO ?_; refine .inr ⟨_, rfl, ?_⟩; exact ⟨_, by rw [Q3b (by omega), Qe h1, Qe h2, QM h3], rfl, (St.back0 hS.sp hi)⟩) (h := ?_); rintro v1 w1 ⟨t3, cs3, h3, rfl, hrd3, hS⟩; skip; refine zt ?_; refine ⟨List.forall_mem_cons.2 ⟨(by first | (exact Q1f hS rfl fd rfl) | (exact Q33 hS rfl fd rfl rfl)), fun _ h => (List.not_mem_nil h).elim⟩, ?_⟩; refine s_cf ?_; refine zR2 (c := QeE _ _ hrd2' hrd3 hS) (h := ?_); rintro v1 w1 ⟨rfl, hS⟩; refine zt ?_; refine s_cq ?_; refine Q1W rfl ?_; refine zt ?_; refine s_cf ?_; refine zE2 (c := Q3w hS) (p := by rintro v9 w9 ⟨rfl, hb, hS⟩; (repeat (first | refine Qq ?_ | refine Qs ?_ | refine fun _ => ?_)); refine QO ?_; refine .inr ⟨_, rfl, ?_⟩; exact ⟨_, by rw [Q3b (by omega), Qe h1, Qe h2, Qe h3, if_pos (by simpa using hb)], rfl, (St.back0 hS.sp hi)⟩) (h := ?_); rintro v1 w1 ⟨rfl, hb, hS⟩; refine zt ?_; refine zcn ?_; have hJ : JOk cx L j i (jins m j.f s x) (.tuple #[]) w1 := ⟨rfl, cx, s, vl, css, St.refl hS, by rw [Q3b (by omega), Qe h1, Qe h2, Qe h3, if_neg (by simpa using hb)], hls, (St.back hS.sp hi)⟩; refine Q1y ?_; exact .inl ⟨_, rfl, hJ⟩)
                                     · skip
                                       all_goals (refine zC [(0, none), (1, none), (2, none), (3, none), (5, none), (6, none), (8, some (some [3, 6])), (4, some (some [6])), (7, some none), (9, some none)] ?_; have hS := hS.drew; refine s_cq ?_; refine zm ?_; refine zt ?_; refine s_cq ?_; refine zm ?_; refine zt ?_; refine s_cq ?_; refine Q2 rfl ?_; refine zt ?_; refine s_cq ?_; (first | (refine Qi hS rfl fd rfl ?_) | (refine zl hS ?_)); refine zt ?_; refine s_cq ?_; refine Q2 rfl ?_; refine zt ?_; refine s_cq ?_; (first | (refine Qi hS rfl fd rfl ?_) | (refine zl hS ?_)); refine zt ?_; refine Q10 ?_; refine Q8 hS ?_; intro p6 w1 hS; refine zt ?_; refine ⟨List.forall_mem_cons.2 ⟨(by first | (exact Q1f hS rfl fd rfl) | (exact Q1Y hS rfl fd rfl)), List.forall_mem_cons.2 ⟨(by first | (exact Q1f hS rfl fd rfl) | (exact Q1Y hS rfl fd rfl)), fun _ h => (List.not_mem_nil h).elim⟩⟩, ?_⟩; refine Q10 ?_; refine zE3 (c := QgR (s := s) hls hS fd) (p := by rintro v9 w9 ⟨c, h1, rfl, hS⟩; (repeat (first | refine Qq ?_ | refine Qs ?_ | refine fun _ => ?_)); refine QO ?_; refine .inr ⟨_, rfl, ?_⟩; exact ⟨_, by rw [Q3b (by omega), QM h1], rfl, (St.back0 hS.sp hi)⟩) (h := ?_); rintro v1 w1 ⟨t1, cs1, h1, rfl, hrd1, hS⟩; have hrd1' := hrd1; obtain ⟨vd1, rfl, hld1⟩ := Ql hrd1)
                                       all_goals (refine zt ?_; refine ⟨List.forall_mem_cons.2 ⟨(by first | (exact Q1f hS rfl fd rfl) | (exact Q1Y hS rfl fd rfl)), fun _ h => (List.not_mem_nil h).elim⟩, ?_⟩; refine s_cf ?_; refine zE3 (c := QdD (j := j) (Q9m hF (by omega)) hrd1' hS) (p := by rintro v9 w9 ⟨c, h2, rfl, hS⟩; (repeat (first | refine Qq ?_ | refine Qs ?_ | refine fun _ => ?_)); refine QO ?_; refine .inr ⟨_, rfl, ?_⟩; exact ⟨_, by rw [Q3b (by omega), Qe h1, QM h2], rfl, (St.back0 hS.sp hi)⟩) (h := ?_); rintro v1 w1 ⟨t2, cs2, h2, rfl, hrd2, hS⟩; have hrd2' := hrd2; obtain ⟨vd2, rfl, hld2⟩ := Ql hrd2; refine zt ?_; refine s_cf ?_; refine zsn hS ?_; intro w1 hS; have hS := hS.ns; refine zt ?_; refine zcn ?_; refine zC [(0, none), (1, none), (2, none), (3, none), (4, some (some [0])), (5, some none), (6, none), (7, some none)] ?_; have hS := hS.drew; refine s_cq ?_; refine zv hS ?_; refine zt ?_; refine s_cq ?_; refine zm ?_; refine zt ?_; refine s_cq ?_; refine Q2 rfl ?_; refine zt ?_; refine s_cq ?_; (first | (refine Qi hS rfl fd rfl ?_) | (refine zl hS ?_)); refine zt ?_)
                                       all_goals (refine Q10 ?_; refine zE2 (c := Q5Q (s := s) hls hS fd) (p := by rintro v9 w9 ⟨c, h3, rfl, hS⟩; (repeat (first | refine Qq ?_ | refine Qs ?_ | refine fun _ => ?_)); refine QO ?_; refine .inr ⟨_, rfl, ?_⟩; exact ⟨_, by rw [Q3b (by omega), Qe h1, Qe h2, QM h3], rfl, (St.back0 hS.sp hi)⟩) (h := ?_); rintro v1 w1 ⟨t3, cs3, h3, rfl, hrd3, hS⟩; skip; refine zt ?_; refine ⟨List.forall_mem_cons.2 ⟨(by first | (exact Q1f hS rfl fd rfl) | (exact Q33 hS rfl fd rfl rfl)), fun _ h => (List.not_mem_nil h).elim⟩, ?_⟩; refine s_cf ?_; refine zR2 (c := QeE _ _ hrd2' hrd3 hS) (h := ?_); rintro v1 w1 ⟨rfl, hS⟩; refine zt ?_; refine s_cq ?_; refine Q1W rfl ?_; refine zt ?_; refine s_cf ?_; refine zE2 (c := Q3w hS) (p := by rintro v9 w9 ⟨rfl, hb, hS⟩; (repeat (first | refine Qq ?_ | refine Qs ?_ | refine fun _ => ?_)); refine QO ?_; refine .inr ⟨_, rfl, ?_⟩; exact ⟨_, by rw [Q3b (by omega), Qe h1, Qe h2, Qe h3, if_pos (by simpa using hb)], rfl, (St.back0 hS.sp hi)⟩) (h := ?_); rintro v1 w1 ⟨rfl, hb, hS⟩; refine zt ?_; refine zcn ?_; have hJ : JOk cx L j i (jins m j.f s x) (.tuple #[]) w1 := ⟨rfl, cx, s, vl, css, St.refl hS, by rw [Q3b (by omega), Qe h1, Qe h2, Qe h3, if_neg (by simpa using hb)], hls, (St.back hS.sp hi)⟩)
                                       all_goals (refine Q1y ?_; exact .inl ⟨_, rfl, hJ⟩))
                                  | (refine Q6 rfl ?_ -- Qd c7
                                     all_goals (refine Q0 ?_; refine Q1 ?_)
                                     all_goals (first | (refine QD ?_) | (refine QI ?_) | (refine Qu rfl rfl (fun hc => ?_) (fun hc => ?_)))
                                     all_goals (refine zm ?_; refine zn ?_)
                                     all_goals
                                       first
                                       | (refine Q5 rfl ?_ -- Qd c8
                                          all_goals (refine Q0 ?_; refine Q1 ?_; refine zm ?_; refine Q2 rfl ?_; (first | (refine Qi hS rfl fd rfl ?_) | (refine zl hS ?_)); refine zE3 (c := QgR (s := s) hls hS fd) (p := by rintro v9 w9 ⟨c, h1, rfl, hS⟩; (repeat (first | refine Qq ?_ | refine Qs ?_ | refine fun _ => ?_)); refine QO ?_; refine .inr ⟨_, rfl, ?_⟩; exact ⟨_, by rw [Qli (by omega), QM h1], rfl, (St.back0 hS.sp hi)⟩) (h := ?_); rintro v1 w1 ⟨t1, cs1, h1, rfl, hrd1, hS⟩; obtain ⟨vd1, rfl, hld1⟩ := Ql hrd1; refine QkS rfl rfl ?_; refine zm ?_; refine zn ?_; refine Q0 ?_; refine Q1 ?_; refine zm ?_; refine Q2 rfl ?_; (first | (refine Qi hS rfl fd rfl ?_) | (refine zl hS ?_)); refine zE3 (c := Q4K (s := s) hls hS fd) (p := by rintro v9 w9 ⟨c, h2, rfl, hS⟩; (repeat (first | refine Qq ?_ | refine Qs ?_ | refine fun _ => ?_)); refine QO ?_; refine .inr ⟨_, rfl, ?_⟩; exact ⟨_, by rw [Qli (by omega), Qe h1, QM h2], rfl, (St.back0 hS.sp hi)⟩) (h := ?_); rintro v1 w1 ⟨t2, cs2, h2, rfl, hrd2, hS⟩; skip; refine zn ?_; refine Q1 ?_; refine zm ?_; refine zm ?_; refine zb2 [_, _, _] ?_; refine zE2 (c := Q9l (s := s) (by omega) (Q37 (k := 4) (r := t1.r) (l := []) (Rep.SR.nil _ _ _)) hls hS fd) (p := by rintro v9 w9 ⟨rfl, h80, hS⟩; (repeat (first | refine Qq ?_ | refine Qs ?_ | refine fun _ => ?_)); refine QO ?_; refine .inr ⟨_, rfl, ?_⟩; exact ⟨_, by rw [Qli (by omega), Qe h1, Qe h2, Q88 h80], rfl, (St.back0 hS.sp hi)⟩) (h := ?_); rintro v1 w1 ⟨rfl, hne, vl4, cs4, hls4, hS⟩; have hS := hS.ns; have hJ : JOk cx L j i (jins m j.f s x) (.tuple #[]) w1 := ⟨rfl, cx, ⟨s.h, _⟩, vl4, cs4, St.refl hS, by rw [Qli (by omega), Qe h1, Qe h2, Q4J hne], hls4, (St.back hS.sp hi)⟩)
                                          all_goals refine zn ?_)
                                       | (refine Q6 rfl ?_ -- Qd c8
                                          all_goals (refine Q0 ?_; refine Q1 ?_)
                                          all_goals (first | (refine QD ?_) | (refine QI ?_) | (refine Qu rfl rfl (fun hc => ?_) (fun hc => ?_)))
                                          all_goals (refine zm ?_; refine zn ?_)
                                          all_goals
                                            first
                                            | (refine Q5 rfl ?_ -- Qd c9
                                               all_goals (refine Q0 ?_; refine Q1 ?_; refine zm ?_; refine Q2 rfl ?_; (first | (refine Qi hS rfl fd rfl ?_) | (refine zl hS ?_)); refine zE3 (c := QgR (s := s) hls hS fd) (p := by rintro v9 w9 ⟨c, h1, rfl, hS⟩; (repeat (first | refine Qq ?_ | refine Qs ?_ | refine fun _ => ?_)); refine QO ?_; refine .inr ⟨_, rfl, ?_⟩; exact ⟨_, by rw [Qlh (by omega), QM h1], rfl, (St.back0 hS.sp hi)⟩) (h := ?_); rintro v1 w1 ⟨t1, cs1, h1, rfl, hrd1, hS⟩; skip; refine zn ?_; refine Q0 ?_; refine Q1 ?_; refine zm ?_; refine Q2 rfl ?_; (first | (refine Qi hS rfl fd rfl ?_) | (refine zl hS ?_)); refine zE3 (c := Q4K (s := s) hls hS fd) (p := by rintro v9 w9 ⟨c, h2, rfl, hS⟩; (repeat (first | refine Qq ?_ | refine Qs ?_ | refine fun _ => ?_)); refine QO ?_; refine .inr ⟨_, rfl, ?_⟩; exact ⟨_, by rw [Qlh (by omega), Qe h1, QM h2], rfl, (St.back0 hS.sp hi)⟩) (h := ?_); rintro v1 w1 ⟨t2, cs2, h2, rfl, hrd2, hS⟩; skip; refine zn ?_; refine Q1 ?_; refine zm ?_; refine zv hS ?_; refine zE2 (c := Q9l (s := s) (by omega) hN hls hS fd) (p := by rintro v9 w9 ⟨rfl, h80, hS⟩; (repeat (first | refine Qq ?_ | refine Qs ?_ | refine fun _ => ?_)); refine QO ?_; refine .inr ⟨_, rfl, ?_⟩; exact ⟨_, by rw [Qlh (by omega), Qe h1, Qe h2, Q88 h80], rfl, (St.back0 hS.sp hi)⟩) (h := ?_); rintro v1 w1 ⟨rfl, hne, vl4, cs4, hls4, hS⟩; have hS := hS.ns; have hJ : JOk cx L j i (jins m j.f s x) (.tuple #[]) w1 := ⟨rfl, cx, ⟨s.h, _⟩, vl4, cs4, St.refl hS, by rw [Qlh (by omega), Qe h1, Qe h2, Q4J hne], hls4, (St.back hS.sp hi)⟩)
                                               all_goals refine zn ?_)
                                            | (refine Q6 rfl ?_ -- Qd c9
                                               all_goals (refine Q0 ?_; refine Q1 ?_)
                                               all_goals (first | (refine QD ?_) | (refine QI ?_) | (refine Qu rfl rfl (fun hc => ?_) (fun hc => ?_)))
                                               all_goals (refine zm ?_; refine zn ?_)
                                               all_goals
                                                 first
                                                 | (refine Q5 rfl ?_ -- Qd c10
                                                    all_goals (refine Q0 ?_; refine Q1 ?_; refine zm ?_; refine Q2 rfl ?_; (first | (refine Qi hS rfl fd rfl ?_) | (refine zl hS ?_)); refine zE3 (c := QgR (s := s) hls hS fd) (p := by rintro v9 w9 ⟨c, h1, rfl, hS⟩; (repeat (first | refine Qq ?_ | refine Qs ?_ | refine fun _ => ?_)); refine QO ?_; refine .inr ⟨_, rfl, ?_⟩; exact ⟨_, by rw [QeP (by omega), QM h1], rfl, (St.back0 hS.sp hi)⟩) (h := ?_); rintro v1 w1 ⟨t1, cs1, h1, rfl, hrd1, hS⟩; skip; refine zn ?_; refine Q0 ?_; refine Q1 ?_; refine zm ?_; refine Q2 rfl ?_; (first | (refine Qi hS rfl fd rfl ?_) | (refine zl hS ?_)); refine zE3 (c := Q4K (s := s) hls hS fd) (p := by rintro v9 w9 ⟨c, h2, rfl, hS⟩; (repeat (first | refine Qq ?_ | refine Qs ?_ | refine fun _ => ?_)); refine QO ?_; refine .inr ⟨_, rfl, ?_⟩; exact ⟨_, by rw [QeP (by omega), Qe h1, QM h2], rfl, (St.back0 hS.sp hi)⟩) (h := ?_); rintro v1 w1 ⟨t2, cs2, h2, rfl, hrd2, hS⟩; skip; refine zn ?_; refine Q1 ?_; refine zm ?_; refine Q2 rfl ?_; (first | (refine Qi hS rfl fd rfl ?_) | (refine zl hS ?_)))
                                                    all_goals (refine zE3 (c := Q4K (s := s) hls hS fd) (p := by rintro v9 w9 ⟨c, h3, rfl, hS⟩; (repeat (first | refine Qq ?_ | refine Qs ?_ | refine fun _ => ?_)); refine QO ?_; refine .inr ⟨_, rfl, ?_⟩; exact ⟨_, by rw [QeP (by omega), Qe h1, Qe h2, QM h3], rfl, (St.back0 hS.sp hi)⟩) (h := ?_); rintro v1 w1 ⟨t3, cs3, h3, rfl, hrd3, hS⟩; skip; refine zn ?_)
                                                    all_goals (have hJ : JOk cx L j i (jins m j.f s x) (.tuple #[]) w1 := ⟨rfl, cx, s, vl, css, St.refl hS, by rw [QeP (by omega), Qe h1, Qe h2, Qe h3], hls, (St.back hS.sp hi)⟩))
                                                 | (refine Q6 rfl ?_ -- Qd c10
                                                    all_goals (refine Q0 ?_; refine Q1 ?_)
                                                    all_goals (first | (refine QD ?_) | (refine QI ?_) | (refine Qu rfl rfl (fun hc => ?_) (fun hc => ?_)))
                                                    all_goals (refine zm ?_; refine zn ?_)
                                                    all_goals
                                                      first
                                                      | (refine Q5 rfl ?_ -- Qd c11
                                                         all_goals (refine Q0 ?_; refine Q1 ?_; refine zm ?_; refine Q2 rfl ?_; (first | (refine Qi hS rfl fd rfl ?_) | (refine zl hS ?_)); refine zE3 (c := QgR (s := s) hls hS fd) (p := by rintro v9 w9 ⟨c, h1, rfl, hS⟩; (repeat (first | refine Qq ?_ | refine Qs ?_ | refine fun _ => ?_)); refine QO ?_; refine .inr ⟨_, rfl, ?_⟩; exact ⟨_, by rw [Qje (by omega), QM h1], rfl, (St.back0 hS.sp hi)⟩) (h := ?_); rintro v1 w1 ⟨t1, cs1, h1, rfl, hrd1, hS⟩; skip; refine zn ?_; refine Q1 ?_; refine zm ?_; refine zv hS ?_; refine zE2 (c := Q9l (s := s) (by omega) hN hls hS fd) (p := by rintro v9 w9 ⟨rfl, h80, hS⟩; (repeat (first | refine Qq ?_ | refine Qs ?_ | refine fun _ => ?_)); refine QO ?_; refine .inr ⟨_, rfl, ?_⟩; exact ⟨_, by rw [Qje (by omega), Qe h1, Q88 h80], rfl, (St.back0 hS.sp hi)⟩) (h := ?_); rintro v1 w1 ⟨rfl, hne, vl4, cs4, hls4, hS⟩; have hS := hS.ns; have hJ : JOk cx L j i (jins m j.f s x) (.tuple #[]) w1 := ⟨rfl, cx, ⟨s.h, _⟩, vl4, cs4, St.refl hS, by rw [Qje (by omega), Qe h1, Q4J hne], hls4, (St.back hS.sp hi)⟩)
                                                         all_goals refine zn ?_)
                                                      | (refine Q6 rfl ?_ -- Qd c11
                                                         all_goals (refine Q0 ?_; refine Q1 ?_)
                                                         all_goals (first | (refine QD ?_) | (refine QI ?_) | (refine Qu rfl rfl (fun hc => ?_) (fun hc => ?_)))
                                                         all_goals (refine zm ?_; refine zn ?_)
                                                         all_goals
                                                           first
                                                           | (refine Q5 rfl ?_ -- Qd c12
                                                              all_goals (refine Q1 ?_; refine zm ?_; refine Q2 rfl ?_; (first | (refine Qi hS rfl fd rfl ?_) | (refine zl hS ?_)); refine zE3 (c := Q4K (s := s) hls hS fd) (p := by rintro v9 w9 ⟨c, h1, rfl, hS⟩; (repeat (first | refine Qq ?_ | refine Qs ?_ | refine fun _ => ?_)); refine QO ?_; refine .inr ⟨_, rfl, ?_⟩; exact ⟨_, by rw [QmZ (by omega), QM h1], rfl, (St.back0 hS.sp hi)⟩) (h := ?_); rintro v1 w1 ⟨t1, cs1, h1, rfl, hrd1, hS⟩; skip; refine zn ?_)
                                                              all_goals (have hJ : JOk cx L j i (jins m j.f s x) (.tuple #[]) w1 := ⟨rfl, cx, s, vl, css, St.refl hS, by rw [QmZ (by omega), Qe h1], hls, (St.back hS.sp hi)⟩))
                                                           | (refine Q6 rfl ?_ -- Qd c12
                                                              all_goals (refine Q0 ?_; refine Q1 ?_)
                                                              all_goals (refine QD ?_)
                                                              all_goals (refine zm ?_; refine zn ?_)
                                                              all_goals
                                                                first
                                                                | (refine Q5 rfl ?_ -- Qd c13
                                                                   all_goals (refine Q1 ?_; refine zm ?_; refine zv hS ?_; refine zE2 (c := jcall_c hm (QqA hF (by omega)) hn hj hx' hls hS fd) (p := by rintro v9 w9 ⟨c, g1, rfl, hS⟩; (repeat (first | refine Qq ?_ | refine Qs ?_ | refine fun _ => ?_)); refine QO ?_; refine .inr ⟨_, rfl, ?_⟩; exact ⟨_, by rw [QmY (by omega)]; exact g1, rfl, (St.back0 hS.sp hi)⟩) (h := ?_); rintro v1 w1 ⟨rfl, c1, s1, vl4, cs4, hle, hr1, hls4, hS⟩; have hS := hS.ns; have hJ : JOk cx L j i (jins m j.f s x) (.tuple #[]) w1 := ⟨rfl, c1, s1, vl4, cs4, hle, by rw [QmY (by omega)]; exact hr1, hls4, (St.back hS.sp hi)⟩)
                                                                   all_goals refine zn ?_))))))
                                     all_goals (refine Q1y ?_; exact .inl ⟨_, rfl, hJ⟩))))))
              | (refine Q5 rfl ?_ -- Qd c3
                 all_goals (refine Q0 ?_; refine Q1 ?_; refine zm ?_; refine QA rfl ?_; refine Q2 rfl ?_; refine Qi hS rfl fd rfl ?_; refine zR1 (c := jlen_c hS fd) (h := ?_); rintro v1 w1 ⟨rfl, hS⟩)
                 all_goals (first | (refine QD ?_) | (refine QI ?_) | (refine Qu rfl rfl (fun hc => ?_) (fun hc => ?_)))
                 all_goals (refine zm ?_; (first | refine s_gn rfl rfl ?_ | (refine s_gy rfl ?_; refine zm ?_)); (first | refine s_gn rfl rfl ?_ | (refine s_gy rfl ?_; refine QA rfl ?_)); (first | refine s_gn rfl rfl ?_ | (refine s_gy rfl ?_; refine Q2 rfl ?_)); (first | refine s_gn rfl rfl ?_ | (refine s_gy rfl ?_; refine Qi hS rfl fd rfl ?_)); (first | refine s_gn rfl rfl ?_ | (refine s_gy rfl ?_; refine Qir hS fd vw hlc ?_)))
                 all_goals (first | refine s_gn rfl rfl ?_ | (refine s_gy rfl ?_; (first | (refine QD ?_) | (refine QI ?_) | (refine Qu rfl rfl (fun hc => ?_) (fun hc => ?_)))))
                 all_goals ((first | (refine zpt ?_) | (refine zpf ?_)))
                 all_goals (first | (refine zR2 (c := Q2w hS) (h := ?_); rintro v1 w1 ⟨rfl, hS⟩) | (refine zE2 (c := Q2v hS) (p := by rintro v9 w9 ⟨rfl, hS⟩; (repeat (first | refine Qq ?_ | refine Qs ?_ | refine fun _ => ?_)); refine QO ?_; refine .inr ⟨_, rfl, ?_⟩; exact ⟨_, by rw [Qqp (by omega), if_pos (by omega)], rfl, (St.back0 hS.sp hi)⟩) (h := fun _ _ h => h.elim)))
                 all_goals (refine zn ?_; refine Q1 ?_; refine zm ?_; refine zm ?_; refine QA rfl ?_; refine Q2 rfl ?_; refine Qi hS rfl fd rfl ?_; refine zR1 (c := jopen_c (h := s.h) (by omega) hS fd) (h := ?_); rintro v1 w1 ⟨rfl, hS⟩; have hS := hS.ns; refine zb2 [_, _, _] ?_; refine zE2 (c := Q9l (s := s) (by omega) (Q37 (k := 2) (r := s.h.length) (l := []) (Rep.SR.nil _ _ _)) hls hS fd) (p := by rintro v9 w9 ⟨rfl, h80, hS⟩; (repeat (first | refine Qq ?_ | refine Qs ?_ | refine fun _ => ?_)); refine QO ?_; refine .inr ⟨_, rfl, ?_⟩; (exfalso; omega)) (h := ?_); rintro v1 w1 ⟨rfl, hne, vl4, cs4, hls4, hS⟩; have hS := hS.ns; have hJ : JOk cx L j i (jins m j.f s x) (.tuple #[]) w1 := ⟨rfl, cx, ⟨s.h ++ [true], _⟩, vl4, cs4, St.refl hS, by rw [Qqp (by omega), if_neg (by omega)], hls4, (St.back hS.sp hi)⟩; refine zn ?_)
                 all_goals (refine Q1y ?_; exact .inl ⟨_, rfl, hJ⟩))))
end Go.Proofs.Ytanlkfeogoganaa
namespace Go.Proofs.Ytanlkfeogoganaa
open Go.Lir
set_option maxHeartbeats 1000000
attribute [local irreducible] LC.wp Q3 QZ Q1g retQ Q2p LO.wp QH Calls
set_option linter.unusedSimpArgs false
set_option linter.unusedVariables false
attribute [local irreducible] hasB Q8a Q2q Q32 Q60 upTo
variable {cx : Cx} {w : World} {L : List Res} {j : JP} {h : List Bool} {vl : Value} {css : List (List Value)} {i : Nat} {m : Module}
theorem jto_c {s : JS} {t : To} {cs : List Value} (hsf : j.f.Short) (hb : 0 ≤ t.block ∧ t.block < j.f.blocks.length) (hfb : ∀ b ∈ j.f.blocks, j.f.regs ≤ b.regs) (hh : s.h.length ≤ 16) (hj : j.Fits cx m) (hx : toR.at cx cs t) (hls : tyR.ls cx css s.l) (hS : St cx w L) (hi : nth L i = some (j.res s.h vl css)) :
    Fins Try.prog Q6K [.pointer (some ⟨j.sp, 0, none⟩), .agg ⟨cs⟩] w (fun u w' => jto j.f s t = .ok () ∧ u = .tuple #[] ∧ St cx w' L) (JNo cx L (jto j.f s t)) := by
  have hS := hS.out hi
  obtain ⟨vr, va, rfl, hr, ha⟩ := Q4p hx
  have hlr := hr.len
  have hbl := hj.b
  unfold Fins
  all_goals refine QaH ?_
  all_goals (unfold judge_State_to_lc; refine Q0 ?_; refine Q1 ?_; refine zb hS ?_; intro p3 w1 hS; refine zn ?_; refine Q0 ?_; refine zC [(0, none), (1, none), (2, none), (3, none), (4, none), (5, none), (6, none), (7, none), (8, none), (9, some (some [4, 6, 8])), (10, some none)] ?_; have hS := hS.drew; refine s_cq ?_; refine zm ?_; refine zt ?_; refine s_cq ?_; refine QA rfl ?_; refine zt ?_; refine s_cq ?_; refine Q2 rfl ?_; refine zt ?_; refine s_cq ?_; (first | refine Q2 rfl ?_ | refine Q1A rfl ?_); refine zt ?_; refine s_cq ?_; refine Qi hS rfl fd rfl ?_; refine zt ?_; refine s_cq ?_; refine Q2 rfl ?_; refine zt ?_; refine s_cq ?_; (first | (refine Qi hS rfl fd rfl ?_) | (refine zl hS ?_)); refine zt ?_; refine s_cq ?_; ((first | refine zi ?_ | refine zj ?_); intro b1 o1 cs1 x1 hat1 hx1 he1; obtain ⟨vp1, vc1, ve11, ve12, ve13, ve14, ve15, rfl, hp1, hc1, he11, he12, he13, he14, he15⟩ := Q2C he1); refine zt ?_; refine s_cq ?_; (first | (refine zv hS ?_) | (refine zvk hS ?_)); refine zt ?_; refine Q10 ?_; refine Q8 hS ?_; intro p4 w1 hS)
  all_goals (refine zt ?_; refine ⟨List.forall_mem_cons.2 ⟨(by (exact Q1f hS rfl fd rfl)), List.forall_mem_cons.2 ⟨(by first | (exact Q1f hS rfl fd rfl) | (exact Q1Y hS rfl fd rfl)), List.forall_mem_cons.2 ⟨(by first | (exact Q1f hS rfl fd rfl) | (exact Q33 hS rfl fd rfl rfl) | (exact Q5S hS (by assumption) rfl rfl rfl)), fun _ h => (List.not_mem_nil h).elim⟩⟩⟩, ?_⟩; refine s_cf ?_; refine zsn hS ?_; intro w1 hS; have hS := hS.ns; refine zt ?_; refine zcn ?_; have hbm := List.mem_of_getElem? hx1; have hf1 := hfb x1 hbm; have hsb := hsf.2.2.2 x1 hbm; refine Q0 ?_; refine Q1 ?_; refine Q2 rfl ?_; (first | (refine Qi hS rfl fd rfl ?_) | (refine zl hS ?_)); refine zL ?_; refine Q2 rfl ?_; (first | (refine Qi hS rfl fd rfl ?_) | (refine zl hS ?_)))
  all_goals (first | (refine Q1h ?_) | (refine Q1i ?_) | (refine Qw rfl rfl (fun hc => ?_) (fun hc => ?_)))
  all_goals (first | (refine zR2 (c := Q2w hS) (h := ?_); rintro v1 w1 ⟨rfl, hS⟩) | (refine zE2 (c := Q2v hS) (p := by rintro v9 w9 ⟨rfl, hS⟩; (repeat (first | refine Qq ?_ | refine Qs ?_ | refine fun _ => ?_)); refine QO ?_; refine .inr ⟨_, rfl, ?_⟩; exact ⟨_, jto_2 hx1 (by omega), rfl, (St.back0 hS.sp hi)⟩) (h := fun _ _ h => h.elim)))
  all_goals (refine zn ?_; refine Q0 ?_; refine Q0 ?_; refine Q1 ?_; refine zm ?_; refine QA rfl ?_; refine Q2 rfl ?_; (first | refine Q2 rfl ?_ | refine Q1A rfl ?_); refine Qi hS rfl fd rfl ?_; refine zm ?_; refine zn ?_; refine Qb ?_)
  refine zoL hS [0, 3, 4, 27] (fun A LL ρ' w' => ∃ (q : Nat), Has ρ' A ∧ Has ρ' [(28, .int .i64 q)] ∧ (q ≤ j.f.regs.toNat) ∧ (Q60 t.regs q = true) ∧ (¬ (t.regs.length : Int) ≠ x1.regs) ∧ St cx w' (LL)) (fun ρ' _ => (j.f.regs - iv (ρ' 28)).toNat) ?_ ?_
  · exact ⟨0, zh, zh, (by omega), by unfold Q60; rfl, by omega, hS.sp⟩
  rintro ρ w1 ⟨q, hA, hρ, hq, hk, hne, hS⟩; obtain ⟨ρ, rfl⟩ := env2 hA hρ
  unfold Q4b
  all_goals (refine Q0 ?_; refine Q1 ?_; refine QC rfl rfl ?_; refine zn ?_; refine Q0 ?_)
  refine Qy rfl (fun hc => ?_) (fun hc => ?_)
  · skip
    all_goals (refine zsk ?_; refine Q0 ?_; refine Qb ?_; refine Q0 ?_; refine Q1 ?_; refine zm ?_; refine zm ?_; refine zn ?_; refine Q1 ?_; refine Q2 rfl ?_; (first | (refine Qi hS rfl fd rfl ?_) | (refine zl hS ?_)); refine zm ?_; refine zi ?_; intro b2 o2 cs2 x2 hat2 hx2 he2; obtain rfl := Q1X he2; (first | (refine Qi hS rfl fd rfl ?_) | (refine zl hS ?_) | (refine zlk hS ?_)); refine zm ?_)
    all_goals (first | (refine Q1h ?_) | (refine Q1i ?_) | (refine Qw rfl rfl (fun hc => ?_) (fun hc => ?_)))
    all_goals (first | (refine zR2 (c := Q2w hS) (h := ?_); rintro v1 w1 ⟨rfl, hS⟩) | (refine zE2 (c := Q2v hS) (p := by rintro v9 w9 ⟨rfl, hS⟩; (repeat (first | refine Qq ?_ | refine Qs ?_ | refine fun _ => ?_)); refine QO ?_; refine .inr ⟨_, rfl, ?_⟩; exact ⟨_, jto_11 hx1 hne (kept_no (q := q) (by omega) (by rw [hx2]; intro h; cases h; omega)), rfl, (St.back0 hS.sp hi)⟩) (h := fun _ _ h => h.elim)))
    all_goals (refine zn ?_; refine Q1 ?_; refine zad ?_; refine zm ?_; refine zn ?_; exact ⟨⟨q + 1, zh, zh, (by omega), by rw [kept_s, hk, hx2]; simp; omega, hne, hS.sp⟩, Qx (by omega)⟩)
  · skip
    all_goals (refine zex ?_; have hq' : q = j.f.regs.toNat := (by omega); rw [hq'] at hk; refine Q0 ?_; refine zD [(0, none), (1, none), (2, none), (3, none), (4, none), (5, none), (6, some none), (7, some none)] ?_; have hS := hS.drew; refine zm ?_; refine QA rfl ?_; refine Q2 rfl ?_; refine Qi hS rfl fd rfl ?_; refine Q2 rfl ?_; (first | (refine Qi hS rfl fd rfl ?_) | (refine zl hS ?_)); refine zR2 (c := jpass_c (h := s.h) hh hr hS fd) (h := ?_); rintro v1 w1 ⟨rfl, hS⟩; refine zm ?_; refine zn ?_; refine Q0 ?_; refine Q1 ?_; refine zm ?_; refine Q4F rfl rfl ?_; refine zm ?_; refine zE2 (c := Q3w hS) (p := by rintro v9 w9 ⟨rfl, hb, hS⟩; (repeat (first | refine Qq ?_ | refine Qs ?_ | refine fun _ => ?_)); refine QO ?_; refine .inr ⟨_, rfl, ?_⟩; exact ⟨_, jto_p hx1 hne hk (of_decide_eq_true hb), rfl, (St.back0 hS.sp hi)⟩) (h := ?_); rintro v1 w1 ⟨rfl, hb, hS⟩; refine zn ?_; refine Q1 ?_; refine zm ?_; refine Q2 rfl ?_; (first | (refine Qi hS rfl fd rfl ?_) | (refine zl hS ?_)); refine Q2 rfl ?_; (first | (refine Qi hS rfl fd rfl ?_) | (refine zl hS ?_)))
    all_goals (refine Q2 rfl ?_; (first | (refine Qi hS rfl fd rfl ?_) | (refine zl hS ?_)); refine zE4 (c := Qn2 (s := s) hsb.1.2 hls ha hp1 hr hS fd) (p := by rintro v9 w9 ⟨c, g1, rfl, hS⟩; (repeat (first | refine Qq ?_ | refine Qs ?_ | refine fun _ => ?_)); refine QO ?_; refine .inr ⟨_, rfl, ?_⟩; exact ⟨_, (jto_a hx1 hne hk (Classical.not_not.1 (of_decide_eq_false hb))).trans g1, rfl, (St.back0 hS.sp hi)⟩) (h := ?_); rintro v1 w1 ⟨har, rfl, hS⟩; refine zn ?_; refine Q1y ?_; exact .inl ⟨_, rfl, (jto_a hx1 hne hk (Classical.not_not.1 (of_decide_eq_false hb))).trans har, rfl, (St.back0 hS.sp hi)⟩)
theorem jend_c {s : JS} {e : Tail} {cs : List Value} (hsf : j.f.Short) (hF : Q1I j.f.blocks.length e = 0) (hfb : ∀ b ∈ j.f.blocks, j.f.regs ≤ b.regs) (hfr : j.f.regs ≤ 100000) (hh : s.h.length ≤ 16) (hj : j.Fits cx m) (hx : endR.at cx cs e) (hls : tyR.ls cx css s.l) (hS : St cx w L) (hi : nth L i = some (j.res s.h vl css)) :
    Fins Try.prog Q1c [.pointer (some ⟨j.sp, 0, none⟩), .agg ⟨cs⟩] w (fun u w' => jend j.f s e = .ok () ∧ u = .tuple #[] ∧ St cx w' L) (JNo cx L (jend j.f s e)) := by
  have hS := hS.out hi
  obtain ⟨v1, v2, v3, v4, v5, rfl, h1, h2, h3, h4, h5⟩ := Q5U hx
  have hop := Qpk hF
  have hy : e.op ≠ 3 → 0 ≤ e.yes.block ∧ e.yes.block < j.f.blocks.length := fun h => Qog (by have := hop.2.2.1; rwa [decide_eq_true h] at this)
  have hz : e.op = 2 → 0 ≤ e.no.block ∧ e.no.block < j.f.blocks.length := fun h => Qog (by have := hop.2.2.2; rwa [decide_eq_true h] at this)
  have hT1 : toR.at cx [.int .i64 e.yes.block, v1, v2] e.yes := ⟨_, _, rfl, h1, h2⟩
  have hT2 : toR.at cx [.int .i64 e.no.block, v3, v4] e.no := ⟨_, _, rfl, h3, h4⟩
  have hjr := hj.r
  unfold Fins
  all_goals refine Q95 ?_
  all_goals (unfold judge_State_end_lc; refine Q0 ?_; refine Q1 ?_; refine zb hS ?_; intro p3 w1 hS; refine zn ?_; refine Q0 ?_; refine Q1 ?_; refine Q2 rfl ?_; (first | (refine Qi hS rfl fd rfl ?_) | (refine zl hS ?_)); refine zn ?_; refine Qb ?_; refine Q0 ?_; refine Q1 ?_)
  all_goals (first | (refine QD ?_) | (refine QI ?_) | (refine Qu rfl rfl (fun hc => ?_) (fun hc => ?_)))
  all_goals (refine zm ?_; refine zn ?_)
  all_goals
    first
    | (refine Q5 rfl ?_ -- Q1c c0
       all_goals (refine Q1 ?_; refine zm ?_; refine Q2 rfl ?_; refine zv hS ?_; refine zE2 (c := jto_c (s := s) hsf (hy (by omega)) hfb hh hj hT1 hls hS fd) (p := by rintro v9 w9 ⟨c, g1, rfl, hS⟩; (repeat (first | refine Qq ?_ | refine Qs ?_ | refine fun _ => ?_)); refine QO ?_; refine .inr ⟨_, rfl, ?_⟩; exact ⟨_, (jend_1 (by omega)).trans g1, rfl, (St.back0 hS.sp hi)⟩) (h := ?_); rintro v6 w1 ⟨g1, rfl, hS⟩; have hJ := (jend_1 (f := j.f) (s := s) (e := e) (by omega)).trans g1; refine zn ?_)
       all_goals (refine Q1y ?_; exact .inl ⟨_, rfl, hJ, rfl, (St.back0 hS.sp hi)⟩))
    | (refine Q6 rfl ?_ -- Q1c c0
       all_goals (refine Q0 ?_; refine Q1 ?_)
       all_goals (first | (refine QD ?_) | (refine QI ?_) | (refine Qu rfl rfl (fun hc => ?_) (fun hc => ?_)))
       all_goals (refine zm ?_; refine zn ?_)
       all_goals
         first
         | (refine Q5 rfl ?_ -- Q1c c1
            all_goals (refine Q0 ?_; refine Q1 ?_; refine zm ?_; refine Q2 rfl ?_; (first | (refine Qi hS rfl fd rfl ?_) | (refine zl hS ?_)); refine zE3 (c := Q4K (s := s) hls hS fd) (p := by rintro v9 w9 ⟨c, g1, rfl, hS⟩; (repeat (first | refine Qq ?_ | refine Qs ?_ | refine fun _ => ?_)); refine QO ?_; refine .inr ⟨_, rfl, ?_⟩; exact ⟨_, by rw [QoI (by omega), QM g1], rfl, (St.back0 hS.sp hi)⟩) (h := ?_); rintro v6 w1 ⟨t1, cs1, g1, rfl, hrd1, hS⟩; refine zn ?_; refine Q0 ?_; refine Q1 ?_; refine zm ?_; refine Q2 rfl ?_; refine zv hS ?_; refine zE2 (c := jto_c (s := s) hsf (hy (by omega)) hfb hh hj hT1 hls hS fd) (p := by rintro v9 w9 ⟨c, g2, rfl, hS⟩; (repeat (first | refine Qq ?_ | refine Qs ?_ | refine fun _ => ?_)); refine QO ?_; refine .inr ⟨_, rfl, ?_⟩; exact ⟨_, by rw [QoI (by omega), Qe g1, QM g2], rfl, (St.back0 hS.sp hi)⟩) (h := ?_); rintro v6 w1 ⟨g2, rfl, hS⟩; refine zn ?_; refine Q1 ?_; refine zm ?_; refine Q2 rfl ?_; refine zv hS ?_; refine zE2 (c := jto_c (s := s) hsf (hz (by omega)) hfb hh hj hT2 hls hS fd) (p := by rintro v9 w9 ⟨c, g3, rfl, hS⟩; (repeat (first | refine Qq ?_ | refine Qs ?_ | refine fun _ => ?_)); refine QO ?_; refine .inr ⟨_, rfl, ?_⟩; exact ⟨_, by rw [QoI (by omega), Qe g1, Qe g2]; exact g3, rfl, (St.back0 hS.sp hi)⟩) (h := ?_); rintro v6 w1 ⟨g3, rfl, hS⟩; have hJ : jend j.f s e = .ok () := (by rw [QoI (by omega), Qe g1, Qe g2]; exact g3))
            all_goals (refine zn ?_)
            all_goals (refine Q1y ?_; exact .inl ⟨_, rfl, hJ, rfl, (St.back0 hS.sp hi)⟩))
         | (refine Q6 rfl ?_ -- Q1c c1
            all_goals (refine Q0 ?_; refine Q1 ?_)
            all_goals (refine QD ?_)
            all_goals (refine zm ?_; refine zn ?_)
            all_goals
              first
              | (refine Q6 rfl ?_ -- Q1c c2
                 all_goals (refine zsk ?_)
                 all_goals (refine Q1y ?_; exact .inl ⟨_, rfl, hJ, rfl, (St.back0 hS.sp hi)⟩))
              | (refine Q5 rfl ?_ -- Q1c c2
                 all_goals (refine Q0 ?_; refine Q1 ?_; refine zm ?_; refine zn ?_; refine Q0 ?_; refine Q0 ?_; refine Q1 ?_; refine zm ?_; refine QA rfl ?_; refine Q2 rfl ?_; (first | refine Q2 rfl ?_ | refine Q1A rfl ?_); refine Qi hS rfl fd rfl ?_; refine zm ?_; refine zn ?_; refine Qb ?_; have hS := St.nil (T := 3) (es := 1) hS)
                 refine zo [0, 3, 34] (fun A ρ' w' => ∃ (q : Nat) (vo : Value) (co : List (List Value)), Has ρ' A ∧ Has ρ' [(35, .int .i64 q), (4, vo)] ∧ (q ≤ j.f.regs.toNat) ∧ (intR.ls cx co (upTo q)) ∧ ((upTo q).length = q) ∧ (e.op = 3) ∧ St cx w' (sl 3 1 vo co :: blk p3 35 [.int .i64 e.op, .int .i64 e.a, .int .i64 e.yes.block, v1, v2, .int .i64 e.no.block, v3, v4, v5] :: j.res s.h vl css :: L.eraseIdx i)) (fun ρ' _ => (j.f.regs - iv (ρ' 35)).toNat) ?_ ?_
                 · exact ⟨0, _, [], zh, zh, (by omega), by unfold upTo; exact Rep.LR.nil _ _ _, by unfold upTo; rfl, by omega, hS.sp⟩
                 rintro ρ w1 ⟨q, vo, co, hA, hρ, hq, hlo, hlq, ho3, hS⟩; obtain ⟨ρ, rfl⟩ := env2 hA hρ
                 unfold Q3r
                 all_goals (refine Q0 ?_; refine Q1 ?_; refine QC rfl rfl ?_; refine zn ?_; refine Q0 ?_)
                 refine Qy rfl (fun hc => ?_) (fun hc => ?_)
                 · skip
                   all_goals (refine zsk ?_; refine Q0 ?_; refine Qb ?_; refine Q0 ?_; refine Q1 ?_; refine zm ?_; refine zm ?_; refine zn ?_; refine Q1 ?_; refine zm ?_; refine zm ?_; refine zB1 hS [_] ?_; intro b1 w1 hS; refine za Qcl QmG hS ?_; intro vp1 w1 css1 hls1 hv1 hS; have hS := hS.ns; refine zm ?_; refine zn ?_; refine Q1 ?_; refine zad ?_; refine zm ?_; refine zn ?_; exact ⟨⟨q + 1, _, _, zh, zh, (by omega), by rw [upTo_s]; exact hls1, by rw [upTo_s, List.length_append, hlq]; rfl, ho3, hS.sp⟩, Qx (by omega)⟩)
                 · skip
                   all_goals (refine zex ?_; have hq' : q = j.f.regs.toNat := (by omega); rw [hq'] at hlo; obtain ⟨c1, hle2, hS, hk1⟩ := St.freezeL (r := intR) hS hlo rfl (by rw [← hq']; omega); have hls' := hls.up hle2; have h5' := h5.up hle2; have hjr' := hjr.up hle2; refine Q0 ?_; refine zD [(0, none), (1, none), (2, none), (3, none), (4, none), (5, none), (6, none), (7, none), (8, none), (9, some none)] ?_; have hS := hS.drew; refine zm ?_; refine Q2 rfl ?_; (first | (refine Qi hS rfl fd rfl ?_) | (refine zl hS ?_)); refine zm ?_; refine QA rfl ?_; refine Q2 rfl ?_; (first | refine Q2 rfl ?_ | refine Q1A rfl ?_); refine Qi hS rfl fd rfl ?_; refine zm ?_; refine zE4 (c := Qn2 (s := s) hsf.2.1.2 hls' h5' hjr' hk1 hS fd) (p := by rintro v9 w9 ⟨c, g1, rfl, hS⟩; (repeat (first | refine Qq ?_ | refine Qs ?_ | refine fun _ => ?_)); refine QO ?_; refine .inr ⟨_, rfl, ?_⟩; exact ⟨_, by rw [Qqv ho3, QM g1], rfl, St.weak (St.back0 hS.sp hi) hle2⟩) (h := ?_); rintro v6 w1 ⟨har, rfl, hS⟩; refine zn ?_; refine zC [(0, none), (1, none), (2, none), (3, none), (6, none), (7, none), (8, none), (9, none), (10, none), (4, some (some [10])), (5, none), (11, none), (12, some none)] ?_; have hS := hS.drew)
                   all_goals (refine s_cq ?_; refine zm ?_; refine zt ?_; refine s_cq ?_; refine QA rfl ?_; refine zt ?_; refine s_cq ?_; refine Q2 rfl ?_; refine zt ?_; refine s_cq ?_; refine Qi hS rfl fd rfl ?_; refine zt ?_; refine s_cq ?_; refine zm ?_; refine zt ?_; refine s_cq ?_; refine QA rfl ?_; refine zt ?_; refine s_cq ?_; refine Q2 rfl ?_; refine zt ?_; refine s_cq ?_; (first | refine Q2 rfl ?_ | refine Q1A rfl ?_); refine zt ?_; refine s_cq ?_; refine Qi hS rfl fd rfl ?_; refine zt ?_; refine Q10 ?_; refine zR1 (c := jlist_c (h := s.h) hh hS fd) (h := ?_); rintro v1 w1 ⟨c2, hle3, hk2, hS⟩; have hS := St.weak hS hle3; have hS := St.weak hS hle2; have hl2 := hk2.len; refine zt ?_; refine ⟨List.forall_mem_cons.2 ⟨(by (exact Q1f hS rfl fd rfl)), fun _ h => (List.not_mem_nil h).elim⟩, ?_⟩; refine s_cq ?_; refine zL ?_; refine zt ?_; refine s_cq ?_; refine Qez rfl rfl ?_; refine zt ?_; refine s_cf ?_)
                   all_goals (refine zE2 (c := Q3w hS) (p := by rintro v9 w9 ⟨rfl, hb, hS⟩; (repeat (first | refine Qq ?_ | refine Qs ?_ | refine fun _ => ?_)); refine QO ?_; refine .inr ⟨_, rfl, ?_⟩; exact ⟨_, by rw [Qqv ho3, Qe har, if_pos (by have := of_decide_eq_true hb; omega)], rfl, (St.back0 hS.sp hi)⟩) (h := ?_); rintro v1 w1 ⟨rfl, hb, hS⟩; have hJ : jend j.f s e = .ok () := (by rw [Qqv ho3, Qe har, if_neg (by have := of_decide_eq_false hb; omega)]); refine zt ?_; refine zcn ?_)
                   all_goals (refine Q1y ?_; exact .inl ⟨_, rfl, hJ, rfl, (St.back0 hS.sp hi)⟩))))
end Go.Proofs.Ytanlkfeogoganaa
namespace Go.Proofs.Ytanlkfeogoganaa
open Go.Lir
set_option maxHeartbeats 1000000
attribute [local irreducible] LC.wp Q3 QZ Q1g retQ Q2p LO.wp QH Calls
set_option linter.unusedSimpArgs false
set_option linter.unusedVariables false
attribute [local irreducible] hasB Q8a Q2q Q32 Q60 upTo
variable {cx : Cx} {w : World} {L : List Res} {j : JP} {h : List Bool} {vl : Value} {css : List (List Value)} {i : Nat} {m : Module}
theorem QqP {p : Nat} {n : Int} (hS : St cx w (blk p 3 [.int .i64 n] :: L)) : Defs Try.prog Q40 [.pointer (some ⟨p, 0, none⟩)] .returning w fun u' w' => u' = .returning ∧ St cx w' (blk p 3 [.int .i64 n] :: L) := by
  unfold Defs
  all_goals refine Q3I ?_
  all_goals (unfold judge_caught_1_ld; refine r_seq ?_; refine r_sp ?_; refine zn ?_; refine zm ?_; refine zn ?_; refine r_pl ?_; refine Q0 ?_; refine Q1 ?_; refine zm ?_; refine s_inil_f (ms := #[]) (by kernel_rfl) rfl ?_; refine zn ?_)
  all_goals refine Q6 rfl ?_
  all_goals (refine zsk ?_; refine q_endR ?_; refine Q1y ?_; exact ⟨⟨_, rfl⟩, rfl, hS.sp⟩)
theorem QqO {p : Nat} {n e : Int} (hS : St cx w (blk p 3 [.int .i64 n] :: L)) : Defs Try.prog Q40 [.pointer (some ⟨p, 0, none⟩)] (.panicking [{ v := Q9w e, recovered := false }]) w fun u' w' => u' = .panicking [{ v := Q9w e, recovered := true }] ∧ St cx w' (blk p 3 [.int .i64 e] :: L) := by
  unfold Defs
  all_goals refine Q3I ?_
  all_goals (unfold judge_caught_1_ld; refine r_seq ?_; refine r_sp ?_; refine zn ?_; refine zm ?_; refine zn ?_; refine r_pl ?_; refine Q0 ?_; refine Q1 ?_; refine zm ?_; refine s_inil_t (ms := #[]) (by kernel_rfl) rfl ?_; refine zn ?_)
  all_goals refine Q5 rfl ?_
  all_goals (refine Q0 ?_; refine Q1 ?_; refine zm ?_; refine s_assert (D := .int .i64) (by kernel_rfl) (by intro m; exact TypeDesc.noConfusion) rfl ?_; refine zm ?_; refine QcG rfl rfl ?_; refine QcG rfl rfl ?_; refine zm ?_; refine zm ?_; refine zn ?_; refine Q0 ?_; refine Q0 ?_; refine Q1 ?_; refine zm ?_; refine Q1W rfl ?_; refine zn ?_)
  all_goals refine Q6 rfl ?_
  all_goals (refine zsk ?_; refine Q1 ?_; refine zm ?_; refine zst hS ?_; intro w1 hS; have hS := hS.ns; refine zn ?_; refine q_endR ?_; refine Q1y ?_; exact ⟨⟨_, rfl⟩, rfl, hS.sp⟩)
theorem QoV {f : FuncId} {cap : List Value} {X : Cx → List Res → Prop} {Y : Int → Cx → List Res → Prop} (hf : Q4j Try.prog f = true)
    (hc : ∀ (p : Nat) (w : World), St cx w (blk p 3 [.int .i64 0] :: L) → Fins Try.prog f cap w (fun _ w' => ∃ c' L', cx.Le c' ∧ St c' w' (blk p 3 [.int .i64 0] :: L') ∧ X c' L') (fun u w' => ∃ e c' L', u = Q9w e ∧ cx.Le c' ∧ St c' w' (blk p 3 [.int .i64 0] :: L') ∧ Y e c' L')) (hS : St cx w L) :
    Rets Try.prog Qch [.func (.func f) #[] ⟨cap⟩] w fun u w' => ∃ e c' L', u = .int .i64 e ∧ cx.Le c' ∧ St c' w' L' ∧ (e = 0 ∧ X c' L' ∨ Y e c' L') := by
  all_goals refine QeO ?_
  all_goals (unfold judge_caught_ld; refine d_seq ?_; refine d_pl ?_; refine Q1 ?_; refine Q8 hS ?_; intro p2 w1 hS; refine zn ?_; refine d_seq ?_; refine d_sp ?_; refine QpN ?_; refine zn ?_; refine ⟨_, _, rfl, ?_⟩; refine zn ?_; refine d_pl ?_; refine Q0 ?_; refine Q1 ?_; refine zm ?_)
  all_goals (refine s_endsv rfl hf rfl (hc _ _ hS) (by rintro v9 w9 ⟨e, c1, L1, rfl, hle, hS, hY⟩; (repeat (first | refine Qq ?_ | refine Qs ?_)); refine q_panD ?_; refine Ql3 (by intro h; cases h) (by kernel_rfl) (QqO hS) ?_; rintro u' w' ⟨rfl, hS⟩; refine Qiu ?_; refine Q18 vw (Qiy (by kernel_rfl) (hS.blkAt nth0) rfl) ?_; exact ⟨_, rfl, e, c1, L1, rfl, hle, hS.drop, .inr hY⟩) ?_; rintro v1 w1 ⟨c1, L1, hle, hS, hX⟩)
  all_goals (refine zn ?_; refine Q0 ?_; refine Q1 ?_; refine zst hS ?_; intro w1 hS; have hS := hS.ns; refine zn ?_; refine zr ?_)
  all_goals (refine q_retD ?_; refine Ql3 (by intro h; cases h) (by kernel_rfl) (QqP hS) ?_; rintro u1 w1 ⟨rfl, hS⟩; refine Qiu ?_)
  all_goals (refine Q18 vw (Qiy (by kernel_rfl) (hS.blkAt fd) rfl) ?_; exact ⟨_, rfl, 0, c1, L1, rfl, hle, hS.drop, .inl ⟨rfl, hX⟩⟩)
theorem jins1_c {s : JS} {x : Ins} {cs : List Value} {p pa pb : Nat} (hm : m.Short) (hF : QP m.funcs.length x = 0) (hn : s.l.length ≤ 80) (hh : s.h.length ≤ 16) (hj : j.Fits cx m) (hx : insR.at cx cs x) (hls : tyR.ls cx css s.l)
    (hS : St cx w (blk p 3 [.int .i64 0] :: blk pb 27 cs :: blk pa 59 [.pointer (some ⟨j.sp, 0, none⟩)] :: j.res s.h vl css :: L)) :
    Fins Try.prog Q4d [.pointer (some ⟨pa, 0, none⟩), .pointer (some ⟨pb, 0, none⟩)] w
      (fun _ w' => ∃ c' L', cx.Le c' ∧ St c' w' (blk p 3 [.int .i64 0] :: L') ∧ ∃ s' vl' css', jins m j.f s x = .ok s' ∧ tyR.ls c' css' s'.l ∧ L' = blk pb 27 cs :: blk pa 59 [.pointer (some ⟨j.sp, 0, none⟩)] :: j.res s'.h vl' css' :: L)
      (fun u w' => ∃ e c' L', u = Q9w e ∧ cx.Le c' ∧ St c' w' (blk p 3 [.int .i64 0] :: L') ∧ jins m j.f s x = .error e ∧ c' = cx ∧ L' = blk pb 27 cs :: blk pa 59 [.pointer (some ⟨j.sp, 0, none⟩)] :: j.res s.h vl css :: L) := by
  have hx' := hx
  obtain ⟨vr, va, rfl, hr, ha⟩ := Q1Q hx
  unfold Fins
  all_goals refine Q6x ?_
  all_goals (unfold judge_State_Ins_1_lc; refine Q1 ?_; refine zl hS ?_; refine zv hS ?_; refine zE2 (c := jins_c hm hF hn hh hj hx' hls hS fd) (p := by rintro v9 w9 ⟨c, g1, rfl, hS⟩; (repeat (first | refine Qq ?_ | refine Qs ?_ | refine fun _ => ?_)); refine QO ?_; refine .inr ⟨_, rfl, ?_⟩; exact ⟨c, cx, _, rfl, St.refl hS, hS, g1, rfl, rfl⟩) (h := ?_); rintro v1 w1 ⟨rfl, c1, s1, vl4, cs4, hle, hr1, hls4, hS⟩; have hS := hS.ns; refine zn ?_; refine Q1y ?_; exact .inl ⟨_, rfl, c1, _, hle, hS, s1, vl4, cs4, hr1, hls4, rfl⟩)
theorem jIns_c {s : JS} {x : Ins} {cs : List Value} (hm : m.Short) (hn : s.l.length ≤ 80) (hh : s.h.length ≤ 16) (hj : j.Fits cx m) (hx : insR.at cx cs x) (hls : tyR.ls cx css s.l) (hS : St cx w L) (hi : nth L i = some (j.res s.h vl css)) :
    Rets Try.prog Q2Q [.pointer (some ⟨j.sp, 0, none⟩), .agg ⟨cs⟩] w fun u w' => u = .int .i64 (jIns m j.f s x).1 ∧ ∃ c' vl' css', cx.Le c' ∧ tyR.ls c' css' (jIns m j.f s x).2.l ∧ St c' w' (L.set i (j.res (jIns m j.f s x).2.h vl' css')) := by
  have hS := hS.out hi
  have hx' := hx
  obtain ⟨vr, va, rfl, hr, ha⟩ := Q1Q hx
  unfold jIns
  all_goals refine Q9c ?_
  all_goals (unfold judge_State_Ins_lc; refine Q0 ?_; refine Q1 ?_; refine zb hS ?_; intro p2 w1 hS; refine zb hS ?_; intro p3 w1 hS; refine zm ?_; refine zn ?_; refine Q0 ?_; refine Q0 ?_; refine zD [(0, none), (1, none), (2, none), (3, none), (4, none), (5, some none), (6, some none)] ?_; have hS := hS.drew; (first | (refine Qi hS rfl fd rfl ?_) | (refine zl hS ?_)); refine QA rfl ?_; refine Q2 rfl ?_; refine Qdz hS rfl fd rfl rfl ?_; (first | (refine Qdz hS rfl fd rfl rfl ?_) | (refine zv hS ?_)); refine zR2 (c := pins_c (m := m) ⟨_, rfl, hj.m⟩ hx' hS) (h := ?_); rintro v1 w1 ⟨rfl, hS⟩; refine zm ?_; refine zn ?_; refine Q0 ?_; refine Q1 ?_; refine zm ?_)
  all_goals (first | (refine Q1h ?_) | (refine Q1i ?_) | (refine Qw rfl rfl (fun hc => ?_) (fun hc => ?_)))
  all_goals (refine zn ?_)
  all_goals
    first
    | (refine Q5 rfl ?_ -- Q2Q c0
       all_goals (refine Q0 ?_; refine Q1 ?_; refine zm ?_; refine zm ?_; refine zn ?_; refine zr ?_; refine zf ?_)
       all_goals (exact ⟨_, rfl, by rw [if_pos (by omega)], cx, vl, css, St.refl hS, by rw [if_pos (by omega)]; exact hls, by rw [if_pos (by omega)]; exact (St.back hS.sp hi)⟩))
    | (refine Q6 rfl ?_ -- Q2Q c0
       all_goals refine zsk ?_)
  all_goals (refine Q0 ?_; refine Q1 ?_; refine QpN ?_)
  all_goals (refine zR1 (c := QoV (by kernel_rfl) (fun p w hS => jins1_c (s := s) hm (by omega) hn hh hj hx' hls hS) hS.sp) (h := ?_); rintro v1 w1 ⟨e, c1, L1, rfl, hle, hS, ⟨rfl, s1, vl4, cs4, hr1, hls4, rfl⟩ | ⟨hr1, rfl, rfl⟩⟩)
  all_goals (refine zm ?_; refine zn ?_; refine zr ?_; refine zf ?_; (first | (exact ⟨_, rfl, by rw [if_pos (by omega)], cx, vl, css, St.refl hS, by rw [if_pos (by omega)]; exact hls, by rw [if_pos (by omega)]; exact (St.back hS.sp hi)⟩) | (exact ⟨_, rfl, by rw [if_neg (by omega), hr1], c1, vl4, cs4, hle, by rw [if_neg (by omega), hr1]; exact hls4, by rw [if_neg (by omega), hr1]; exact (St.back hS.sp hi)⟩) | (exact ⟨_, rfl, by rw [if_neg (by omega), hr1], _, vl, css, St.refl hS, by rw [if_neg (by omega), hr1]; exact hls, by rw [if_neg (by omega), hr1]; exact (St.back hS.sp hi)⟩)))
theorem jend1_c {s : JS} {x : Tail} {cs : List Value} {p pa pb : Nat} (hsf : j.f.Short) (hF : Q1I j.f.blocks.length x = 0) (hfb : ∀ b ∈ j.f.blocks, j.f.regs ≤ b.regs) (hfr : j.f.regs ≤ 100000) (hh : s.h.length ≤ 16) (hj : j.Fits cx m) (hx : endR.at cx cs x) (hls : tyR.ls cx css s.l)
    (hS : St cx w (blk p 3 [.int .i64 0] :: blk pb 35 cs :: blk pa 59 [.pointer (some ⟨j.sp, 0, none⟩)] :: j.res s.h vl css :: L)) :
    Fins Try.prog Q4e [.pointer (some ⟨pa, 0, none⟩), .pointer (some ⟨pb, 0, none⟩)] w
      (fun _ w' => ∃ c' L', cx.Le c' ∧ St c' w' (blk p 3 [.int .i64 0] :: L') ∧ jend j.f s x = .ok () ∧ c' = cx ∧ L' = blk pb 35 cs :: blk pa 59 [.pointer (some ⟨j.sp, 0, none⟩)] :: j.res s.h vl css :: L)
      (fun u w' => ∃ e c' L', u = Q9w e ∧ cx.Le c' ∧ St c' w' (blk p 3 [.int .i64 0] :: L') ∧ jend j.f s x = .error e ∧ c' = cx ∧ L' = blk pb 35 cs :: blk pa 59 [.pointer (some ⟨j.sp, 0, none⟩)] :: j.res s.h vl css :: L) := by
  have hx' := hx
  obtain ⟨u1, u2, u3, u4, u5, rfl, h1, h2, h3, h4, h5⟩ := Q5U hx
  unfold Fins
  all_goals refine Q6z ?_
  all_goals (unfold judge_State_End_1_lc; refine Q1 ?_; refine zl hS ?_; refine zv hS ?_; refine zE2 (c := jend_c hsf hF hfb hfr hh hj hx' hls hS fd) (p := by rintro v9 w9 ⟨c, g1, rfl, hS⟩; (repeat (first | refine Qq ?_ | refine Qs ?_ | refine fun _ => ?_)); refine QO ?_; refine .inr ⟨_, rfl, ?_⟩; exact ⟨c, cx, _, rfl, St.refl hS, hS, g1, rfl, rfl⟩) (h := ?_); rintro v1 w1 ⟨hr1, rfl, hS⟩; refine zn ?_; refine Q1y ?_; exact .inl ⟨_, rfl, cx, _, St.refl hS, hS, hr1, rfl, rfl⟩)
theorem jEnd_c {s : JS} {x : Tail} {cs : List Value} (hsf : j.f.Short) (hfb : ∀ b ∈ j.f.blocks, j.f.regs ≤ b.regs) (hfr : j.f.regs ≤ 100000) (hh : s.h.length ≤ 16) (hj : j.Fits cx m) (hx : endR.at cx cs x) (hls : tyR.ls cx css s.l) (hS : St cx w L) (hi : nth L i = some (j.res s.h vl css)) :
    Rets Try.prog Q2R [.pointer (some ⟨j.sp, 0, none⟩), .agg ⟨cs⟩] w fun u w' => u = .int .i64 (jEnd j.f s x) ∧ St cx w' L := by
  have hS := hS.out hi
  have hx' := hx
  obtain ⟨u1, u2, u3, u4, u5, rfl, h1, h2, h3, h4, h5⟩ := Q5U hx
  unfold jEnd
  all_goals refine Q9j ?_
  all_goals (unfold judge_State_End_lc; refine Q0 ?_; refine Q1 ?_; refine zb hS ?_; intro p2 w1 hS; refine zb hS ?_; intro p3 w1 hS; refine zm ?_; refine zn ?_; refine Q0 ?_; refine Q0 ?_; refine zD [(0, none), (1, none), (2, none), (3, none), (4, none), (5, some none), (6, some none)] ?_; have hS := hS.drew; (first | (refine Qi hS rfl fd rfl ?_) | (refine zl hS ?_)); refine QA rfl ?_; refine Q2 rfl ?_; refine Qdz hS rfl fd rfl rfl ?_; (first | (refine Qdz hS rfl fd rfl rfl ?_) | (refine zv hS ?_)); refine zR2 (c := pend_c (x := j.f) ⟨_, _, _, rfl, hj.p, hj.r, hj.b⟩ hx' hS) (h := ?_); rintro v1 w1 ⟨rfl, hS⟩; refine zm ?_; refine zn ?_; refine Q0 ?_; refine Q1 ?_; refine zm ?_)
  all_goals (first | (refine Q1h ?_) | (refine Q1i ?_) | (refine Qw rfl rfl (fun hc => ?_) (fun hc => ?_)))
  all_goals (refine zn ?_)
  all_goals
    first
    | (refine Q5 rfl ?_ -- Q2R c0
       all_goals (refine Q0 ?_; refine Q1 ?_; refine zm ?_; refine zm ?_; refine zn ?_; refine zr ?_; refine zf ?_)
       all_goals (exact ⟨_, rfl, by rw [if_pos (by omega)], (St.back0 hS.sp hi)⟩))
    | (refine Q6 rfl ?_ -- Q2R c0
       all_goals refine zsk ?_)
  all_goals (refine Q0 ?_; refine Q1 ?_; refine QpN ?_)
  all_goals (refine zR1 (c := QoV (by kernel_rfl) (fun p w hS => jend1_c (s := s) hsf (by omega) hfb hfr hh hj hx' hls hS) hS.sp) (h := ?_); rintro v1 w1 ⟨e, c1, L1, rfl, hle, hS, ⟨rfl, hr1, rfl, rfl⟩ | ⟨hr1, rfl, rfl⟩⟩)
  all_goals (refine zm ?_; refine zn ?_; refine zr ?_; refine zf ?_; (first | (exact ⟨_, rfl, by rw [if_pos (by omega)], (St.back0 hS.sp hi)⟩) | (exact ⟨_, rfl, by rw [if_neg (by omega), hr1], (St.back0 hS.sp hi)⟩)))
end Go.Proofs.Ytanlkfeogoganaa
namespace Go.Proofs.Ytanlkfeogoganaa
open Go.Lir
set_option maxHeartbeats 1000000
attribute [local irreducible] LC.wp Q3 QZ Q1g retQ Q2p LO.wp QH Calls
set_option linter.unusedSimpArgs false
set_option linter.unusedVariables false
theorem Qq9 {x : Module} (hsm : x.Short) {cx : Cx} {w : World} {L : List Res} {cs : List Value} (hx : modR.at cx cs x) (hS : St cx w L) : Rets Try.prog QoS [.agg ⟨cs⟩] w fun u w' => ∃ c' ds, u = .agg ⟨ds⟩ ∧ cx.Le c' ∧ modR.at c' ds x ∧ St c' w' L := by
  obtain ⟨vf, rfl, hf⟩ := Q29 hx
  obtain ⟨l⟩ := x
  have hf : funcR.sl cx vf l := hf
  have hsl : l.length ≤ 100000 := hsm.1
  have hsm : ∀ f ∈ l, f.Short := hsm.2
  have hle := St.refl hS
  all_goals refine Qnw ?_
  all_goals (unfold code_Own_lc; refine Q0 ?_; refine Q1 ?_; refine zb hS ?_; intro p1 w1 hS; refine Q8 hS ?_; intro p2 w1 hS; refine zn ?_; refine Q0 ?_; refine Q1 ?_; refine Q8 hS ?_; intro p3 w1 hS; refine zn ?_; refine Q0 ?_; refine Q0 ?_; refine Q1 ?_; refine Q2 rfl ?_; refine zl hS ?_; refine zL ?_; refine zm ?_; refine zn ?_; refine Qb ?_)
  refine zo [2, 3, 13, 14] (fun A ρ' w' => ∃ (k0 : Cx) (j : Nat) (u : Value) (css : List (List Value)), Has ρ' A ∧ Has ρ' [(15, .int .i64 j)] ∧ (cx.Le k0) ∧ (j ≤ l.length) ∧ (funcR.ls k0 css (l.take j)) ∧ (oneC u = true) ∧ St k0 w' (sl 31 4 u css :: blk p3 24 [u] :: blk p2 24 [.slice none 0 0] :: blk p1 24 [vf] :: L)) (fun ρ' _ => (l.length - iv (ρ' 15)).toNat) ?_ ?_
  · exact ⟨cx, 0, .slice none 0 0, [], zh, zh, St.refl hS, (by omega), Rep.LR.nil _ _ _, rfl, by have hS := hS.nil (T := 31) (es := 4); exact hS⟩
  rintro ρ w1 ⟨k0, j, u, css, hA, hρ, hle2, hj, hls, hu, hS⟩; obtain ⟨ρ, rfl⟩ := env2 hA hρ; have hL0 := hle2; (try have hle := hle.trans hle2); (try have hf := hf.up hle2)
  unfold Qf7
  all_goals (refine Q0 ?_; refine Q1 ?_; refine QC rfl rfl ?_; refine zn ?_; refine Q0 ?_)
  refine Qy rfl (fun hc => ?_) (fun hc => ?_)
  · skip
    all_goals (refine zsk ?_; refine Q0 ?_; refine Qb ?_; refine Q0 ?_; refine Q1 ?_; refine zi ?_; intro b1 o1 cs1 x1 hat1 hx1 he1; obtain ⟨vp1, vr1, vb1, rfl, hp1, hr1, hb1⟩ := Q17 he1; (first | (refine zv hS ?_) | (refine zvk hS ?_)); refine Q8 hS ?_; intro p5 w1 hS; refine zsn hS ?_; intro w1 hS; have hS := hS.ns; refine zn ?_; have hsh := hsm x1 (List.mem_of_getElem? hx1); have hlb := hsh.2.2.1)
    have hJ6 := St.refl hS
    refine zML hS [2, 3, 5, 13, 14, 15] (fun A LL ρ' w' => ∃ (k6 : Cx) (a1 a2 : Option Addr) (n1 n2 p6 : Nat), Has ρ' A ∧ Has ρ' [(6, .pointer (some ⟨p6, 0, none⟩))] ∧ (k0.Le k6) ∧ (tyR.sl k6 (.slice a1 x1.params.length n1) x1.params) ∧ (tyR.sl k6 (.slice a2 x1.results.length n2) x1.results) ∧ St k6 w' (blk p6 31 [.int .i64 x1.regs, .slice a1 x1.params.length n1, .slice a2 x1.results.length n2, .slice none 0 0] :: LL)) ?_ ?_
    · skip
      refine Q4D 4 9 (by kernel_rfl) ?_ ?_
      · skip
        refine Q4D 7 9 (by kernel_rfl) ?_ ?_
        · skip
          all_goals (refine zC [(0, none), (1, none), (2, none), (3, none), (5, none), (6, none), (4, some (some [1, 6])), (7, some (some [1])), (8, none), (9, some (some [1])), (10, some none)] ?_; have hS := hS.drew; refine s_cq ?_; refine Q2 rfl ?_; refine zt ?_; refine s_cq ?_; refine zl hS ?_; refine zt ?_; refine s_cq ?_; refine Q2 rfl ?_; refine zt ?_; refine s_cq ?_; refine zl hS ?_; refine zt ?_; refine s_cq ?_; refine Q2 rfl ?_; refine zt ?_; refine s_cq ?_; refine zl hS ?_; refine zt ?_; refine Q10 ?_)
          all_goals (refine zR1 (c := Q5j hsh.1.1 hsh.1.2 hp1 hS) (h := ?_); rintro v1 w1 ⟨c1, hle2, hk1, hS⟩; obtain ⟨a1, n1, rfl⟩ := Rep.SR.shape hk1; (try have hle := hle.trans hle2); (try have hL0 := hL0.trans hle2); (try have hJ6 := hJ6.trans hle2); (try have hf := hf.up hle2); (try have hp1 := hp1.up hle2); (try have hr1 := hr1.up hle2); (try have hb1 := hb1.up hle2); (try have he1 := he1.up hle2); (try have hls := hls.up hle2))
          all_goals (refine zt ?_; refine zy ?_; refine Q10 ?_)
          all_goals (refine zR1 (c := Q5j hsh.2.1.1 hsh.2.1.2 hr1 hS) (h := ?_); rintro v1 w1 ⟨c2, hle2, hk2, hS⟩; obtain ⟨a2, n2, rfl⟩ := Rep.SR.shape hk2; (try have hle := hle.trans hle2); (try have hL0 := hL0.trans hle2); (try have hJ6 := hJ6.trans hle2); (try have hf := hf.up hle2); (try have hk1 := hk1.up hle2); (try have hp1 := hp1.up hle2); (try have hr1 := hr1.up hle2); (try have hb1 := hb1.up hle2); (try have he1 := he1.up hle2); (try have hls := hls.up hle2))
          all_goals (refine zt ?_; refine zy ?_; refine s_cq ?_; refine zb3 [_, _, _, _] ?_; refine zt ?_; refine Q10 ?_; refine Q8 hS ?_; intro p6 w1 hS; refine zt ?_; refine zy ?_; refine s_cf ?_; refine zsn hS ?_; intro w1 hS; have hS := hS.ns; refine zt ?_; refine zcn ?_; exact ⟨_, a1, a2, n1, n2, p6, zh, zh, hJ6, by assumption, by assumption, hS.sp⟩)
        · skip
          all_goals (refine zC [(0, none), (1, none), (2, none), (3, none), (5, none), (6, none), (4, some (some [1, 6])), (9, some (some [1, 6])), (7, some (some [1])), (8, none), (10, some none)] ?_; have hS := hS.drew; refine s_cq ?_; refine Q2 rfl ?_; refine zt ?_; refine s_cq ?_; refine zl hS ?_; refine zt ?_; refine s_cq ?_; refine Q2 rfl ?_; refine zt ?_; refine s_cq ?_; refine zl hS ?_; refine zt ?_; refine s_cq ?_; refine Q2 rfl ?_; refine zt ?_; refine s_cq ?_; refine zl hS ?_; refine zt ?_; refine Q10 ?_)
          all_goals (refine zR1 (c := Q5j hsh.1.1 hsh.1.2 hp1 hS) (h := ?_); rintro v1 w1 ⟨c1, hle2, hk1, hS⟩; obtain ⟨a1, n1, rfl⟩ := Rep.SR.shape hk1; (try have hle := hle.trans hle2); (try have hL0 := hL0.trans hle2); (try have hJ6 := hJ6.trans hle2); (try have hf := hf.up hle2); (try have hp1 := hp1.up hle2); (try have hr1 := hr1.up hle2); (try have hb1 := hb1.up hle2); (try have he1 := he1.up hle2); (try have hls := hls.up hle2))
          all_goals (refine zt ?_; refine zy ?_; refine Q10 ?_; refine Q8 hS ?_; intro p6 w1 hS; refine zt ?_; refine zy ?_; refine Q10 ?_)
          all_goals (refine zR1 (c := Q5j hsh.2.1.1 hsh.2.1.2 hr1 hS) (h := ?_); rintro v1 w1 ⟨c2, hle2, hk2, hS⟩; obtain ⟨a2, n2, rfl⟩ := Rep.SR.shape hk2; (try have hle := hle.trans hle2); (try have hL0 := hL0.trans hle2); (try have hJ6 := hJ6.trans hle2); (try have hf := hf.up hle2); (try have hk1 := hk1.up hle2); (try have hp1 := hp1.up hle2); (try have hr1 := hr1.up hle2); (try have hb1 := hb1.up hle2); (try have he1 := he1.up hle2); (try have hls := hls.up hle2))
          all_goals (refine zt ?_; refine zy ?_; refine s_cq ?_; refine zb3 [_, _, _, _] ?_; refine zt ?_; refine s_cf ?_; refine zsn hS ?_; intro w1 hS; have hS := hS.ns; refine zt ?_; refine zcn ?_; exact ⟨_, a1, a2, n1, n2, p6, zh, zh, hJ6, by assumption, by assumption, hS.sp⟩)
      · skip
        all_goals (refine zC [(0, none), (1, none), (2, none), (3, none), (5, none), (6, none), (9, some (some [1, 3, 6])), (4, some (some [1, 6])), (7, some (some [1])), (8, none), (10, some none)] ?_; have hS := hS.drew; refine s_cq ?_; refine Q2 rfl ?_; refine zt ?_; refine s_cq ?_; refine zl hS ?_; refine zt ?_; refine s_cq ?_; refine Q2 rfl ?_; refine zt ?_; refine s_cq ?_; refine zl hS ?_; refine zt ?_; refine s_cq ?_; refine Q2 rfl ?_; refine zt ?_; refine s_cq ?_; refine zl hS ?_; refine zt ?_; refine Q10 ?_; refine Q8 hS ?_; intro p6 w1 hS; refine zt ?_; refine zy ?_; refine Q10 ?_)
        all_goals (refine zR1 (c := Q5j hsh.1.1 hsh.1.2 hp1 hS) (h := ?_); rintro v1 w1 ⟨c1, hle2, hk1, hS⟩; obtain ⟨a1, n1, rfl⟩ := Rep.SR.shape hk1; (try have hle := hle.trans hle2); (try have hL0 := hL0.trans hle2); (try have hJ6 := hJ6.trans hle2); (try have hf := hf.up hle2); (try have hp1 := hp1.up hle2); (try have hr1 := hr1.up hle2); (try have hb1 := hb1.up hle2); (try have he1 := he1.up hle2); (try have hls := hls.up hle2))
        all_goals (refine zt ?_; refine zy ?_; refine Q10 ?_)
        all_goals (refine zR1 (c := Q5j hsh.2.1.1 hsh.2.1.2 hr1 hS) (h := ?_); rintro v1 w1 ⟨c2, hle2, hk2, hS⟩; obtain ⟨a2, n2, rfl⟩ := Rep.SR.shape hk2; (try have hle := hle.trans hle2); (try have hL0 := hL0.trans hle2); (try have hJ6 := hJ6.trans hle2); (try have hf := hf.up hle2); (try have hk1 := hk1.up hle2); (try have hp1 := hp1.up hle2); (try have hr1 := hr1.up hle2); (try have hb1 := hb1.up hle2); (try have he1 := he1.up hle2); (try have hls := hls.up hle2))
        all_goals (refine zt ?_; refine zy ?_; refine s_cq ?_; refine zb3 [_, _, _, _] ?_; refine zt ?_; refine s_cf ?_; refine zsn hS ?_; intro w1 hS; have hS := hS.ns; refine zt ?_; refine zcn ?_; exact ⟨_, a1, a2, n1, n2, p6, zh, zh, hJ6, by assumption, by assumption, hS.sp⟩)
    rintro ρ w1 ⟨k6, a1, a2, n1, n2, p6, hA, hρ, hle2, hk1, hk2, hS⟩; obtain ⟨ρ, rfl⟩ := env2 hA hρ; (try have hle := hle.trans hle2); (try have hL0 := hL0.trans hle2); (try have hJ6 := hJ6.trans hle2); (try have hf := hf.up hle2); (try have hp1 := hp1.up hle2); (try have hr1 := hr1.up hle2); (try have hb1 := hb1.up hle2); (try have he1 := he1.up hle2); (try have hls := hls.up hle2)
    all_goals (refine Q0 ?_; refine Q0 ?_; refine Q1 ?_; refine Q2 rfl ?_; refine zl hS ?_; refine zL ?_; refine zm ?_; refine zn ?_; refine Qb ?_)
    refine zo [2, 3, 6, 13, 14, 15, 29, 30] (fun A ρ' w' => ∃ (k1 : Cx) (i : Nat) (ub : Value) (cssB : List (List Value)), Has ρ' A ∧ Has ρ' [(31, .int .i64 i)] ∧ (k6.Le k1) ∧ (i ≤ x1.blocks.length) ∧ (blockR.ls k1 cssB (x1.blocks.take i)) ∧ (oneC ub = true) ∧ St k1 w' (sl 77 12 ub cssB :: blk p6 31 [.int .i64 x1.regs, .slice a1 x1.params.length n1, .slice a2 x1.results.length n2, ub] :: blk p5 31 [.int .i64 x1.regs, vp1, vr1, vb1] :: sl 31 4 u css :: blk p3 24 [u] :: blk p2 24 [.slice none 0 0] :: blk p1 24 [vf] :: L)) (fun ρ' _ => (x1.blocks.length - iv (ρ' 31)).toNat) ?_ ?_
    · exact ⟨k6, 0, .slice none 0 0, [], zh, zh, St.refl hS, (by omega), Rep.LR.nil _ _ _, rfl, by have hS := hS.nil (T := 77) (es := 12); exact hS.sp⟩
    rintro ρ w1 ⟨k1, i, ub, cssB, hA, hρ, hle2, hi, hlsB, hub, hS⟩; obtain ⟨ρ, rfl⟩ := env2 hA hρ; have hL1 := hle2; (try have hle := hle.trans hle2); (try have hL0 := hL0.trans hle2); (try have hJ6 := hJ6.trans hle2); (try have hf := hf.up hle2); (try have hk1 := hk1.up hle2); (try have hk2 := hk2.up hle2); (try have hp1 := hp1.up hle2); (try have hr1 := hr1.up hle2); (try have hb1 := hb1.up hle2); (try have he1 := he1.up hle2); (try have hls := hls.up hle2)
    unfold Qf6
    all_goals (refine Q0 ?_; refine Q1 ?_; refine QC rfl rfl ?_; refine zn ?_; refine Q0 ?_)
    refine Qy rfl (fun hc => ?_) (fun hc => ?_)
    · skip
      all_goals (refine zsk ?_; refine Q0 ?_; refine Qb ?_; refine Q0 ?_; refine Q1 ?_; refine zi ?_; intro b2 o2 cs2 x2 hat2 hx2 he2; obtain ⟨vp2, vc2, ve21, ve22, ve23, ve24, ve25, rfl, hp2, hc2, he21, he22, he23, he24, he25⟩ := Q2C he2; (first | (refine zv hS ?_) | (refine zvk hS ?_)); refine Q8 hS ?_; intro p8 w1 hS; refine zsn hS ?_; intro w1 hS; have hS := hS.ns; refine zn ?_; have hsb := hsh.2.2.2 x2 (List.mem_of_getElem? hx2); have hlc := hsb.2.1)
      have hJ10 := St.refl hS
      refine zML hS [2, 3, 6, 8, 13, 14, 15, 29, 30, 31] (fun A LL ρ' w' => ∃ (k10 : Cx) (a3 : Option Addr) (n3 p9 : Nat), Has ρ' A ∧ Has ρ' [(9, .pointer (some ⟨p9, 0, none⟩))] ∧ (k1.Le k10) ∧ (tyR.sl k10 (.slice a3 x2.params.length n3) x2.params) ∧ St k10 w' (blk p9 77 [.int .i64 x2.regs, .slice a3 x2.params.length n3, .slice none 0 0, .int .i64 x2.fin.op, .int .i64 x2.fin.a, .int .i64 x2.fin.yes.block, ve21, ve22, .int .i64 x2.fin.no.block, ve23, ve24, ve25] :: LL)) ?_ ?_
      · skip
        all_goals (obtain ⟨q1, m1, rfl⟩ := Rep.SR.shape he21; obtain ⟨q2, m2, rfl⟩ := Rep.SR.shape he22; obtain ⟨q3, m3, rfl⟩ := Rep.SR.shape he23; obtain ⟨q4, m4, rfl⟩ := Rep.SR.shape he24; obtain ⟨q5, m5, rfl⟩ := Rep.SR.shape he25)
        refine Q4D 4 8 (by kernel_rfl) ?_ ?_
        · skip
          all_goals (refine zC [(0, none), (1, none), (2, none), (3, none), (5, none), (6, none), (4, some (some [1, 6])), (7, none), (8, some (some [1, 6])), (9, some none)] ?_; have hS := hS.drew; refine s_cq ?_; refine Q2 rfl ?_; refine zt ?_; refine s_cq ?_; refine zl hS ?_; refine zt ?_; refine s_cq ?_; refine Q2 rfl ?_; refine zt ?_; refine s_cq ?_; refine zl hS ?_; refine zt ?_; refine s_cq ?_; refine Q2 rfl ?_; refine zt ?_; refine s_cq ?_; refine zv hS ?_; refine zt ?_; refine Q10 ?_)
          all_goals (refine zR1 (c := Q5j hsb.1.1 hsb.1.2 hp2 hS) (h := ?_); rintro v1 w1 ⟨c3, hle2, hk3, hS⟩; obtain ⟨a3, n3, rfl⟩ := Rep.SR.shape hk3; (try have hle := hle.trans hle2); (try have hL0 := hL0.trans hle2); (try have hL1 := hL1.trans hle2); (try have hJ6 := hJ6.trans hle2); (try have hJ10 := hJ10.trans hle2); (try have hf := hf.up hle2); (try have hk1 := hk1.up hle2); (try have hk2 := hk2.up hle2); (try have hp1 := hp1.up hle2); (try have hr1 := hr1.up hle2); (try have hb1 := hb1.up hle2); (try have hp2 := hp2.up hle2); (try have hc2 := hc2.up hle2); (try have he21 := he21.up hle2); (try have he22 := he22.up hle2); (try have he23 := he23.up hle2); (try have he24 := he24.up hle2); (try have he25 := he25.up hle2); (try have he1 := he1.up hle2); (try have he2 := he2.up hle2); (try have hls := hls.up hle2); (try have hlsB := hlsB.up hle2))
          all_goals (refine zt ?_; refine zy ?_; refine s_cq ?_; refine zb3 [_, _, _, _, _, _, _, _, _, _, _, _] ?_; refine zt ?_; refine Q10 ?_; refine Q8 hS ?_; intro p9 w1 hS; refine zt ?_; refine zy ?_; refine s_cf ?_; refine zsn hS ?_; intro w1 hS; have hS := hS.ns; refine zt ?_; refine zcn ?_; exact ⟨_, a3, n3, p9, zh, zh, hJ10, by assumption, hS.sp⟩)
        · skip
          all_goals (refine zC [(0, none), (1, none), (2, none), (3, none), (5, none), (6, none), (8, some (some [1, 3, 6])), (4, some (some [1, 6])), (7, none), (9, some none)] ?_; have hS := hS.drew; refine s_cq ?_; refine Q2 rfl ?_; refine zt ?_; refine s_cq ?_; refine zl hS ?_; refine zt ?_; refine s_cq ?_; refine Q2 rfl ?_; refine zt ?_; refine s_cq ?_; refine zl hS ?_; refine zt ?_; refine s_cq ?_; refine Q2 rfl ?_; refine zt ?_; refine s_cq ?_; refine zv hS ?_; refine zt ?_; refine Q10 ?_; refine Q8 hS ?_; intro p9 w1 hS; refine zt ?_; refine zy ?_; refine Q10 ?_)
          all_goals (refine zR1 (c := Q5j hsb.1.1 hsb.1.2 hp2 hS) (h := ?_); rintro v1 w1 ⟨c3, hle2, hk3, hS⟩; obtain ⟨a3, n3, rfl⟩ := Rep.SR.shape hk3; (try have hle := hle.trans hle2); (try have hL0 := hL0.trans hle2); (try have hL1 := hL1.trans hle2); (try have hJ6 := hJ6.trans hle2); (try have hJ10 := hJ10.trans hle2); (try have hf := hf.up hle2); (try have hk1 := hk1.up hle2); (try have hk2 := hk2.up hle2); (try have hp1 := hp1.up hle2); (try have hr1 := hr1.up hle2); (try have hb1 := hb1.up hle2); (try have hp2 := hp2.up hle2); (try have hc2 := hc2.up hle2); (try have he21 := he21.up hle2); (try have he22 := he22.up hle2); (try have he23 := he23.up hle2); (try have he24 := he24.up hle2); (try have he25 := he25.up hle2); (try have he1 := he1.up hle2); (try have he2 := he2.up hle2); (try have hls := hls.up hle2); (try have hlsB := hlsB.up hle2))
          all_goals (refine zt ?_; refine zy ?_; refine s_cq ?_; refine zb3 [_, _, _, _, _, _, _, _, _, _, _, _] ?_; refine zt ?_; refine s_cf ?_; refine zsn hS ?_; intro w1 hS; have hS := hS.ns; refine zt ?_; refine zcn ?_; exact ⟨_, a3, n3, p9, zh, zh, hJ10, by assumption, hS.sp⟩)
      rintro ρ w1 ⟨k10, a3, n3, p9, hA, hρ, hle2, hk3, hS⟩; obtain ⟨ρ, rfl⟩ := env2 hA hρ; (try have hle := hle.trans hle2); (try have hL0 := hL0.trans hle2); (try have hL1 := hL1.trans hle2); (try have hJ6 := hJ6.trans hle2); (try have hJ10 := hJ10.trans hle2); (try have hf := hf.up hle2); (try have hk1 := hk1.up hle2); (try have hk2 := hk2.up hle2); (try have hp1 := hp1.up hle2); (try have hr1 := hr1.up hle2); (try have hb1 := hb1.up hle2); (try have hp2 := hp2.up hle2); (try have hc2 := hc2.up hle2); (try have he21 := he21.up hle2); (try have he22 := he22.up hle2); (try have he23 := he23.up hle2); (try have he24 := he24.up hle2); (try have he25 := he25.up hle2); (try have he1 := he1.up hle2); (try have he2 := he2.up hle2); (try have hls := hls.up hle2); (try have hlsB := hlsB.up hle2)
      all_goals (refine Q0 ?_; refine zC [(0, none), (1, none), (2, none), (4, none), (5, none), (6, none), (8, none), (9, none), (10, none), (3, some (some [6, 10])), (12, none), (13, none), (7, some (some [10])), (11, some (some [])), (14, some none), (15, none), (16, none), (17, some none), (18, none), (19, none), (20, some none)] ?_; have hS := hS.drew; refine s_cq ?_; refine Q2 rfl ?_; refine zt ?_; refine s_cq ?_; (first | refine Q2 rfl ?_ | refine Q1A rfl ?_); refine zt ?_; refine s_cq ?_; refine zv hS ?_; refine zt ?_; refine s_cq ?_; refine Q2 rfl ?_; refine zt ?_; refine s_cq ?_; (first | refine Q2 rfl ?_ | refine Q1A rfl ?_); refine zt ?_; refine s_cq ?_; refine zv hS ?_; refine zt ?_; refine s_cq ?_; refine Q2 rfl ?_; refine zt ?_; refine s_cq ?_; (first | refine Q2 rfl ?_ | refine Q1A rfl ?_); refine zt ?_; refine s_cq ?_; refine zl hS ?_; refine zt ?_; refine Q10 ?_)
      all_goals (refine zR1 (c := Qou (x := x2.fin.yes) (by have := hsb.2.2.2.1.1; omega) (by have := hsb.2.2.2.1.2; omega) ⟨_, _, rfl, he21, he22⟩ hS) (h := ?_); rintro v1 w1 ⟨c7, ds, rfl, hle2, hk7, hS⟩; obtain ⟨y1, y2, rfl, hy1, hy2⟩ := Q4p hk7; obtain ⟨a7, n7, rfl⟩ := Rep.SR.shape hy1; obtain ⟨a8, n8, rfl⟩ := Rep.SR.shape hy2; (try have hle := hle.trans hle2); (try have hL0 := hL0.trans hle2); (try have hL1 := hL1.trans hle2); (try have hJ6 := hJ6.trans hle2); (try have hJ10 := hJ10.trans hle2); (try have hf := hf.up hle2); (try have hk1 := hk1.up hle2); (try have hk2 := hk2.up hle2); (try have hk3 := hk3.up hle2); (try have hp1 := hp1.up hle2); (try have hr1 := hr1.up hle2); (try have hb1 := hb1.up hle2); (try have hp2 := hp2.up hle2); (try have hc2 := hc2.up hle2); (try have he21 := he21.up hle2); (try have he22 := he22.up hle2); (try have he23 := he23.up hle2); (try have he24 := he24.up hle2); (try have he25 := he25.up hle2); (try have he1 := he1.up hle2); (try have he2 := he2.up hle2); (try have hls := hls.up hle2); (try have hlsB := hlsB.up hle2))
      all_goals (refine zt ?_; refine zy ?_; refine s_cq ?_; refine Q2 rfl ?_; refine zt ?_; refine s_cq ?_; (first | refine Q2 rfl ?_ | refine Q1A rfl ?_); refine zt ?_; refine Q10 ?_)
      all_goals (refine zR1 (c := Qou (x := x2.fin.no) (by have := hsb.2.2.2.2.1.1; omega) (by have := hsb.2.2.2.2.1.2; omega) ⟨_, _, rfl, he23, he24⟩ hS) (h := ?_); rintro v1 w1 ⟨c8, ds, rfl, hle2, hk8, hS⟩; obtain ⟨z1, z2, rfl, hz1, hz2⟩ := Q4p hk8; obtain ⟨a9, n9, rfl⟩ := Rep.SR.shape hz1; obtain ⟨a10, n10, rfl⟩ := Rep.SR.shape hz2; (try have hle := hle.trans hle2); (try have hL0 := hL0.trans hle2); (try have hL1 := hL1.trans hle2); (try have hJ6 := hJ6.trans hle2); (try have hJ10 := hJ10.trans hle2); (try have hf := hf.up hle2); (try have hk1 := hk1.up hle2); (try have hk2 := hk2.up hle2); (try have hk3 := hk3.up hle2); (try have hk7 := hk7.up hle2); (try have hp1 := hp1.up hle2); (try have hr1 := hr1.up hle2); (try have hb1 := hb1.up hle2); (try have hp2 := hp2.up hle2); (try have hc2 := hc2.up hle2); (try have he21 := he21.up hle2); (try have he22 := he22.up hle2); (try have he23 := he23.up hle2); (try have he24 := he24.up hle2); (try have he25 := he25.up hle2); (try have he1 := he1.up hle2); (try have he2 := he2.up hle2); (try have hls := hls.up hle2); (try have hy1 := hy1.up hle2); (try have hy2 := hy2.up hle2); (try have hlsB := hlsB.up hle2))
      all_goals (refine zt ?_; refine zy ?_; refine Q10 ?_)
      all_goals (refine zR1 (c := Q8y (by have := hsb.2.2.2.2.2; omega) he25 hS) (h := ?_); rintro v1 w1 ⟨c9, hle2, hw1, hS⟩; obtain ⟨a11, n11, rfl⟩ := Rep.SR.shape hw1; (try have hle := hle.trans hle2); (try have hL0 := hL0.trans hle2); (try have hL1 := hL1.trans hle2); (try have hJ6 := hJ6.trans hle2); (try have hJ10 := hJ10.trans hle2); (try have hf := hf.up hle2); (try have hk1 := hk1.up hle2); (try have hk2 := hk2.up hle2); (try have hk3 := hk3.up hle2); (try have hk7 := hk7.up hle2); (try have hk8 := hk8.up hle2); (try have hp1 := hp1.up hle2); (try have hr1 := hr1.up hle2); (try have hb1 := hb1.up hle2); (try have hp2 := hp2.up hle2); (try have hc2 := hc2.up hle2); (try have he21 := he21.up hle2); (try have he22 := he22.up hle2); (try have he23 := he23.up hle2); (try have he24 := he24.up hle2); (try have he25 := he25.up hle2); (try have he1 := he1.up hle2); (try have he2 := he2.up hle2); (try have hls := hls.up hle2); (try have hy1 := hy1.up hle2); (try have hy2 := hy2.up hle2); (try have hz1 := hz1.up hle2); (try have hz2 := hz2.up hle2); (try have hlsB := hlsB.up hle2))
      all_goals (refine zt ?_; refine zy ?_; refine s_cf ?_; (first | (refine zsn hS ?_; intro w1 hS; have hS := hS.ns) | (refine zsm hS ?_; intro w1 hS; have hS := hS.ns)); refine zt ?_; refine s_cq ?_; refine Q2 rfl ?_; refine zt ?_; refine s_cq ?_; (first | refine Q2 rfl ?_ | refine Q1A rfl ?_); refine zt ?_; refine s_cf ?_; (first | (refine zsn hS ?_; intro w1 hS; have hS := hS.ns) | (refine zsm hS ?_; intro w1 hS; have hS := hS.ns)); refine zt ?_; refine s_cq ?_; refine Q2 rfl ?_; refine zt ?_; refine s_cq ?_; (first | refine Q2 rfl ?_ | refine Q1A rfl ?_); refine zt ?_; refine s_cf ?_; refine zst hS ?_; intro w1 hS; have hS := hS.ns; refine zt ?_; refine zcn ?_; refine Q0 ?_; refine Q0 ?_; refine Q1 ?_; refine Q2 rfl ?_; refine zl hS ?_; refine zL ?_; refine zm ?_; refine zn ?_; refine Qb ?_)
      refine zo [2, 3, 6, 9, 13, 14, 15, 29, 30, 31, 62, 63] (fun A ρ' w' => ∃ (k2 : Cx) (k : Nat) (uc : Value) (cssC : List (List Value)), Has ρ' A ∧ Has ρ' [(64, .int .i64 k)] ∧ (c9.Le k2) ∧ (k ≤ x2.code.length) ∧ (insR.ls k2 cssC (x2.code.take k)) ∧ (oneC uc = true) ∧ St k2 w' (sl 27 8 uc cssC :: blk p9 77 [.int .i64 x2.regs, .slice a3 x2.params.length n3, uc, .int .i64 x2.fin.op, .int .i64 x2.fin.a, .int .i64 x2.fin.yes.block, .slice a7 x2.fin.yes.regs.length n7, .slice a8 x2.fin.yes.args.length n8, .int .i64 x2.fin.no.block, .slice a9 x2.fin.no.regs.length n9, .slice a10 x2.fin.no.args.length n10, .slice a11 x2.fin.args.length n11] :: blk p8 77 [.int .i64 x2.regs, vp2, vc2, .int .i64 x2.fin.op, .int .i64 x2.fin.a, .int .i64 x2.fin.yes.block, ve21, ve22, .int .i64 x2.fin.no.block, ve23, ve24, ve25] :: sl 77 12 ub cssB :: blk p6 31 [.int .i64 x1.regs, .slice a1 x1.params.length n1, .slice a2 x1.results.length n2, ub] :: blk p5 31 [.int .i64 x1.regs, vp1, vr1, vb1] :: sl 31 4 u css :: blk p3 24 [u] :: blk p2 24 [.slice none 0 0] :: blk p1 24 [vf] :: L)) (fun ρ' _ => (x2.code.length - iv (ρ' 64)).toNat) ?_ ?_
      · exact ⟨c9, 0, .slice none 0 0, [], zh, zh, St.refl hS, (by omega), Rep.LR.nil _ _ _, rfl, by have hS := hS.nil (T := 27) (es := 8); exact hS.sp⟩
      rintro ρ w1 ⟨k2, k, uc, cssC, hA, hρ, hle2, hkk, hlsC, huc, hS⟩; obtain ⟨ρ, rfl⟩ := env2 hA hρ; have hL2 := hle2; (try have hle := hle.trans hle2); (try have hL0 := hL0.trans hle2); (try have hL1 := hL1.trans hle2); (try have hJ6 := hJ6.trans hle2); (try have hJ10 := hJ10.trans hle2); (try have hf := hf.up hle2); (try have hk1 := hk1.up hle2); (try have hk2 := hk2.up hle2); (try have hk3 := hk3.up hle2); (try have hk7 := hk7.up hle2); (try have hk8 := hk8.up hle2); (try have hp1 := hp1.up hle2); (try have hr1 := hr1.up hle2); (try have hb1 := hb1.up hle2); (try have hp2 := hp2.up hle2); (try have hc2 := hc2.up hle2); (try have he21 := he21.up hle2); (try have he22 := he22.up hle2); (try have he23 := he23.up hle2); (try have he24 := he24.up hle2); (try have he25 := he25.up hle2); (try have he1 := he1.up hle2); (try have he2 := he2.up hle2); (try have hls := hls.up hle2); (try have hy1 := hy1.up hle2); (try have hy2 := hy2.up hle2); (try have hz1 := hz1.up hle2); (try have hz2 := hz2.up hle2); (try have hw1 := hw1.up hle2); (try have hlsB := hlsB.up hle2)
      unfold Qcm
      all_goals (refine Q0 ?_; refine Q1 ?_; refine QC rfl rfl ?_; refine zn ?_; refine Q0 ?_)
      refine Qy rfl (fun hc => ?_) (fun hc => ?_)
      · skip
        all_goals (refine zsk ?_; refine Q0 ?_; refine Qb ?_; refine Q0 ?_; refine Q1 ?_; refine zi ?_; intro b3 o3 cs3 x3 hat3 hx3 he3; obtain ⟨vr3, va3, rfl, hr3, ha3⟩ := Q1Q he3; (first | (refine zv hS ?_) | (refine zvk hS ?_)); refine Q8 hS ?_; intro p11 w1 hS; refine zsn hS ?_; intro w1 hS; have hS := hS.ns; refine zn ?_; refine Q0 ?_; have hsi := hsb.2.2.1 x3 (List.mem_of_getElem? hx3); refine zC [(0, none), (1, none), (3, none), (4, none), (2, some (some [4])), (6, none), (5, some (some [])), (7, some none), (8, none), (9, some none)] ?_; have hS := hS.drew; refine s_cq ?_; refine Q2 rfl ?_; refine zt ?_; refine s_cq ?_; refine zl hS ?_; refine zt ?_; refine s_cq ?_; refine Q2 rfl ?_; refine zt ?_; refine s_cq ?_; refine zl hS ?_; refine zt ?_; refine Q10 ?_)
        all_goals (refine zR1 (c := Q8y (by have := hsi.1; omega) hr3 hS) (h := ?_); rintro v1 w1 ⟨c4, hle2, hk4, hS⟩; obtain ⟨a4, n4, rfl⟩ := Rep.SR.shape hk4; (try have hle := hle.trans hle2); (try have hL0 := hL0.trans hle2); (try have hL1 := hL1.trans hle2); (try have hL2 := hL2.trans hle2); (try have hJ6 := hJ6.trans hle2); (try have hJ10 := hJ10.trans hle2); (try have hf := hf.up hle2); (try have hk1 := hk1.up hle2); (try have hk2 := hk2.up hle2); (try have hk3 := hk3.up hle2); (try have hk7 := hk7.up hle2); (try have hk8 := hk8.up hle2); (try have hp1 := hp1.up hle2); (try have hr1 := hr1.up hle2); (try have hb1 := hb1.up hle2); (try have hp2 := hp2.up hle2); (try have hc2 := hc2.up hle2); (try have he21 := he21.up hle2); (try have he22 := he22.up hle2); (try have he23 := he23.up hle2); (try have he24 := he24.up hle2); (try have he25 := he25.up hle2); (try have hr3 := hr3.up hle2); (try have ha3 := ha3.up hle2); (try have he1 := he1.up hle2); (try have he2 := he2.up hle2); (try have he3 := he3.up hle2); (try have hls := hls.up hle2); (try have hy1 := hy1.up hle2); (try have hy2 := hy2.up hle2); (try have hz1 := hz1.up hle2); (try have hz2 := hz2.up hle2); (try have hw1 := hw1.up hle2); (try have hlsB := hlsB.up hle2); (try have hlsC := hlsC.up hle2))
        all_goals (refine zt ?_; refine zy ?_; refine s_cq ?_; refine Q2 rfl ?_; refine zt ?_; refine Q10 ?_)
        all_goals (refine zR1 (c := Q8y (by have := hsi.2; omega) ha3 hS) (h := ?_); rintro v1 w1 ⟨c5, hle2, hk5, hS⟩; obtain ⟨a5, n5, rfl⟩ := Rep.SR.shape hk5; (try have hle := hle.trans hle2); (try have hL0 := hL0.trans hle2); (try have hL1 := hL1.trans hle2); (try have hL2 := hL2.trans hle2); (try have hJ6 := hJ6.trans hle2); (try have hJ10 := hJ10.trans hle2); (try have hf := hf.up hle2); (try have hk1 := hk1.up hle2); (try have hk2 := hk2.up hle2); (try have hk3 := hk3.up hle2); (try have hk4 := hk4.up hle2); (try have hk7 := hk7.up hle2); (try have hk8 := hk8.up hle2); (try have hp1 := hp1.up hle2); (try have hr1 := hr1.up hle2); (try have hb1 := hb1.up hle2); (try have hp2 := hp2.up hle2); (try have hc2 := hc2.up hle2); (try have he21 := he21.up hle2); (try have he22 := he22.up hle2); (try have he23 := he23.up hle2); (try have he24 := he24.up hle2); (try have he25 := he25.up hle2); (try have hr3 := hr3.up hle2); (try have ha3 := ha3.up hle2); (try have he1 := he1.up hle2); (try have he2 := he2.up hle2); (try have he3 := he3.up hle2); (try have hls := hls.up hle2); (try have hy1 := hy1.up hle2); (try have hy2 := hy2.up hle2); (try have hz1 := hz1.up hle2); (try have hz2 := hz2.up hle2); (try have hw1 := hw1.up hle2); (try have hlsB := hlsB.up hle2); (try have hlsC := hlsC.up hle2))
        all_goals (refine zt ?_; refine zy ?_; refine s_cf ?_; refine zst hS ?_; intro w1 hS; have hS := hS.ns; refine zt ?_; refine s_cq ?_; refine Q2 rfl ?_; refine zt ?_; refine s_cf ?_; refine zst hS ?_; intro w1 hS; have hS := hS.ns; refine zt ?_; refine zcn ?_; have hk9 : insR.at c5 _ x3 := ⟨_, _, rfl, hk4, hk5⟩; refine Q1 ?_; refine Q2 rfl ?_; refine zl hS ?_; refine zv hS ?_; refine zB1 hS [_, _, _, _, _, _, _, _] ?_; intro b1 w1 hS; refine za QqL u_T58 hS ?_; intro vp1 w1 css1 hls1 hv1 hS; have hS := hS.ns; refine Q2 rfl ?_; refine zst hS ?_; intro w1 hS; have hS := hS.ns; refine zn ?_; refine Q1 ?_; refine zad ?_; refine zm ?_; refine zn ?_; exact ⟨⟨_, k + 1, _, _, zh, zh, hL2, (by omega), by rw [Q1B hx3]; assumption, by assumption, hS.sp⟩, Qx (by omega)⟩)
      · skip
        all_goals (refine zex ?_)
        all_goals (obtain ⟨c6, hle2, hS, hk6⟩ := St.freezeL (r := insR) (l := x2.code) hS (by rw [List.take_of_length_le (by omega)] at hlsC; exact hlsC) rfl (by have := hsb.2.1; omega); obtain ⟨a6, n6, rfl⟩ := Rep.SR.shape hk6; (try have hle := hle.trans hle2); (try have hL0 := hL0.trans hle2); (try have hL1 := hL1.trans hle2); (try have hL2 := hL2.trans hle2); (try have hJ6 := hJ6.trans hle2); (try have hJ10 := hJ10.trans hle2); (try have hf := hf.up hle2); (try have hk1 := hk1.up hle2); (try have hk2 := hk2.up hle2); (try have hk3 := hk3.up hle2); (try have hk7 := hk7.up hle2); (try have hk8 := hk8.up hle2); (try have hp1 := hp1.up hle2); (try have hr1 := hr1.up hle2); (try have hb1 := hb1.up hle2); (try have hp2 := hp2.up hle2); (try have hc2 := hc2.up hle2); (try have he21 := he21.up hle2); (try have he22 := he22.up hle2); (try have he23 := he23.up hle2); (try have he24 := he24.up hle2); (try have he25 := he25.up hle2); (try have he1 := he1.up hle2); (try have he2 := he2.up hle2); (try have hls := hls.up hle2); (try have hy1 := hy1.up hle2); (try have hy2 := hy2.up hle2); (try have hz1 := hz1.up hle2); (try have hz2 := hz2.up hle2); (try have hw1 := hw1.up hle2); (try have hlsB := hlsB.up hle2); (try have hlsC := hlsC.up hle2))
        all_goals (have hk9 : blockR.at c6 _ x2 := Qfh (x := x2) hk3 hk6 hy1 hy2 hz1 hz2 hw1; refine Q1 ?_; refine Q2 rfl ?_; refine zl hS ?_; refine zv hS ?_; refine zB1 hS [_, _, _, _, _, _, _, _, _, _, _, _] ?_; intro b1 w1 hS; refine za el_T29 u_T29 hS ?_; intro vp2 w2 css2 hls2 hv2 hS; have hS := hS.ns; refine Q2 rfl ?_; refine zst hS ?_; intro w1 hS; have hS := hS.ns; refine zn ?_; refine Q1 ?_; refine zad ?_; refine zm ?_; refine zn ?_; exact ⟨⟨_, i + 1, _, _, zh, zh, hL1, (by omega), by rw [Q1B hx2]; assumption, by assumption, hS.sp⟩, Qx (by omega)⟩)
    · skip
      all_goals (refine zex ?_)
      all_goals (obtain ⟨c10, hle2, hS, hk6⟩ := St.freezeL (r := blockR) (l := x1.blocks) hS (by rw [List.take_of_length_le (by omega)] at hlsB; exact hlsB) rfl (by have := hsh.2.2.1; omega); obtain ⟨a6, n6, rfl⟩ := Rep.SR.shape hk6; (try have hle := hle.trans hle2); (try have hL0 := hL0.trans hle2); (try have hL1 := hL1.trans hle2); (try have hJ6 := hJ6.trans hle2); (try have hf := hf.up hle2); (try have hk1 := hk1.up hle2); (try have hk2 := hk2.up hle2); (try have hp1 := hp1.up hle2); (try have hr1 := hr1.up hle2); (try have hb1 := hb1.up hle2); (try have he1 := he1.up hle2); (try have hls := hls.up hle2); (try have hlsB := hlsB.up hle2))
      all_goals (have hk9 : funcR.at c10 _ x1 := ⟨_, _, _, rfl, hk1, hk2, hk6⟩; refine Q1 ?_; refine Q2 rfl ?_; refine zl hS ?_; refine zv hS ?_; refine zB1 hS [_, _, _, _] ?_; intro b1 w1 hS; refine za el_T22 u_T22 hS ?_; intro vp3 w3 css3 hls3 hv3 hS; have hS := hS.ns; refine Q2 rfl ?_; refine zst hS ?_; intro w1 hS; have hS := hS.ns; refine zn ?_; refine Q1 ?_; refine zad ?_; refine zm ?_; refine zn ?_; exact ⟨⟨_, j + 1, _, _, zh, zh, hL0, (by omega), by rw [Q1B hx1]; assumption, by assumption, hS.sp⟩, Qx (by omega)⟩)
  · skip
    all_goals (refine zex ?_)
    all_goals (obtain ⟨c11, hle2, hS, hk6⟩ := St.freezeL (r := funcR) (l := l) hS (by rw [List.take_of_length_le (by omega)] at hls; exact hls) rfl (by omega); obtain ⟨a6, n6, rfl⟩ := Rep.SR.shape hk6; (try have hle := hle.trans hle2); (try have hL0 := hL0.trans hle2); (try have hf := hf.up hle2); (try have hls := hls.up hle2))
    all_goals (refine Q0 ?_; refine Q1 ?_; refine zv hS ?_; refine zsn hS ?_; intro w1 hS; have hS := hS.ns; refine zn ?_; refine zr ?_; refine Q18 vw (Qc (n := 1) (by kernel_rfl) (by kernel_rfl) (hS.blkAt fd) (by rfl) (by rfl)) ?_; exact ⟨_, rfl, c11, _, rfl, hle, ⟨_, rfl, hk6⟩, hS.sp⟩)
end Go.Proofs.Ytanlkfeogoganaa
namespace Go.Proofs.Ytanlkfeogoganaa
open Go.Lir
set_option maxHeartbeats 1000000
attribute [local irreducible] LC.wp Q3 QZ Q1g retQ Q2p LO.wp QH Calls
set_option linter.unusedSimpArgs false
set_option linter.unusedVariables false
attribute [local irreducible] hasB Q8a Q2q Q32 Q60 upTo Module.fault
variable {cx : Cx} {w : World} {L : List Res} {j : JP} {h : List Bool} {vl : Value} {css : List (List Value)} {i : Nat} {m : Module}
theorem clonet_c {l : List Ty} {v : Value} (hl : tyR.sl cx v l) (hb : l.length ≤ 1000000) (hS : St cx w L) : Rets Try.prog Q1b [v] w fun u w' => oneC u = true ∧ ∃ css, tyR.ls cx css l ∧ St cx w' (sl 65 3 u css :: L) := by
  obtain ⟨a, c, hv⟩ := Rep.SR.shape hl
  cases a with
  | none =>
    have hl0 := Rep.SR.nil_of hl hv
    subst hl0
    subst hv
    all_goals refine Q1K ?_
    all_goals (unfold slices_Clone_api_Type_api_Type_lc; refine Q0 ?_; refine Q1 ?_; refine zm ?_; refine zn ?_; refine Q0 ?_; refine Q0 ?_; refine Q1 ?_; refine zm ?_; refine Qj2 (e := 65) (by kernel_rfl) rfl rfl ?_; refine zn ?_)
    all_goals
      first
      | (refine Q5 rfl ?_ -- Q1b c0
         all_goals (refine Q0 ?_; refine Q1 ?_; refine zm ?_; refine zn ?_; refine zr ?_; refine zf ?_)
         all_goals (exact ⟨_, rfl, rfl, [], Rep.LR.nil _ _ _, hS.nil⟩))
    all_goals (refine Q0 ?_; refine Q1 ?_; fail "no law for buildSlice"; refine zm ?_; refine za Q6M QiL hS ?_; intro vp1 w1 css1 hls1 hv1 hS; have hS := hS.ns; refine zm ?_; refine zn ?_; refine zr ?_; refine zf ?_; exact ⟨_, rfl, rfl, [], Rep.LR.nil _ _ _, hS.nil⟩)
  | some a =>
    have hn : tyR.ls cx [] [] := Rep.LR.nil _ _ _
    all_goals refine Q1K ?_
    all_goals (unfold slices_Clone_api_Type_api_Type_lc; refine Q0 ?_; refine Q1 ?_; refine zm ?_; refine zn ?_; refine Q0 ?_; refine Q0 ?_; refine Q1 ?_; refine zm ?_; refine Qj2 (e := 65) (by kernel_rfl) hv rfl ?_; refine zn ?_)
    all_goals refine Q6 rfl ?_
    all_goals (refine zsk ?_; refine Q0 ?_; refine Q1 ?_; refine QpM Q6M ?_; intro v1 w1 hf1 hs1 hz1; have hS := hS.new (r := sl 65 3 v1 []) hs1 hf1 (fun b hb => Nat.le_of_eq hb.symm); refine zm ?_; (first | (refine za Q6M QiL hS ?_; intro vp1 w1 css1 hls1 hv1 hS; have hS := hS.ns) | (refine zak Q6M QiL hS ?_; intro vp1 w1 css1 hls1 hv1 hS; have hS := hS.ns)); refine zm ?_; refine zn ?_; refine zr ?_; refine zf ?_; exact ⟨_, rfl, by assumption, _, hls1, hS.sp⟩)
theorem JP.shut {v : Value} (hS : St cx w (blk j.sp 69 (j.cells vl) :: blk j.hp 129 [v] :: sl 4 1 v (h.map Q16) :: sl 65 3 vl css :: L)) : St cx w (j.res h vl css :: L) := by
  have h1 : St cx w (Qjh j.hp h :: sl 65 3 vl css :: blk j.sp 69 (j.cells vl) :: L) := Q3x (hS.perm (by
    refine List.Perm.trans (List.Perm.swap _ _ _) (List.Perm.cons _ ?_)
    refine List.Perm.trans (List.Perm.swap _ _ _) (List.Perm.cons _ ?_)
    exact List.Perm.swap _ _ _))
  exact St.star' (St.mv1 (St.star' h1))
theorem jNew_c {f b : Int} {cs : List Value} (hm : m.Short) (hx : modR.at cx cs m) (hS : St cx w L) :
    Rets Try.prog Q3u [.agg ⟨cs⟩, .int .i64 f, .int .i64 b] w fun u w' =>
      (m.fault.1 ≠ 0 ∧ u = .tuple #[.pointer none, fltV m.fault] ∧ St cx w' L) ∨
      (m.fault.1 = 0 ∧ ((f < 0 ∨ m.funcs.length ≤ f) ∨ ∃ fn, m.funcs[f.toNat]? = some fn ∧ (b < 0 ∨ fn.blocks.length ≤ b)) ∧ u = .tuple #[.pointer none, fltV (1, -1)] ∧ St cx w' L) ∨
      (∃ (fn : Fun) (y : Block) (j : JP) (c' : Cx) (vl : Value) (css : List (List Value)), m.fault.1 = 0 ∧ 0 ≤ f ∧ 0 ≤ b ∧ m.funcs[f.toNat]? = some fn ∧ fn.blocks[b.toNat]? = some y ∧ u = .tuple #[.pointer (some ⟨j.sp, 0, none⟩), fltV (0, 0)] ∧ cx.Le c' ∧ j.Fits c' m ∧ j.f = fn ∧ tyR.ls c' css y.params ∧ St c' w' (j.res (Q2U y).h vl css :: L)) := by
  obtain ⟨vf, rfl, hf⟩ := Q29 hx
  obtain ⟨a0, n0, rfl⟩ := Rep.SR.shape hf
  have hlf := hf.len
  all_goals refine Qlf ?_
  all_goals (unfold judge_New_lc; refine Q0 ?_; refine Q1 ?_; refine zb hS ?_; intro p3 w1 hS; refine zm ?_; refine Q8 hS ?_; intro p7 w1 hS; refine zn ?_; refine Q0 ?_; refine Q0 ?_; refine Q1 ?_; refine zv hS ?_; refine zR1 (c := Qow hm hx hS) (h := ?_); rintro v1 w1 ⟨rfl, hS⟩; unfold fltV; refine Q8 hS ?_; intro p8 w1 hS; refine zsn hS ?_; intro w1 hS; have hS := hS.ns; refine zn ?_; refine Q0 ?_; refine Q1 ?_; refine Q2 rfl ?_; refine zl hS ?_)
  all_goals (first | (refine Q1h ?_) | (refine Q1i ?_) | (refine Qw rfl rfl (fun hc => ?_) (fun hc => ?_)))
  all_goals (refine zn ?_)
  all_goals
    first
    | (refine Q5 rfl ?_ -- Q3u c0
       all_goals (refine Q0 ?_; refine zD [(0, none), (1, none), (2, some none)] ?_; have hS := hS.drew; refine zv hS ?_; refine zm ?_; refine zsn hS ?_; intro w1 hS; have hS := hS.ns; refine zn ?_; refine zr ?_; refine QmQ vw vw (Qc (n := 2) (by kernel_rfl) (by kernel_rfl) (hS.blkAt fd) (by rfl) (by rfl)) ?_)
       all_goals (exact ⟨_, rfl, .inl ⟨by omega, rfl, hS.sp⟩⟩))
    | (refine Q6 rfl ?_ -- Q3u c0
       all_goals refine zsk ?_)
  refine zML hS [1, 2, 3, 7] (fun A LL ρ' w' => Has ρ' A ∧ Has ρ' [] ∧ (m.fault.1 = 0) ∧ (0 ≤ f ∧ f < m.funcs.length ∧ ∃ fn, m.funcs[f.toNat]? = some fn ∧ 0 ≤ b ∧ b < fn.blocks.length) ∧ St cx w' (LL)) ?_ ?_
  · skip
    all_goals (refine Q0 ?_; refine Q1 ?_; refine zm ?_)
    all_goals (first | (refine Q1Z ?_) | (refine Q20 ?_) | (refine QQ rfl rfl (fun hc => ?_) (fun hc => ?_)))
    all_goals (refine zm ?_; (first | refine s_gn rfl rfl ?_ | (refine s_gy rfl ?_; refine zm ?_)); (first | refine s_gn rfl rfl ?_ | (refine s_gy rfl ?_; refine Q2 rfl ?_)); (first | refine s_gn rfl rfl ?_ | (refine s_gy rfl ?_; refine zl hS ?_)); (first | refine s_gn rfl rfl ?_ | (refine s_gy rfl ?_; refine zL ?_)))
    all_goals (first | refine s_gn rfl rfl ?_ | (refine s_gy rfl ?_; (first | (refine Q53 ?_) | (refine Q56 ?_) | (refine Q24 rfl rfl (fun hc => ?_) (fun hc => ?_)))))
    all_goals ((first | (refine zpt ?_) | (refine zpf ?_)); refine zm ?_; (first | refine s_gn rfl rfl ?_ | (refine s_gy rfl ?_; refine zm ?_)))
    all_goals (first | refine s_gn rfl rfl ?_ | (refine s_gy rfl ?_; (first | (refine Q1Z ?_) | (refine Q20 ?_) | (refine QQ rfl rfl (fun hc => ?_) (fun hc => ?_)))))
    all_goals ((first | (refine zpt ?_) | (refine zpf ?_)); refine zm ?_; (first | refine s_gn rfl rfl ?_ | (refine s_gy rfl ?_; refine zm ?_)); (first | refine s_gn rfl rfl ?_ | (refine s_gy rfl ?_; refine Q2 rfl ?_)); (first | refine s_gn rfl rfl ?_ | (refine s_gy rfl ?_; refine zl hS ?_)); (first | refine s_gn rfl rfl ?_ | (refine s_gy rfl ?_; refine zm ?_)); (first | refine s_gn rfl rfl ?_ | (refine s_gy rfl ?_; ((first | refine zi ?_ | refine zj ?_); intro b1 o1 cs1 x1 hat1 hx1 he1; obtain ⟨vp1, vr1, vb1, rfl, hp1, hr1, hb1⟩ := Q17 he1))); (first | refine s_gn rfl rfl ?_ | (refine s_gy rfl ?_; (first | refine Q2 rfl ?_ | refine Q1A rfl ?_))); (first | refine s_gn rfl rfl ?_ | (refine s_gy rfl ?_; (first | (refine zl hS ?_) | (refine zlk hS ?_) | (refine zlj hS ?_)))); (first | refine s_gn rfl rfl ?_ | (refine s_gy rfl ?_; refine zL ?_)))
    all_goals (first | refine s_gn rfl rfl ?_ | (refine s_gy rfl ?_; (first | (refine Q53 ?_) | (refine Q56 ?_) | (refine Q24 rfl rfl (fun hc => ?_) (fun hc => ?_)))))
    all_goals ((first | (refine zpt ?_) | (refine zpf ?_)); refine zn ?_; skip)
    all_goals
      first
      | (refine Q6 rfl ?_ -- Q3u c1
         all_goals refine zsk ?_)
      | (refine Q5 rfl ?_ -- Q3u c1
         all_goals (refine Q0 ?_; refine Q1 ?_; refine zb2 [_, _] ?_; refine zm ?_; refine zsn hS ?_; intro w1 hS; have hS := hS.ns; refine zn ?_; refine zr ?_; refine QmQ vw vw (Qc (n := 2) (by kernel_rfl) (by kernel_rfl) (hS.blkAt fd) (by rfl) (by rfl)) ?_)
         all_goals (first | (exact ⟨_, rfl, .inl ⟨by omega, rfl, hS.sp⟩⟩) | (exact ⟨_, rfl, .inr (.inl ⟨by omega, .inl (.inl (by omega)), rfl, hS.sp⟩)⟩) | (exact ⟨_, rfl, .inr (.inl ⟨by omega, .inl (.inr (by omega)), rfl, hS.sp⟩)⟩) | (exact ⟨_, rfl, .inr (.inl ⟨by omega, .inr ⟨_, List.getElem?_eq_getElem (i := f.toNat) (by omega), .inl (by omega)⟩, rfl, hS.sp⟩)⟩) | (exact ⟨_, rfl, .inr (.inl ⟨by omega, .inr ⟨x1, hx1, .inr (by omega)⟩, rfl, hS.sp⟩)⟩)))
    all_goals (exact ⟨zh, zh, by omega, by refine ⟨by omega, by omega, x1, hx1, by omega, by omega⟩, hS.sp⟩)
  rintro ρ w1 ⟨hA, hρ, hz, hb, hS⟩; obtain ⟨ρ, rfl⟩ := env2 hA hρ
  all_goals (refine Q0 ?_; refine Q1 ?_; refine zv hS ?_; refine zR1 (c := Qq9 hm hx hS) (h := ?_); rintro v1 w1 ⟨c1, ds, rfl, hle, hm2, hS⟩; obtain ⟨vm, rfl, hf2⟩ := Q29 hm2; obtain ⟨hb1, hb2, fn, hfn, hb3, hb4⟩ := hb; refine zb1 [_, _, _, _, _, _, _] ?_; refine zb hS ?_; intro p45 w1 hS; refine zm ?_; refine zn ?_; skip; refine Q0 ?_; refine Q1 ?_; refine zm ?_; refine zm ?_; refine QA rfl ?_; refine Q2 rfl ?_; (first | refine Q2 rfl ?_ | refine Q1A rfl ?_); refine zl hS ?_; refine zm ?_; (first | refine zi ?_ | refine zj ?_); intro b2 o2 cs2 x2 hat2 hx2 he2; obtain ⟨vp2, vr2, vb2, rfl, hp2, hr2, hb2⟩ := Q17 he2; (first | (refine zv hS ?_) | (refine zvk hS ?_)); refine QA rfl ?_; refine Q2 rfl ?_; (first | (refine zsn hS ?_; intro w1 hS; have hS := hS.ns) | (refine zsm hS ?_; intro w1 hS; have hS := hS.ns)); refine zn ?_; obtain rfl : fn = x2 := Option.some.inj (hfn.symm.trans hx2); have hsf := hm.2 fn (List.mem_of_getElem? hfn); refine Q0 ?_; refine Q1 ?_; refine zm ?_; refine QA rfl ?_; refine Q2 rfl ?_; (first | refine Q2 rfl ?_ | refine Q1A rfl ?_); refine zl hS ?_; refine zm ?_; (first | refine zi ?_ | refine zj ?_); intro b3 o3 cs3 x3 hat3 hx3 he3; obtain ⟨vp3, vc3, ve31, ve32, ve33, ve34, ve35, rfl, hp3, hc3, he31, he32, he33, he34, he35⟩ := Q2C he3)
  all_goals ((first | (refine zv hS ?_) | (refine zvk hS ?_)); refine Q8 hS ?_; intro p10 w1 hS; refine zsn hS ?_; intro w1 hS; have hS := hS.ns; refine zn ?_; refine Q0 ?_; refine Q1 ?_; refine zm ?_; refine Q2 rfl ?_; refine zl hS ?_; refine zR1 (c := new_u hS) (h := ?_); rintro v1 w1 ⟨hp, vh, rfl, hS⟩; refine QA rfl ?_; refine Q2 rfl ?_; refine zst hS ?_; intro w1 hS; have hS := hS.ns; refine zn ?_; refine Q0 ?_; refine Q1 ?_; refine zm ?_; refine Q2 rfl ?_; refine zl hS ?_; refine zR1 (c := clonet_c hp3 (by have := (hsf.2.2.2 x3 (List.mem_of_getElem? hx3)).1.1; omega) hS) (h := ?_); rintro v1 w1 ⟨hvl, css4, hls4, hS⟩; refine QA rfl ?_; refine Q2 rfl ?_; refine zst hS ?_; intro w1 hS; have hS := hS.ns; refine zn ?_; refine Q0 ?_; refine Q1 ?_; refine zm ?_; refine zb0 [_, _] ?_; refine zm ?_; refine zsn hS ?_; intro w1 hS; have hS := hS.ns; refine zn ?_; refine zr ?_; refine QmQ vw vw (Qc (n := 2) (by kernel_rfl) (by kernel_rfl) (hS.blkAt fd) (by rfl) (by rfl)) ?_)
  all_goals ((first | (exact ⟨_, rfl, .inl ⟨by omega, rfl, hS.sp⟩⟩) | (exact ⟨_, rfl, .inr (.inl ⟨by omega, .inl (.inl (by omega)), rfl, hS.sp⟩)⟩) | (exact ⟨_, rfl, .inr (.inl ⟨by omega, .inl (.inr (by omega)), rfl, hS.sp⟩)⟩) | (exact ⟨_, rfl, .inr (.inl ⟨by omega, .inr ⟨_, List.getElem?_eq_getElem (i := f.toNat) (by omega), .inl (by omega)⟩, rfl, hS.sp⟩)⟩) | (exact ⟨_, rfl, .inr (.inl ⟨by omega, .inr ⟨x1, hx1, .inr (by omega)⟩, rfl, hS.sp⟩)⟩) | (exact ⟨_, rfl, .inr (.inr ⟨fn, x3, ⟨p45, hp, fn, vm, vp2, vr2, vb2⟩, c1, _, css4, hz, by omega, by omega, hfn, hx3, rfl, hle, ⟨hf2, hp2, hr2, hb2⟩, rfl, hls4, JP.shut (v := vh) hS.sp⟩)⟩)))
end Go.Proofs.Ytanlkfeogoganaa
namespace Go.Proofs.Ytanlkfeogoganaa
open Go.Lir
set_option maxHeartbeats 1000000
attribute [local irreducible] LC.wp Q3 QZ Q1g retQ Q2p LO.wp QH Calls
set_option linter.unusedSimpArgs false
set_option linter.unusedVariables false
end Go.Proofs.Ytanlkfeogoganaa
namespace Go.Proofs.Ytanlkfeogoganaa
open Go.Lir
set_option maxHeartbeats 1000000
attribute [local irreducible] LC.wp Q3 QZ Q1g retQ Q2p LO.wp QH Calls
set_option linter.unusedSimpArgs false
set_option linter.unusedVariables false
variable {cx : Cx} {w : World} {L : List Res} {i : Nat}
def leastB : Block := ⟨0, [], [], ⟨3, 0, ⟨0, [], []⟩, ⟨0, [], []⟩, []⟩⟩
def leastM : Module := ⟨[⟨0, [], [], [leastB]⟩]⟩
abbrev Q5P (vc : Value) : List Value := [.int .i64 0, .slice none 0 0, vc, .int .i64 3, .int .i64 0, .int .i64 0, .slice none 0 0, .slice none 0 0, .int .i64 0, .slice none 0 0, .slice none 0 0, .slice none 0 0]
theorem Qjl : Int2 Try.prog 47 := int2_of (by kernel_rfl)
theorem Qqi (hS : St cx w L) : Rets Try.prog QmC [] w fun u w' => ∃ a b, u = .agg ⟨[.slice (some ⟨a, 0, none⟩) 1 1]⟩ ∧ St cx w' (blk a 31 [.int .i64 0, .slice none 0 0, .slice none 0 0, .slice (some ⟨b, 0, none⟩) 1 1] :: blk b 77 (Q5P (.slice none 0 0)) :: L) := by
  all_goals refine QmB ?_
  all_goals (unfold Law_least_lc; refine Q0 ?_; refine Q1 ?_; refine Q8 hS ?_; intro p0 w1 hS; refine zn ?_; refine Q0 ?_; refine Q1 ?_; refine zb1 [_, _, _, _, _, _, _, _, _] ?_; refine zb1 [_, _, _, _, _, _, _, _, _, _, _, _] ?_; refine Q8w (cs := [_, _, _, _, _, _, _, _, _, _, _, _]) vw (by rfl) ?_; intro q1 w1 hb1 hf1 _ hk1; have hS := hS.laid hb1 hf1 hk1; refine zb1 [_, _, _, _] ?_; refine Q8w (cs := [_, _, _, _]) vw (by rfl) ?_; intro q2 w1 hb1 hf1 _ hk1; have hS := hS.laid hb1 hf1 hk1; refine zb1 [_] ?_; refine zsn hS ?_; intro w1 hS; have hS := hS.ns; refine zn ?_; refine zr ?_; refine Q18 vw (Qc (n := 1) (by kernel_rfl) (by kernel_rfl) (hS.blkAt fd) (by rfl) (by rfl)) ?_; exact ⟨_, rfl, q2, q1, rfl, hS.sp⟩)
/-- Such a module, from now on only read. -/
theorem QoC {a b : Nat} {code : List Ins} {vc : Value} (hk : insR.sl cx vc code) (hS : St cx w (blk a 31 [.int .i64 0, .slice none 0 0, .slice none 0 0, .slice (some ⟨b, 0, none⟩) 1 1] :: blk b 77 (Q5P vc) :: L)) :
    ∃ c', cx.Le c' ∧ St c' w L ∧ modR.at c' [.slice (some ⟨a, 0, none⟩) 1 1] ⟨[⟨0, [], [], [⟨0, [], code, ⟨3, 0, ⟨0, [], []⟩, ⟨0, [], []⟩, []⟩⟩]⟩]⟩ := by
  have n1 : ∀ c : Cx, intR.sl c (.slice none 0 0) [] := fun c => Rep.SR.nil _ _ _
  have n2 : ∀ c : Cx, tyR.sl c (.slice none 0 0) [] := fun c => Rep.SR.nil _ _ _
  obtain ⟨c1, hle1, hS, h1⟩ := St.freeze1 (r := blockR) (x := ⟨0, [], code, ⟨3, 0, ⟨0, [], []⟩, ⟨0, [], []⟩, []⟩⟩) hS.mv1 (Qfh (x := ⟨0, [], code, ⟨3, 0, ⟨0, [], []⟩, ⟨0, [], []⟩, []⟩⟩) (n2 _) hk (n1 _) (n1 _) (n1 _) (n1 _) (n1 _))
  obtain ⟨c2, hle2, hS, h2⟩ := St.freeze1 (r := funcR) (x := ⟨0, [], [], [⟨0, [], code, ⟨3, 0, ⟨0, [], []⟩, ⟨0, [], []⟩, []⟩⟩]⟩) hS ⟨_, _, _, rfl, n2 _, n2 _, h1⟩
  exact ⟨c2, hle1.trans hle2, hS, _, rfl, h2⟩
end Go.Proofs.Ytanlkfeogoganaa
namespace Go.Proofs.Ytanlkfeogoganaa
open Go.Lir
set_option maxHeartbeats 1000000
attribute [local irreducible] LC.wp Q3 QZ Q1g retQ Q2p LO.wp QH Calls
set_option linter.unusedSimpArgs false
set_option linter.unusedVariables false
attribute [local irreducible] hasB Q8a Q2q Q32 Q60 upTo Module.fault jIns jEnd
variable {cx : Cx} {w : World} {L : List Res} {j : JP} {h : List Bool} {vl : Value} {css : List (List Value)} {i : Nat} {m : Module}
theorem Ql4 : leastM.Short := by
  refine ⟨by decide, fun f hf => ?_⟩
  simp [leastM] at hf; subst hf
  refine ⟨⟨by decide, by simp⟩, ⟨by decide, by simp⟩, by decide, fun b hb => ?_⟩
  simp [leastB] at hb; subst hb
  exact ⟨⟨by decide, by simp⟩, by decide, by simp, ⟨by decide, by decide⟩, ⟨by decide, by decide⟩, by decide⟩
@[reducible] def insK (op : Int) : Ins := ⟨op, 0, 0, 0, 0, 0, [], []⟩
theorem Qqy (c : Cx) (op : Int) : insR.at c [.int .i64 op, .int .i64 0, .int .i64 0, .int .i64 0, .int .i64 0, .int .i64 0, .slice none 0 0, .slice none 0 0] (insK op) := ⟨_, _, rfl, Rep.SR.nil _ _ _, Rep.SR.nil _ _ _⟩
end Go.Proofs.Ytanlkfeogoganaa
namespace Go.Lir
set_option linter.unusedVariables false
/-! ### A module of the right form -/
theorem Q1P {a b : Flt} (h : (orF a b).1 = 0) : a.1 = 0 ∧ b.1 = 0 := by
  unfold orF at h
  split at h
  · rename_i hc; exact absurd h hc.2
  · rename_i hc
    refine ⟨h, ?_⟩
    exact Classical.byContradiction fun hb => hc ⟨h, hb⟩
theorem Q9T {n f b : Nat} : ∀ {l : List Ins} {i : Nat}, (QE n f b i l).1 = 0 → ∀ x ∈ l, QP n x = 0
  | [], _, _, x, hx => by cases hx
  | y :: l, i, h, x, hx => by
    rw [QE] at h
    obtain ⟨h1, h2⟩ := Q1P h
    rw [Q1F] at h1
    rcases List.mem_cons.1 hx with rfl | hx
    · exact h1
    · exact Q9T h2 x hx
theorem Q3A {n f : Nat} {x : Fun} : ∀ {l : List Block} {b0 : Nat}, (Qo n f x b0 l).1 = 0 → ∀ (b : Nat) (y : Block), l[b]? = some y → (Qv n f x (b0 + b) y).1 = 0
  | [], _, _, b, y, hy => by cases hy
  | z :: l, b0, h, b, y, hy => by
    rw [Qo] at h
    obtain ⟨h1, h2⟩ := Q1P h
    cases b with
    | zero => rw [List.getElem?_cons_zero] at hy; cases hy; exact h1
    | succ b => rw [List.getElem?_cons_succ] at hy; rw [show b0 + (b + 1) = b0 + 1 + b by omega]; exact Q3A h2 b y hy
theorem Q3f {n : Nat} : ∀ {l : List Fun} {f0 : Nat}, (QR n f0 l).1 = 0 → ∀ (f : Nat) (x : Fun), l[f]? = some x → (Q1L n (f0 + f) x).1 = 0
  | [], _, _, b, y, hy => by cases hy
  | z :: l, b0, h, b, y, hy => by
    rw [QR] at h
    obtain ⟨h1, h2⟩ := Q1P h
    cases b with
    | zero => rw [List.getElem?_cons_zero] at hy; cases hy; exact h1
    | succ b => rw [List.getElem?_cons_succ] at hy; rw [show b0 + (b + 1) = b0 + 1 + b by omega]; exact Q3f h2 b y hy
theorem QqI {m : Module} (h : m.fault.1 = 0) : 1 ≤ m.funcs.length ∧ m.funcs.length ≤ 8 := by
  have h1 := (Q1P h).1
  rw [Q1F] at h1
  split at h1
  · cases h1
  · omega
theorem Qlu {m : Module} (h : m.fault.1 = 0) {f : Nat} {x : Fun} (hx : m.funcs[f]? = some x) : Qz f x = 0 := by
  have h1 := Q3f (Q1P h).2 f x hx
  rw [Nat.zero_add] at h1
  have h2 := (Q1P h1).1
  rwa [Q1F] at h2
theorem Q8b {m : Module} (h : m.fault.1 = 0) {f b : Nat} {x : Fun} {y : Block} (hx : m.funcs[f]? = some x) (hy : x.blocks[b]? = some y) : Qm x b y = 0 ∧ (∀ i ∈ y.code, QP m.funcs.length i = 0) ∧ Q1I x.blocks.length y.fin = 0 := by
  have h1 := Q3f (Q1P h).2 f x hx
  have h2 := Q3A (Q1P h1).2 b y hy
  obtain ⟨h3, h4⟩ := Q1P h2
  obtain ⟨h5, h6⟩ := Q1P h4
  rw [Q1F] at h3 h6
  rw [Nat.zero_add] at h3
  exact ⟨h3, Q9T h5, h6⟩
theorem Q4S {x : Fun} {b : Nat} {y : Block} (h : Qm x b y = 0) : x.regs ≤ y.regs ∧ y.regs ≤ 16 ∧ Qr y.params y.regs = 0 ∧ (b = 0 → y.regs = x.regs ∧ y.params = x.params) ∧ y.code.length ≤ 40 := by
  unfold Qm at h
  split at h
  · cases h
  · rename_i h1
    split at h
    · rename_i h2; exact absurd h h2
    · rename_i h2
      split at h
      · cases h
      · rename_i h3
        split at h
        · cases h
        · refine ⟨by omega, by omega, Classical.not_not.1 h2, fun hb => ?_, by omega⟩
          refine ⟨Classical.byContradiction fun hr => h3 ⟨hb, .inl hr⟩, Classical.byContradiction fun hr => h3 ⟨hb, .inr hr⟩⟩
theorem QeX {f : Nat} {x : Fun} (h : Qz f x = 0) : 0 ≤ x.regs ∧ x.regs ≤ 6 ∧ Qr x.params x.regs = 0 ∧ Qr x.results x.regs = 0 ∧ 1 ≤ x.blocks.length ∧ x.blocks.length ≤ 12 := by
  unfold Qz at h
  split at h
  · cases h
  · rename_i h1
    split at h
    · rename_i h2; exact absurd h h2
    · rename_i h2
      split at h
      · rename_i h3; exact absurd h h3
      · rename_i h3
        split at h
        · cases h
        · exact ⟨by omega, by omega, Classical.not_not.1 h2, Classical.not_not.1 h3, by omega, by omega⟩
theorem Ql1 {l : List Ty} {r : Int} (h : Qr l r = 0) : l.length ≤ 8 := by
  unfold Qr at h
  split at h
  · cases h
  · omega
/-! ### What is renamed is short -/
theorem Ty.ren_short : ∀ (t : Ty) {to : List Int} {u : Ty}, t.Short → t.ren to = some u → u.Short := by
  intro t
  induction t using Ty.ind with
  | h k r l ih =>
    intro to u hs h
    obtain ⟨hl, hp⟩ := hs.parts
    rw [Ty.ren] at h
    split at h
    · cases h
    · split at h
      · cases h
      · rename_i m hm
        cases h
        have key : ∀ (l : List Ty) (m : List Ty), (∀ x ∈ l, x.Short ∧ ∀ {u : Ty}, x.Short → x.ren to = some u → u.Short) → Tys.ren l to = some m → m.length = l.length ∧ ∀ y ∈ m, y.Short := by
          intro l
          induction l with
          | nil => intro m _ h; rw [Tys.ren] at h; cases h; exact ⟨rfl, by simp⟩
          | cons x l ihl =>
            intro m hx h
            rw [Tys.ren] at h
            cases h1 : x.ren to with
            | none => rw [h1] at h; cases h
            | some y =>
              rw [h1] at h
              cases h2 : Tys.ren l to with
              | none => rw [h2] at h; cases h
              | some m2 =>
                rw [h2] at h
                simp only [Option.some.injEq] at h
                subst h
                obtain ⟨h3, h4⟩ := ihl m2 (fun z hz => hx z (List.mem_cons_of_mem _ hz)) h2
                refine ⟨by simp [h3], fun z hz => ?_⟩
                rcases List.mem_cons.1 hz with rfl | hz
                · obtain ⟨h5, h6⟩ := hx x (List.mem_cons_self ..); exact h6 h5 h1
                · exact h4 z hz
        obtain ⟨h3, h4⟩ := key l m (fun x hx => ⟨hp x hx, fun hs h => ih x hx hs h⟩) hm
        exact .mk (by omega) h4
theorem Ty.Short.part {t : Ty} (h : t.Short) : ∀ u ∈ t.l, u.Short := by
  obtain ⟨k, r, l⟩ := t
  exact h.parts.2
theorem Qp6 {t : Ty} {to : List Int} (h : t.Short) : (renT to t).Short := by
  unfold renT
  cases hn : t.ren to with
  | none => exact .mk (by decide) (by simp)
  | some u => exact Ty.ren_short t h hn
/-! ### What stays so -/
structure JGood (s : JS) : Prop where
  n : s.l.length ≤ 80
  h : s.h.length ≤ 16
  s : ∀ t ∈ s.l, t.Short
theorem JGood.get {s : JS} (hg : JGood s) {k : Int} {t : Ty} (h : jval s k = .ok t) : t.Short := hg.s t (List.mem_of_getElem? (Qqj h).2)
theorem JGood.put {s s' : JS} {t : Ty} (hg : JGood s) (ht : t.Short) (h : jput s t = .ok s') : JGood s' := by
  obtain ⟨h1, h2, h3⟩ := Qql h
  refine ⟨by rw [h3, List.length_append]; have := hg.n; simp only [List.length_cons, List.length_nil]; omega, by rw [h2]; exact hg.h, fun u hu => ?_⟩
  rw [h3] at hu
  rcases List.mem_append.1 hu with hu | hu
  · exact hg.s u hu
  · simp at hu; subst hu; exact ht
theorem Qex {k r : Int} : (Ty.mk k r []).Short := .mk (by decide) (by simp)
theorem Qcj {s : JS} (hg : JGood s) : ∀ {l : List Int} {ts : List Ty}, jfields s l = .ok ts → ts.length = l.length ∧ ∀ t ∈ ts, t.Short
  | [], ts, h => by rw [jfields] at h; cases h; exact ⟨rfl, by simp⟩
  | k :: l, ts, h => by
    rw [jfields] at h
    obtain ⟨t, h1, h⟩ := Qp h
    obtain ⟨us, h2, h⟩ := Qp h
    cases h
    obtain ⟨h3, h4⟩ := Qcj hg h2
    refine ⟨by simp [h3], fun u hu => ?_⟩
    rcases List.mem_cons.1 hu with rfl | hu
    · exact hg.get h1
    · exact h4 u hu
theorem jat_val {s : JS} {k kd : Int} {t : Ty} (h : jat s k kd = .ok t) : jval s k = .ok t := by have := QoJ h; exact QoD this.1 this.2.1
theorem Qqt {t u : Ty} {k : Int} (h : Q4f t k = .ok u) : t.l[k.toNat]? = some u := by
  unfold Q4f at h
  split at h
  · cases h
  · rename_i v hv; cases h; exact hv
theorem Qqn {m : Module} {f : Fun} {s s' : JS} {x : Ins} (hm : m.Short) (hg : JGood s) (hF : QP m.funcs.length x = 0) (h : jins m f s x = .ok s') : JGood s' := by
  have hop := Qiw hF
  have hst := Qqm hop h
  have hn : s'.l.length ≤ 80 := hst.len hg.n
  by_cases h3 : x.op = 3
  · rw [Qqp h3] at h
    split at h
    · cases h
    · rename_i hc
      cases h
      refine ⟨hn, by have := hg.h; simp only [List.length_append, List.length_cons, List.length_nil]; omega, fun u hu => ?_⟩
      rcases List.mem_append.1 hu with hu | hu
      · exact hg.s u hu
      · simp at hu; subst hu; exact Qex
  by_cases h4 : x.op = 4
  · rw [QoG h4] at h
    obtain ⟨t, h1, h⟩ := Qp h
    split at h
    · cases h
    · cases h; exact ⟨hn, by rw [List.length_set]; exact hg.h, hg.s⟩
  rcases op_cases (op := x.op) (by omega) (by omega) with e | e | e | e | e | e | e | e | e | e | e | e | e | e
  · rw [QoH (by omega)] at h; exact hg.put Qex h
  · rw [Qlk (by omega)] at h; obtain ⟨_, _, h⟩ := Qp h; obtain ⟨_, _, h⟩ := Qp h; exact hg.put Qex h
  · exact absurd e h3
  · exact absurd e h4
  · rw [Qqo (by omega)] at h
    unfold Qci at h
    obtain ⟨t, _, h⟩ := Qp h; obtain ⟨ts, h2, h⟩ := Qp h
    split at h
    · cases h
    · obtain ⟨h5, h6⟩ := Qcj hg h2
      have hal : x.args.length ≤ 8 := by
        unfold QP Q1H at hF
        simp [e] at hF; omega
      exact hg.put (.mk (by omega) h6) h
  · rw [Qlj (by omega)] at h; obtain ⟨t, h1, h⟩ := Qp h; obtain ⟨u, h2, h⟩ := Qp h
    exact hg.put (Ty.Short.part (hg.get (jat_val h1)) u (List.mem_of_getElem? (Qqt h2))) h
  · rw [Q3b (by omega)] at h; obtain ⟨_, _, h⟩ := Qp h; obtain ⟨_, _, h⟩ := Qp h; obtain ⟨_, _, h⟩ := Qp h
    split at h
    · cases h
    · cases h; exact hg
  · rw [Qli (by omega)] at h; obtain ⟨_, _, h⟩ := Qp h; obtain ⟨_, _, h⟩ := Qp h; exact hg.put Qex h
  · rw [Qlh (by omega)] at h; obtain ⟨_, _, h⟩ := Qp h; obtain ⟨_, _, h⟩ := Qp h; exact hg.put Qex h
  · rw [QeP (by omega)] at h; obtain ⟨_, _, h⟩ := Qp h; obtain ⟨_, _, h⟩ := Qp h; obtain ⟨_, _, h⟩ := Qp h; cases h; exact hg
  · rw [Qje (by omega)] at h; obtain ⟨_, _, h⟩ := Qp h; exact hg.put Qex h
  · rw [QoH (by omega)] at h; exact hg.put Qex h
  · rw [QmZ (by omega)] at h; obtain ⟨_, _, h⟩ := Qp h; cases h; exact hg
  · rw [QmY (by omega)] at h
    unfold QaR at h
    split at h
    · cases h
    · rename_i g hgf
      split at h
      · cases h
      · obtain ⟨_, _, h⟩ := Qp h; obtain ⟨_, _, h⟩ := Qp h
        split at h
        · cases h
        · cases h
          refine ⟨hn, hg.h, fun u hu => ?_⟩
          rcases List.mem_append.1 hu with hu | hu
          · exact hg.s u hu
          · obtain ⟨t, ht, rfl⟩ := List.mem_map.1 hu
            exact Qp6 ((hm.2 g (List.mem_of_getElem? hgf)).2.1.2 t ht)
theorem Qqw {m : Module} {f : Fun} {s : JS} {x : Ins} (hm : m.Short) (hg : JGood s) : JGood (jIns m f s x).2 := by
  by_cases h : (jIns m f s x).1 = 0
  · obtain ⟨h1, h2⟩ := jIns_ok h; exact Qqn hm hg h1 h2
  · rw [jIns_no h]; exact hg
theorem Qn3 {m : Module} (hm : m.Short) (hF : m.fault.1 = 0) {f b : Nat} {x : Fun} {y : Block} (hx : m.funcs[f]? = some x) (hy : x.blocks[b]? = some y) : JGood (Q2U y) := by
  have h1 := Q4S (Q8b hF hx hy).1
  have h2 := Ql1 h1.2.2.1
  refine ⟨by unfold Q2U; simp only; omega, by unfold Q2U; simp only [List.length_replicate]; omega, ?_⟩
  exact ((hm.2 x (List.mem_of_getElem? hx)).2.2.2 y (List.mem_of_getElem? hy)).1.2
/-! ### What was freed -/
/-! ### What is held, as a list -/
end Go.Lir
namespace Go.Lir
set_option linter.unusedVariables false
def codeOf {α : Type} (x : Except Int α) : Int := match x with
  | .error c => c
  | .ok _ => 0
section
variable {α : Type} {x : Except Int α} {v : Value}
end
def wantC (s : JS) (k kd : Int) (held : Bool) : Int := codeOf (if held then jat s k kd else Q2u s k kd)
section
variable {s : JS} {k kd : Int} {held : Bool} {t : Ty}
end
def firstC : List Int → Int
  | [] => 0
  | x :: l => if x ≠ 0 then x else firstC l
/-- What a call makes. -/
def rcall (m : Module) (s : JS) (x : Ins) : Except Int (List Ty) := match m.funcs[x.k.toNat]? with
  | none => .error 1
  | some g => if (x.regs.length : Int) ≠ g.regs then .error 2 else QF (Q31 s.h [] x.regs) fun _ => QF (QcJ s x.args g.params x.regs) fun _ => .ok (g.results.map (renT x.regs))
/-- What an instruction makes. -/
def rmk (m : Module) (f : Fun) (s : JS) (x : Ins) : Except Int (List Ty) :=
  if x.op = 1 ∨ x.op = 12 then (.ok [number])
  else if x.op = 2 then (QF (Q2u s x.a 1) fun _ => QF (Q2u s x.b 1) fun _ => .ok [number])
  else if x.op = 3 then (if s.h.length = 16 then .error 2 else .ok [.mk 2 s.h.length []])
  else if x.op = 4 then (QF (jat s x.a 2) fun t => if t.r < f.regs then .error 11 else .ok [])
  else if x.op = 5 then (QF (jat s x.a 2) fun t => QF (jfields s x.args) fun ts => if 4 < (Ty.mk 3 t.r ts).depth 4 then .error 19 else .ok [.mk 3 t.r ts])
  else if x.op = 6 then (QF (jat s x.a 3) fun t => QF (Q4f t x.k) fun u => .ok [u])
  else if x.op = 7 then (QF (jat s x.a 3) fun t => QF (Q4f t x.k) fun u => QF (jval s x.b) fun v => if u ≠ v then .error 9 else .ok [])
  else if x.op = 8 then (QF (jat s x.a 2) fun t => QF (Q2u s x.b 1) fun _ => .ok [.mk 4 t.r []])
  else if x.op = 9 then (QF (jat s x.a 4) fun _ => QF (Q2u s x.b 1) fun _ => .ok [number])
  else if x.op = 10 then (QF (jat s x.a 4) fun _ => QF (Q2u s x.b 1) fun _ => QF (Q2u s x.c 1) fun _ => .ok [])
  else if x.op = 11 then (QF (jat s x.a 4) fun _ => .ok [number])
  else if x.op = 13 then (QF (Q2u s x.a 1) fun _ => .ok [])
  else rcall m s x
section
variable {m : Module} {f : Fun} {s : JS} {x : Ins}
end
section
variable {α β γ δ : Type} {x : Except Int α} {y : Except Int β} {z : Except Int γ}
end
section
variable {s : JS} {k kd : Int}
end
section
variable {s : JS} {k kd : Int} {m : Module} {f : Fun} {x : Ins}
end
end Go.Lir
namespace Go.Lir
set_option linter.unusedVariables false
theorem Tys.wrong_all {n : Int} {fields : Nat} : ∀ {l : List Ty}, Tys.wrong fields l n = 0 ↔ ∀ t ∈ l, t.wrong fields n = 0
  | [] => by simp [Tys.wrong]
  | x :: l => by
    rw [Tys.wrong]
    constructor
    · intro h
      split at h
      · rename_i h1; exact absurd h h1
      · rename_i h1
        intro t ht
        rcases List.mem_cons.1 ht with rfl | ht
        · exact Classical.not_not.1 h1
        · exact Tys.wrong_all.1 h t ht
    · intro h
      rw [if_neg (fun hn => hn (h x (List.mem_cons_self ..)))]
      exact Tys.wrong_all.2 fun t ht => h t (List.mem_cons_of_mem _ ht)
theorem Ty.wrong_iff {k r n : Int} {l : List Ty} {fields : Nat} : (Ty.mk k r l).wrong fields n = 0 ↔ (1 ≤ k ∧ k ≤ 4) ∧ (k = 1 → r = 0) ∧ (k ≠ 3 → l.length = 0) ∧ l.length ≤ fields ∧ (k ≠ 1 → 0 ≤ r ∧ r < n) ∧ ∀ t ∈ l, t.wrong fields n = 0 := by
  rw [Ty.wrong]
  constructor
  · intro h
    split at h
    · cases h
    · rename_i h1
      split at h
      · cases h
      · rename_i h2
        split at h
        · cases h
        · rename_i h3
          split at h
          · cases h
          · exact ⟨by omega, by omega, by omega, by omega, by omega, Tys.wrong_all.1 h⟩
  · rintro ⟨h1, h2, h3, h4, h5, h6⟩
    rw [if_neg (by omega), if_neg (by omega), if_neg (by omega), if_neg (by omega)]
    exact Tys.wrong_all.2 h6
mutual
/-- What is renamed to numbers below n is right below n. -/
theorem Ty.ren_right {fields : Nat} {f : List Int} {n : Int} (hf : ∀ i : Nat, i < f.length → 0 ≤ f.getD i 0 ∧ f.getD i 0 < n) : ∀ (t : Ty), t.wrong fields f.length = 0 → ∃ u, t.ren f = some u ∧ u.wrong fields n = 0
  | .mk k r l, ht => by
    obtain ⟨h1, h2, h3, h4, h5, h6⟩ := Ty.wrong_iff.1 ht
    obtain ⟨m, hm, hml, hmw⟩ := Tys.ren_right hf l h6
    have hr : k ≠ 1 → 0 ≤ f.getD r.toNat 0 ∧ f.getD r.toNat 0 < n := fun hk => hf r.toNat (by have := h5 hk; omega)
    refine ⟨.mk k (if k ≠ 1 then f.getD r.toNat 0 else r) m, ?_, ?_⟩
    · rw [Ty.ren, if_neg (by rintro ⟨hk, hb⟩; have := h5 hk; have := hr hk; omega), hm]
    · refine Ty.wrong_iff.2 ⟨h1, fun hk => by rw [if_neg (by omega)]; exact h2 hk, fun hk => by rw [hml]; exact h3 hk, by omega, fun hk => by rw [if_pos hk]; exact hr hk, hmw⟩
theorem Tys.ren_right {fields : Nat} {f : List Int} {n : Int} (hf : ∀ i : Nat, i < f.length → 0 ≤ f.getD i 0 ∧ f.getD i 0 < n) : ∀ (l : List Ty), (∀ t ∈ l, t.wrong fields f.length = 0) → ∃ m, Tys.ren l f = some m ∧ m.length = l.length ∧ ∀ u ∈ m, u.wrong fields n = 0
  | [], _ => ⟨[], by rw [Tys.ren], rfl, by simp⟩
  | x :: l, h => by
    obtain ⟨y, h1, h2⟩ := Ty.ren_right hf x (h x (List.mem_cons_self ..))
    obtain ⟨m, h3, h4, h5⟩ := Tys.ren_right hf l (fun t ht => h t (List.mem_cons_of_mem _ ht))
    refine ⟨y :: m, by rw [Tys.ren, h1, h3], by simp [h4], fun u hu => ?_⟩
    rcases List.mem_cons.1 hu with rfl | hu
    · exact h2
    · exact h5 u hu
end
/-- What stays true of what is known. -/
structure JInv (m : Module) (f : Fun) (z : JS) : Prop extends JGood z where
  wf : ∀ t ∈ z.l, t.wrong 8 z.h.length = 0
  keep : ∀ r : Int, 0 ≤ r → r < f.regs → hasB z.h r = true
theorem hasB_rng {h : List Bool} {r : Int} (hr : hasB h r = true) : 0 ≤ r ∧ r < h.length := by have := Qji hr; omega
theorem JInv.at {m : Module} {f : Fun} {s : JS} (hg : JInv m f s) {k kd : Int} {t : Ty} (h : jat s k kd = .ok t) : t.wrong 8 s.h.length = 0 ∧ 0 ≤ t.r ∧ t.r < s.h.length ∧ t ∈ s.l := by
  have h1 := QoJ h
  have h2 := hasB_rng h1.2.2.2
  exact ⟨hg.wf _ (List.mem_of_getElem? h1.2.1), h2.1, h2.2, List.mem_of_getElem? h1.2.1⟩
/-! ### What is left held -/
/-! ### By what it makes -/
section
variable {m : Module} {f : Fun} {s : JS} {x : Ins} {ts : List Ty}
end
/-! ### A whole module -/
theorem mod_fb {m : Module} {f : Nat} {x : Fun} (hF : m.fault.1 = 0) (hx : m.funcs[f]? = some x) : ∀ b ∈ x.blocks, x.regs ≤ b.regs := by
  intro b hb
  obtain ⟨k, hk⟩ := List.mem_iff_getElem?.1 hb
  exact (Q4S (Q8b hF hx hk).1).1
def QB (m : Module) (f : Fun) (fi bi : Nat) (e : Tail) : Nat → JS → List Ins → Flt
  | _, s, [] => mkF (jEnd f s e) (Q6G fi bi)
  | i, s, x :: l => if (jIns m f s x).1 ≠ 0 then ((jIns m f s x).1, Q4l fi bi i) else QB m f fi bi e (i + 1) (jIns m f s x).2 l
def Qk (m : Module) (f : Fun) (fi : Nat) : Nat → List Block → Flt
  | _, [] => (0, 0)
  | b, y :: l => orF (QB m f fi b y.fin 0 (Q2U y) y.code) (Qk m f fi (b + 1) l)
def QV (m : Module) : Nat → List Fun → Flt
  | _, [] => (0, 0)
  | f, x :: l => orF (Qk m x f 0 x.blocks) (QV m (f + 1) l)
/-- verify.Check -/
def Module.runs (m : Module) : Flt := orF m.fault (QV m 0 m.funcs)
theorem Q5Y {m : Module} {f : Fun} {fi bi : Nat} {e : Tail} : ∀ {l : List Ins} {i : Nat} {s : JS}, (QB m f fi bi e i s l).1 = 0 → QB m f fi bi e i s l = (0, 0)
  | [], _, _, h => by rw [QB] at h ⊢; exact Qao _ _ h
  | x :: l, i, s, h => by
    rw [QB] at h ⊢
    split at h
    · rename_i hn; exact absurd h hn
    · rename_i hn; rw [if_neg hn]; exact Q5Y h
theorem Q2Y {m : Module} {f : Fun} {fi : Nat} : ∀ {l : List Block} {b : Nat}, (Qk m f fi b l).1 = 0 → Qk m f fi b l = (0, 0)
  | [], _, _ => by rw [Qk]
  | x :: l, b, h => by rw [Qk] at h ⊢; exact QgP Q5Y Q2Y h
theorem Q9x {m : Module} : ∀ {l : List Fun} {f : Nat}, (QV m f l).1 = 0 → QV m f l = (0, 0)
  | [], _, _ => by rw [QV]
  | x :: l, b, h => by rw [QV] at h ⊢; exact QgP Q2Y Q9x h
section
variable {m : Module} {f : Fun} {fi bi i b : Nat} {e : Tail} {s : JS} {x : Ins} {l : List Ins} {y : Block} {k : List Block}
theorem Q4R (h : (jIns m f s x).1 = 0) : QB m f fi bi e i s (x :: l) = QB m f fi bi e (i + 1) (jIns m f s x).2 l := by rw [QB, if_neg (fun hn => hn h)]
theorem Q9X (h : (jIns m f s x).1 ≠ 0) : QB m f fi bi e i s (x :: l) = ((jIns m f s x).1, Q4l fi bi i) := by rw [QB, if_pos h]
theorem Qhb (h : (QB m f fi b y.fin 0 (Q2U y) y.code).1 = 0) : Qk m f fi b (y :: k) = Qk m f fi (b + 1) k := by
  rw [Qk, Q5Y h]; exact Q1E Q2Y
theorem Qha (h : (QB m f fi b y.fin 0 (Q2U y) y.code).1 ≠ 0) : Qk m f fi b (y :: k) = QB m f fi b y.fin 0 (Q2U y) y.code := by
  rw [Qk, Q3Y h]
theorem Qls {k : List Fun} (h : (Qk m f fi 0 f.blocks).1 = 0) : QV m fi (f :: k) = QV m (fi + 1) k := by
  rw [QV, Q2Y h]; exact Q1E Q9x
theorem Qlr {k : List Fun} (h : (Qk m f fi 0 f.blocks).1 ≠ 0) : QV m fi (f :: k) = Qk m f fi 0 f.blocks := by
  rw [QV, Q3Y h]
theorem QlU (h : l.length ≤ i) : QB m f fi bi e i s (l.drop i) = mkF (jEnd f s e) (Q6G fi bi) := by rw [List.drop_of_length_le h, QB]
theorem runs_at {E : Flt} {q : Nat} (hd : m.runs = QV m q (m.funcs.drop q)) (hf : m.funcs[q]? = some f) (hdb : Qk m f q 0 f.blocks = Qk m f q b (f.blocks.drop b)) (hy : f.blocks[b]? = some y) (h0 : QB m f q b y.fin 0 (Q2U y) y.code = E) (hE : E.1 ≠ 0) : m.runs = E := by
  have h1 : Qk m f q 0 f.blocks = E := by rw [hdb, Q7 hy, Qha (by rw [h0]; exact hE), h0]
  rw [hd, Q7 hf, Qlr (by rw [h1]; exact hE), h1]
theorem runs_b {q : Nat} (hdb : Qk m f q 0 f.blocks = Qk m f q b (f.blocks.drop b)) (hy : f.blocks[b]? = some y) (h0 : (QB m f q b y.fin 0 (Q2U y) y.code).1 = 0) : Qk m f q 0 f.blocks = Qk m f q (b + 1) (f.blocks.drop (b + 1)) := by
  rw [hdb, Q7 hy, Qhb h0]
theorem runs_f {q : Nat} (hd : m.runs = QV m q (m.funcs.drop q)) (hf : m.funcs[q]? = some f) (hdb : Qk m f q 0 f.blocks = Qk m f q b (f.blocks.drop b)) (hb : f.blocks.length ≤ b) : m.runs = QV m (q + 1) (m.funcs.drop (q + 1)) := by
  rw [hd, Q7 hf, Qls (by rw [hdb, List.drop_of_length_le hb, Qk])]
theorem runs_z {q : Nat} (hd : m.runs = QV m q (m.funcs.drop q)) (hq : m.funcs.length ≤ q) : m.runs = (0, 0) := by
  rw [hd, List.drop_of_length_le hq, QV]
theorem QpX (h : m.fault.1 ≠ 0) : m.runs = m.fault := by unfold Module.runs; exact Q3Y h
theorem QmM (h : m.fault.1 = 0) : m.runs = QV m 0 m.funcs := by unfold Module.runs; rw [Module.fault_z h]; exact Q1E Q9x
end
end Go.Lir
namespace Go.Proofs.Ytanlkfeogoganaa
open Go.Lir
set_option maxHeartbeats 1000000
attribute [local irreducible] LC.wp Q3 QZ Q1g retQ Q2p LO.wp QH Calls
set_option linter.unusedSimpArgs false
set_option linter.unusedVariables false
attribute [local irreducible] hasB Q8a Q2q Q32 Q60 upTo wantC firstC rmk jIns jEnd Module.fault Q4l Q6G
variable {cx : Cx} {w : World} {L : List Res} {j : JP} {h : List Bool} {vl : Value} {css : List (List Value)} {i : Nat} {m : Module}
theorem jNewOk_c {f b : Nat} {fn : Fun} {y : Block} {cs : List Value} (hm : m.Short) (hF : m.fault.1 = 0) (hfn : m.funcs[f]? = some fn) (hy : fn.blocks[b]? = some y) (hx : modR.at cx cs m) (hS : St cx w L) :
    Rets Try.prog Q3u [.agg ⟨cs⟩, .int .i64 f, .int .i64 b] w fun u w' => ∃ (j : JP) (c' : Cx) (vl : Value) (css : List (List Value)), u = .tuple #[.pointer (some ⟨j.sp, 0, none⟩), fltV (0, 0)] ∧ cx.Le c' ∧ j.Fits c' m ∧ j.f = fn ∧ tyR.ls c' css y.params ∧ St c' w' (j.res (Q2U y).h vl css :: L) := by
  refine (jNew_c hm hx hS).mono ?_
  have h1 := (List.getElem?_eq_some_iff.1 hfn).1
  have h2 := (List.getElem?_eq_some_iff.1 hy).1
  rintro u w' (⟨h0, -⟩ | ⟨-, h9, -⟩ | ⟨fn', y', j, c2, vl, css, -, -, -, hf', hy', rfl, hle, hj, jf, hls, hS⟩)
  · exact absurd hF h0
  · exfalso
    rcases h9 with (h | h) | ⟨fn', hf', h⟩
    · omega
    · omega
    · rw [Int.toNat_natCast] at hf'
      obtain rfl : fn = fn' := Option.some.inj (hfn.symm.trans hf')
      omega
  · rw [Int.toNat_natCast] at hf' hy'
    obtain rfl : fn = fn' := Option.some.inj (hfn.symm.trans hf')
    obtain rfl : y = y' := Option.some.inj (hy.symm.trans hy')
    exact ⟨j, c2, vl, css, rfl, hle, hj, jf, hls, hS⟩
theorem vblock_c {q b : Nat} {fn : Fun} {y : Block} {cs : List Value} (hm : m.Short) (hF : m.fault.1 = 0) (hfn : m.funcs[q]? = some fn) (hy : fn.blocks[b]? = some y) (hx : modR.at cx cs m) (hS : St cx w L) :
    Rets Try.prog Q2z [.agg ⟨cs⟩, .int .i64 q, .int .i64 b] w fun u w' => u = fltV (QB m fn q b y.fin 0 (Q2U y) y.code) ∧ St cx w' L := by
  have hx' := hx
  obtain ⟨vf, rfl, hf1⟩ := Q29 hx
  have hle := St.refl hS
  have hsf := hm.2 fn (List.mem_of_getElem? hfn)
  have hfb := mod_fb hF hfn
  have hfh := QeX (Qlu hF hfn)
  have hg0 := Qn3 hm hF hfn hy
  have hlc := (hsf.2.2.2 y (List.mem_of_getElem? hy)).2.1
  have hq1 := (List.getElem?_eq_some_iff.1 hfn).1
  have hq2 := hm.1
  have hb1 := (List.getElem?_eq_some_iff.1 hy).1
  all_goals refine QdR ?_
  all_goals (unfold verify_block_lc; refine Q0 ?_; refine Q1 ?_; refine zb hS ?_; intro p3 w1 hS; refine Q8 hS ?_; intro p6 w1 hS; refine zn ?_; refine Q0 ?_; refine Q1 ?_; refine zv hS ?_; refine zm ?_; refine zm ?_)
  all_goals (refine zR3 (c := jNewOk_c hm hF hfn hy hx' hS) (h := ?_); rintro v1 w1 ⟨j, c2, vl, css, rfl, hle2, hj, hjf, hls, hS⟩; (try have hle := hle.trans hle2); (try have hf1 := hf1.up hle2); unfold fltV; subst hjf)
  all_goals (refine zm ?_; refine QcG rfl rfl ?_; refine QcG rfl rfl ?_; refine Q8 hS ?_; intro p8 w1 hS; refine zm ?_; refine zsn hS ?_; intro w1 hS; have hS := hS.ns; refine zn ?_; refine Q0 ?_; refine Q1 ?_; refine Q2 rfl ?_; refine zl hS ?_; refine zm ?_; refine zi ?_; intro b1 o1 cs1 x1 hat1 hx1 he1; obtain ⟨vp1, vr1, vb1, rfl, hp1, hr1, hb1⟩ := Q17 he1; obtain rfl : j.f = x1 := Option.some.inj (hfn.symm.trans hx1); (first | refine Q2 rfl ?_ | refine Q1A rfl ?_); (first | (refine zl hS ?_) | (refine zlk hS ?_) | (refine zlj hS ?_)); refine zm ?_; refine zi ?_; intro b2 o2 cs2 x2 hat2 hx2 he2; obtain ⟨vp2, vc2, ve21, ve22, ve23, ve24, ve25, rfl, hp2, hc2, he21, he22, he23, he24, he25⟩ := Q2C he2; (first | (refine zv hS ?_) | (refine zvk hS ?_)); refine Q8 hS ?_; intro p9 w1 hS; refine zsn hS ?_; intro w1 hS; have hS := hS.ns; refine zn ?_; obtain rfl : y = x2 := Option.some.inj (hy.symm.trans hx2); refine Q0 ?_; refine Q0 ?_; refine Q1 ?_; refine Q2 rfl ?_; refine zl hS ?_; refine zL ?_)
  all_goals (refine zm ?_; refine zn ?_; refine Qb ?_)
  refine zo [1, 2, 6, 7, 9, 31, 32] (fun A ρ' w' => ∃ (k0 : Cx) (i : Nat) (s : JS) (vl : Value) (css : List (List Value)), Has ρ' A ∧ Has ρ' [(33, .int .i64 i)] ∧ (c2.Le k0) ∧ (i ≤ y.code.length) ∧ (QB m j.f q b y.fin 0 (Q2U y) y.code = QB m j.f q b y.fin i s (y.code.drop i)) ∧ (j.Fits k0 m) ∧ (tyR.ls k0 css s.l) ∧ (JGood s) ∧ St k0 w' (blk p9 77 [.int .i64 y.regs, vp2, vc2, .int .i64 y.fin.op, .int .i64 y.fin.a, .int .i64 y.fin.yes.block, ve21, ve22, .int .i64 y.fin.no.block, ve23, ve24, ve25] :: j.res s.h vl css :: blk p6 47 [.int .i64 0, .int .i64 0] :: L)) (fun ρ' _ => (y.code.length - iv (ρ' 33)).toNat) ?_ ?_
  · exact ⟨c2, 0, Q2U y, vl, css, zh, zh, St.refl hS, (by omega), by rfl, hj, hls, hg0, hS.sp⟩
  rintro ρ w1 ⟨k0, i, s, vl, css, hA, hρ, hle2, hi, hdi, hj, hls, hg, hS⟩; obtain ⟨ρ, rfl⟩ := env2 hA hρ; have hL0 := hle2; (try have hle := hle.trans hle2); (try have hp1 := hp1.up hle2); (try have hr1 := hr1.up hle2); (try have hb1 := hb1.up hle2); (try have hp2 := hp2.up hle2); (try have hc2 := hc2.up hle2); (try have he21 := he21.up hle2); (try have he22 := he22.up hle2); (try have he23 := he23.up hle2); (try have he24 := he24.up hle2); (try have he25 := he25.up hle2); (try have he1 := he1.up hle2); (try have he2 := he2.up hle2); (try have hf1 := hf1.up hle2)
  unfold Q57
  all_goals (refine Q0 ?_; refine Q1 ?_; refine QC rfl rfl ?_; refine zn ?_; refine Q0 ?_)
  refine Qy rfl (fun hc => ?_) (fun hc => ?_)
  · skip
    all_goals (refine zsk ?_; refine Q0 ?_; refine Qb ?_; refine Q0 ?_; refine Q1 ?_; refine zm ?_; refine zi ?_; intro b3 o3 cs3 x3 hat3 hx3 he3; obtain ⟨vr3, va3, rfl, hr3, ha3⟩ := Q1Q he3; (first | (refine zv hS ?_) | (refine zvk hS ?_)); refine Q8 hS ?_; intro p11 w1 hS; refine zm ?_; refine zsn hS ?_; intro w1 hS; have hS := hS.ns; refine zn ?_; refine Q0 ?_; refine Q1 ?_; refine zm ?_; refine zv hS ?_)
    all_goals (refine zR2 (c := jIns_c (s := s) (x := x3) hm hg.n hg.h hj he3 hls hS fd) (h := ?_); rintro v1 w1 ⟨rfl, c4, vl4, css4, hle2, hls4, hS⟩; have hS := hS.ns; (try have hle := hle.trans hle2); (try have hL0 := hL0.trans hle2); (try have hp1 := hp1.up hle2); (try have hr1 := hr1.up hle2); (try have hb1 := hb1.up hle2); (try have hp2 := hp2.up hle2); (try have hc2 := hc2.up hle2); (try have he21 := he21.up hle2); (try have he22 := he22.up hle2); (try have he23 := he23.up hle2); (try have he24 := he24.up hle2); (try have he25 := he25.up hle2); (try have hr3 := hr3.up hle2); (try have ha3 := ha3.up hle2); (try have he1 := he1.up hle2); (try have he2 := he2.up hle2); (try have he3 := he3.up hle2); (try have hls := hls.up hle2); (try have hf1 := hf1.up hle2); have hj := hj.up hle2; have hg1 := Qqw (f := j.f) (x := x3) hm hg; obtain ⟨s1, hs1⟩ : ∃ s1, (jIns m j.f s x3).2 = s1 := ⟨_, rfl⟩; rw [hs1] at hls4 hS hg1)
    all_goals (refine zm ?_; refine zn ?_; refine Q0 ?_; refine Q1 ?_; refine zm ?_)
    all_goals (first | (refine Q1h ?_) | (refine Q1i ?_) | (refine Qw rfl rfl (fun hc => ?_) (fun hc => ?_)))
    all_goals (refine zn ?_)
    all_goals
      first
      | (refine Q5 rfl ?_ -- Q2z c1
         all_goals (refine Q0 ?_; refine Q1 ?_; refine zm ?_; refine zm ?_; refine zm ?_; refine zm ?_; refine zR3 (c := Qox q b i (by omega) (by omega) (by omega) hS) (h := ?_); rintro v1 w1 ⟨rfl, hS⟩; refine zb2 [_, _] ?_; refine zsn hS ?_; intro w1 hS; have hS := hS.ns; refine zn ?_; have hJ : QB m j.f q b y.fin 0 (Q2U y) y.code = ((jIns m j.f s x3).1, Q4l q b i) := (by rw [hdi, Q7 hx3, Q9X (by omega)]); refine zr ?_; refine Q18 vw (Qc (n := 2) (by kernel_rfl) (by kernel_rfl) (hS.blkAt fd) (by rfl) (by rfl)) ?_)
         all_goals (exact ⟨_, rfl, by rw [hJ]; rfl, St.weak hS.sp hle⟩))
      | (refine Q6 rfl ?_ -- Q2z c1
         all_goals refine zsk ?_)
    all_goals (refine Q1 ?_; refine zad ?_; refine zm ?_; refine zn ?_; exact ⟨⟨_, i + 1, s1, vl4, css4, zh, zh, hL0, (by omega), by rw [hdi, Q7 hx3, Q4R (by omega), hs1], hj, hls4, hg1, hS.sp⟩, Qx (by omega)⟩)
  · skip
    all_goals (refine zex ?_; refine Q0 ?_; refine Q0 ?_; refine Q1 ?_; refine zm ?_; refine Q2 rfl ?_; refine zv hS ?_; refine zR2 (c := jEnd_c (s := s) (x := y.fin) hsf hfb (by omega) hg.h hj ⟨_, _, _, _, _, rfl, he21, he22, he23, he24, he25⟩ hls hS fd) (h := ?_); rintro v1 w1 ⟨rfl, hS⟩; have hde := QlU (m := m) (f := j.f) (fi := q) (bi := b) (e := y.fin) (s := s) (i := i) (l := y.code) (by omega); refine zm ?_; refine zn ?_; refine Q0 ?_; refine Q1 ?_; refine zm ?_)
    all_goals (first | (refine Q1h ?_) | (refine Q1i ?_) | (refine Qw rfl rfl (fun hc => ?_) (fun hc => ?_)))
    all_goals (refine zn ?_)
    all_goals
      first
      | (refine Q5 rfl ?_ -- Q2z c2
         all_goals (refine Q0 ?_; refine Q1 ?_; refine zm ?_; refine zm ?_; refine zm ?_; refine zR2 (c := Qoy q b (by omega) (by omega) hS) (h := ?_); rintro v1 w1 ⟨rfl, hS⟩; refine zb2 [_, _] ?_; refine zsn hS ?_; intro w1 hS; have hS := hS.ns; refine zn ?_; have hJ := hdi.trans (hde.trans (Q5q (by omega))); refine zr ?_; refine Q18 vw (Qc (n := 2) (by kernel_rfl) (by kernel_rfl) (hS.blkAt fd) (by rfl) (by rfl)) ?_)
         all_goals (exact ⟨_, rfl, by rw [hJ]; rfl, St.weak hS.sp hle⟩))
      | (refine Q6 rfl ?_ -- Q2z c2
         all_goals refine zsk ?_)
    all_goals (refine Q0 ?_; refine Q1 ?_; refine zb0 [_, _] ?_; refine zsn hS ?_; intro w1 hS; have hS := hS.ns; refine zn ?_; have hJ := hdi.trans (hde.trans (Qao _ _ (by rw [Q1F]; omega))); refine zr ?_; refine Q18 vw (Qc (n := 2) (by kernel_rfl) (by kernel_rfl) (hS.blkAt fd) (by rfl) (by rfl)) ?_; exact ⟨_, rfl, by rw [hJ]; rfl, St.weak hS.sp hle⟩)
theorem Qdy {cs : List Value} (hm : m.Short) (hx : modR.at cx cs m) (hS : St cx w L) :
    Rets Try.prog Q2A [.agg ⟨cs⟩] w fun u w' => u = fltV m.runs ∧ St cx w' L := by
  have hx' := hx
  obtain ⟨vf, rfl, hf1⟩ := Q29 hx
  have hlf := hf1.len
  all_goals refine Qe2 ?_
  all_goals (unfold verify_Check_lc; refine Q0 ?_; refine Q1 ?_; refine zb hS ?_; intro p1 w1 hS; refine Q8 hS ?_; intro p2 w1 hS; refine zn ?_; refine Q0 ?_; refine Q0 ?_; refine Q1 ?_; refine zv hS ?_; refine zR1 (c := Qow hm hx' hS) (h := ?_); rintro v1 w1 ⟨rfl, hS⟩; unfold fltV; refine Q8 hS ?_; intro p3 w1 hS; refine zsn hS ?_; intro w1 hS; have hS := hS.ns; refine zn ?_; refine Q0 ?_; refine Q1 ?_; refine Q2 rfl ?_; refine zl hS ?_)
  all_goals (first | (refine Q1h ?_) | (refine Q1i ?_) | (refine Qw rfl rfl (fun hc => ?_) (fun hc => ?_)))
  all_goals (refine zn ?_)
  all_goals
    first
    | (refine Q5 rfl ?_ -- Q2A c0
       all_goals (refine Q0 ?_; refine Q1 ?_; refine zv hS ?_; refine zsn hS ?_; intro w1 hS; have hS := hS.ns; refine zn ?_; have hJ := QpX (m := m) (by omega); refine zr ?_; refine Q18 vw (Qc (n := 2) (by kernel_rfl) (by kernel_rfl) (hS.blkAt fd) (by rfl) (by rfl)) ?_)
       all_goals (exact ⟨_, rfl, by rw [hJ]; rfl, hS.sp⟩))
    | (refine Q6 rfl ?_ -- Q2A c0
       all_goals refine zsk ?_)
  all_goals (refine Q0 ?_; refine Q0 ?_; have hF : m.fault.1 = 0 := (by omega); have hr0 := QmM hF; have hlf8 := hm.1; refine Q1 ?_; refine Q2 rfl ?_; refine zl hS ?_; refine zL ?_; refine zm ?_; refine zn ?_; refine Qb ?_)
  refine zoL hS [1, 2, 15, 16] (fun A LL ρ' w' => ∃ (q : Nat), Has ρ' A ∧ Has ρ' [(17, .int .i64 q)] ∧ (q ≤ m.funcs.length) ∧ (m.runs = QV m q (m.funcs.drop q)) ∧ St cx w' (LL)) (fun ρ' _ => (m.funcs.length - iv (ρ' 17)).toNat) ?_ ?_
  · exact ⟨0, zh, zh, (by omega), by rw [hr0]; rfl, hS.sp⟩
  rintro ρ w1 ⟨q, hA, hρ, hq, hd, hS⟩; obtain ⟨ρ, rfl⟩ := env2 hA hρ
  unfold Q59
  all_goals (refine Q0 ?_; refine Q1 ?_; refine QC rfl rfl ?_; refine zn ?_; refine Q0 ?_)
  refine Qy rfl (fun hc => ?_) (fun hc => ?_)
  · skip
    all_goals (refine zsk ?_; refine Q0 ?_; refine Qb ?_; refine Q0 ?_; refine Q1 ?_; refine zm ?_; refine zi ?_; intro b1 o1 cs1 x1 hat1 hx1 he1; obtain ⟨vp1, vr1, vb1, rfl, hp1, hr1, hb1⟩ := Q17 he1; (first | (refine zv hS ?_) | (refine zvk hS ?_)); refine Q8 hS ?_; intro p5 w1 hS; refine zm ?_; refine zsn hS ?_; intro w1 hS; have hS := hS.ns; refine zn ?_; have hsf := hm.2 x1 (List.mem_of_getElem? hx1); have hbl := hsf.2.2.1; refine Q0 ?_; refine Q1 ?_; refine Q2 rfl ?_; refine zl hS ?_; refine zL ?_; refine zm ?_; refine zn ?_; refine Qb ?_)
    refine zoL hS [1, 2, 4, 15, 16, 17, 24] (fun A LL ρ' w' => ∃ (b : Nat), Has ρ' A ∧ Has ρ' [(25, .int .i64 b)] ∧ (b ≤ x1.blocks.length) ∧ (Qk m x1 q 0 x1.blocks = Qk m x1 q b (x1.blocks.drop b)) ∧ St cx w' (LL)) (fun ρ' _ => (x1.blocks.length - iv (ρ' 25)).toNat) ?_ ?_
    · exact ⟨0, zh, zh, (by omega), by rfl, hS.sp⟩
    rintro ρ w1 ⟨b, hA, hρ, hb, hdb, hS⟩; obtain ⟨ρ, rfl⟩ := env2 hA hρ
    unfold Q58
    all_goals (refine Q0 ?_; refine Q1 ?_; refine QC rfl rfl ?_; refine zn ?_; refine Q0 ?_)
    refine Qy rfl (fun hc => ?_) (fun hc => ?_)
    · skip
      all_goals (refine zsk ?_; refine Q0 ?_; refine Qb ?_; refine Q0 ?_; obtain ⟨y, hy⟩ : ∃ y, x1.blocks[b]? = some y := ⟨_, List.getElem?_eq_getElem (by omega)⟩; refine Q1 ?_; refine zm ?_; refine zm ?_; refine zn ?_; refine Q0 ?_; refine Q1 ?_; refine zv hS ?_; refine zm ?_; refine zm ?_; refine zR3 (c := vblock_c hm hF hx1 hy hx' hS) (h := ?_); rintro v1 w1 ⟨rfl, hS⟩; unfold fltV; refine Q8 hS ?_; intro p7 w1 hS; refine zsn hS ?_; intro w1 hS; have hS := hS.ns; refine zn ?_; refine Q0 ?_; refine Q1 ?_; refine Q2 rfl ?_; refine zl hS ?_)
      all_goals (first | (refine Q1h ?_) | (refine Q1i ?_) | (refine Qw rfl rfl (fun hc => ?_) (fun hc => ?_)))
      all_goals (refine zn ?_)
      all_goals
        first
        | (refine Q5 rfl ?_ -- Q2A c3
           all_goals (refine Q0 ?_; refine Q1 ?_; refine zv hS ?_; refine zsn hS ?_; intro w1 hS; have hS := hS.ns; refine zn ?_; have hJ := runs_at hd hx1 hdb hy rfl (by omega); refine zr ?_; refine Q18 vw (Qc (n := 2) (by kernel_rfl) (by kernel_rfl) (hS.blkAt fd) (by rfl) (by rfl)) ?_)
           all_goals (exact ⟨_, rfl, by rw [hJ]; rfl, hS.sp⟩))
        | (refine Q6 rfl ?_ -- Q2A c3
           all_goals refine zsk ?_)
      all_goals (refine Q1 ?_; refine zad ?_; refine zm ?_; refine zn ?_; exact ⟨⟨b + 1, zh, zh, (by omega), runs_b hdb hy (by omega), hS.sp⟩, Qx (by omega)⟩)
    · skip
      all_goals (refine zex ?_; refine Q1 ?_; refine zad ?_; refine zm ?_; refine zn ?_; exact ⟨⟨q + 1, zh, zh, (by omega), runs_f hd hx1 hdb (by omega), hS.sp⟩, Qx (by omega)⟩)
  · skip
    all_goals (refine zex ?_; refine Q0 ?_; refine Q1 ?_; refine zb0 [_, _] ?_; refine zsn hS ?_; intro w1 hS; have hS := hS.ns; refine zn ?_; have hJ := runs_z hd (by omega); refine zr ?_; refine Q18 vw (Qc (n := 2) (by kernel_rfl) (by kernel_rfl) (hS.blkAt fd) (by rfl) (by rfl)) ?_; exact ⟨_, rfl, by rw [hJ]; rfl, hS.sp⟩)
def modVI : List Ins := [insK 3, ⟨1, 0, 0, 0, 0, 1, [], []⟩, ⟨5, 0, 0, 0, 0, 0, [], [1]⟩, insK 4, ⟨6, 2, 0, 0, 0, 0, [], []⟩]
def modV : Module := ⟨[⟨0, [], [], [⟨0, [], modVI, ⟨3, 0, ⟨0, [], []⟩, ⟨0, [], []⟩, []⟩⟩]⟩]⟩
theorem Qpa : modV.Short := by
  refine ⟨by decide, fun f hf => ?_⟩
  simp [modV] at hf; subst hf
  refine ⟨⟨by decide, by simp⟩, ⟨by decide, by simp⟩, by decide, fun b hb => ?_⟩
  simp at hb; subst hb
  refine ⟨⟨by decide, by simp⟩, by decide, fun i hi => ?_, ⟨by decide, by decide⟩, ⟨by decide, by decide⟩, by decide⟩
  simp [modVI] at hi
  rcases hi with rfl | rfl | rfl | rfl | rfl <;> exact ⟨by decide, by decide⟩
theorem QiK (hS : St cx w L) : Rets Try.prog Q5M [] w fun u w' => u = .bool true ∧ St cx w' L := by
  have e1 : leastM.runs = (0, 0) := by decide +kernel
  have e2 : modV.runs = (10, 4) := by decide +kernel
  have n0 : ∀ c : Cx, insR.sl c (.slice none 0 0) [] := fun c => Rep.SR.nil _ _ _
  have n1 : ∀ c : Cx, intR.sl c (.slice none 0 0) [] := fun c => Rep.SR.nil _ _ _
  all_goals refine Qa7 ?_
  all_goals (unfold Law_verifyBegun_lc; refine Q0 ?_; refine Q1 ?_; refine zm ?_; refine zn ?_; refine Q0 ?_; refine Q1 ?_; refine zR0 (c := Qqi hS) (h := ?_); rintro v1 w1 ⟨la, lb, rfl, hS⟩; simp only [Q5P] at hS; refine Q8 hS ?_; intro p1 w1 hS; refine zsn hS ?_; intro w1 hS; have hS := hS.ns; refine zn ?_; refine Q0 ?_; refine Q1 ?_; refine Q2 rfl ?_; refine zl hS ?_; refine s_idx rfl rfl (by decide) (by decide) ?_; refine Q2 rfl ?_; refine zl hS ?_; refine zb1 [_, _, _, _, _, _, _, _] ?_; refine zb2 [_, _, _, _, _, _, _, _] ?_; refine Q8w (cs := [_]) vw (by rfl) ?_; intro ab w1 hb1 hf1 _ hk1; have hS := hS.laid hb1 hf1 hk1; refine zb2 [_, _, _, _, _, _, _, _] ?_; refine zb1 [_, _, _, _, _, _, _, _] ?_; refine zb2 [_, _, _, _, _, _, _, _] ?_; refine QpV (cs := [_, _, _, _, _, _, _, _, _, _, _, _, _, _, _, _, _, _, _, _, _, _, _, _, _, _, _, _, _, _, _, _, _, _, _, _, _, _, _, _]) vw vw vw vw vw (by rfl) ?_; intro cb w1 hb1 hf1 _ hk1; have hS := hS.laid hb1 hf1 hk1; refine s_idx rfl rfl (by decide) (by decide) ?_; refine Q2 rfl ?_; refine zst hS ?_; intro w1 hS; have hS := hS.ns; refine zn ?_; have hS := St.slOf (es := 8) (n := 5) (css := [[.int .i64 3, .int .i64 0, .int .i64 0, .int .i64 0, .int .i64 0, .int .i64 0, .slice none 0 0, .slice none 0 0], [.int .i64 1, .int .i64 0, .int .i64 0, .int .i64 0, .int .i64 0, .int .i64 1, .slice none 0 0, .slice none 0 0], [.int .i64 5, .int .i64 0, .int .i64 0, .int .i64 0, .int .i64 0, .int .i64 0, .slice none 0 0, .slice (some ⟨ab, 0, none⟩) 1 1], [.int .i64 4, .int .i64 0, .int .i64 0, .int .i64 0, .int .i64 0, .int .i64 0, .slice none 0 0, .slice none 0 0], [.int .i64 6, .int .i64 2, .int .i64 0, .int .i64 0, .int .i64 0, .int .i64 0, .slice none 0 0, .slice none 0 0]]) hS rfl (by simp) rfl; have hS : St cx _ (blk ab 3 [.int .i64 1] :: sl 27 8 (.slice (some ⟨cb, 0, none⟩) 5 5) [[.int .i64 3, .int .i64 0, .int .i64 0, .int .i64 0, .int .i64 0, .int .i64 0, .slice none 0 0, .slice none 0 0], [.int .i64 1, .int .i64 0, .int .i64 0, .int .i64 0, .int .i64 0, .int .i64 1, .slice none 0 0, .slice none 0 0], [.int .i64 5, .int .i64 0, .int .i64 0, .int .i64 0, .int .i64 0, .int .i64 0, .slice none 0 0, .slice (some ⟨ab, 0, none⟩) 1 1], [.int .i64 4, .int .i64 0, .int .i64 0, .int .i64 0, .int .i64 0, .int .i64 0, .slice none 0 0, .slice none 0 0], [.int .i64 6, .int .i64 2, .int .i64 0, .int .i64 0, .int .i64 0, .int .i64 0, .slice none 0 0, .slice none 0 0]] :: blk la 31 [.int .i64 0, .slice none 0 0, .slice none 0 0, .slice (some ⟨lb, 0, none⟩) 1 1] :: blk lb 77 (Q5P (.slice (some ⟨cb, 0, none⟩) 5 5)) :: blk p1 24 [.slice (some ⟨la, 0, none⟩) 1 1] :: L) := hS.sp; obtain ⟨c0, hle0, hS, ha⟩ := St.freeze1 (r := intR) (x := 1) hS rfl; obtain ⟨c2, hle2, hS, hk⟩ := St.freezeL (r := insR) (l := modVI) hS (Rep.LR.push (Rep.LR.push (Rep.LR.push (Rep.LR.push (Rep.LR.push (Rep.LR.nil _ _ _) (Qqy c0 3)) (⟨_, _, rfl, n1 _, n1 _⟩ : insR.at c0 [.int .i64 1, .int .i64 0, .int .i64 0, .int .i64 0, .int .i64 0, .int .i64 1, .slice none 0 0, .slice none 0 0] ⟨1, 0, 0, 0, 0, 1, [], []⟩)) (⟨_, _, rfl, n1 _, ha⟩ : insR.at c0 [.int .i64 5, .int .i64 0, .int .i64 0, .int .i64 0, .int .i64 0, .int .i64 0, .slice none 0 0, .slice (some ⟨ab, 0, none⟩) 1 1] ⟨5, 0, 0, 0, 0, 0, [], [1]⟩)) (Qqy c0 4)) (⟨_, _, rfl, n1 _, n1 _⟩ : insR.at c0 [.int .i64 6, .int .i64 2, .int .i64 0, .int .i64 0, .int .i64 0, .int .i64 0, .slice none 0 0, .slice none 0 0] ⟨6, 2, 0, 0, 0, 0, [], []⟩)) rfl (by decide); obtain ⟨c3, hle3, hS, hm2⟩ := QoC hk hS)
  all_goals (refine Q0 ?_; refine Q1 ?_; refine zR0 (c := Qqi hS) (h := ?_); rintro v1 w1 ⟨ma, mb, rfl, hS⟩; obtain ⟨c4, hle4, hS, hm1⟩ := QoC (n0 _) hS; have hm2 := Rep.R.up hm2 hle4; refine zR1 (c := Qdy (m := leastM) Ql4 hm1 hS) (h := ?_); rintro v1 w1 ⟨rfl, hS⟩; rw [e1]; refine QkS rfl rfl ?_)
  all_goals (refine QD ?_)
  all_goals (refine zm ?_; (first | refine s_gn rfl rfl ?_ | (refine s_gy rfl ?_; refine zv hS ?_)); (first | (refine s_gn rfl rfl ?_) | (refine s_gy rfl ?_; refine zR1 (c := Qdy (m := modV) Qpa hm2 hS) (h := ?_); rintro v1 w1 ⟨rfl, hS⟩; rw [e2])); (first | refine s_gn rfl rfl ?_ | (refine s_gy rfl ?_; refine zb2 [_, _] ?_)); (first | (refine s_gn rfl rfl ?_) | (refine s_gy rfl ?_; refine QmL (a := (10, 4)) Qjl rfl rfl ?_)); refine zpt ?_; refine zm ?_; refine zn ?_; refine zr ?_; refine zf ?_; exact ⟨_, rfl, rfl, St.weak hS.sp (hle0.trans (hle2.trans (hle3.trans hle4)))⟩)
end Go.Proofs.Ytanlkfeogoganaa
namespace Go.Lir
set_option linter.unusedVariables false
/-- A block with one instruction more. -/
def Block.plus (y : Block) (x : Ins) : Block := ⟨y.regs, y.params, y.code ++ [x], y.fin⟩
def Fun.put (f : Fun) (b : Nat) (y : Block) : Fun := ⟨f.regs, f.params, f.results, f.blocks.set b y⟩
def Module.put (m : Module) (q : Nat) (f : Fun) : Module := ⟨m.funcs.set q f⟩
abbrev Fun.sig (g : Fun) : Int × List Ty × List Ty := (g.regs, g.params, g.results)
abbrev Block.sig (g : Block) : Int × List Ty := (g.regs, g.params)
def outM : Ins := ⟨13, -1, 0, 0, 0, 0, [], []⟩
section
variable {m : Module} {fn : Fun} {y : Block} {f b n : Nat} {x : Ins}
/-! faults -/
theorem QoO {fn' : Fun} : ∀ {l : List Fun} {q i : Nat}, (QR n q l).1 = 0 → i < l.length → QR n q (l.set i fn') = Q1L n (q + i) fn'
  | [], _, _, _, hi => by simp at hi
  | z :: l, q, 0, h, _ => by
    rw [QR] at h
    rw [List.set_cons_zero, QR, QeF (Q1P h).2]; rfl
  | z :: l, q, i + 1, h, hi => by
    rw [QR] at h
    have h2 := Q1P h
    rw [List.set_cons_succ, QR, Qiz h2.1, Q1E Qj, QoO h2.2 (by simpa using hi), show q + 1 + i = q + (i + 1) by omega]
theorem QiG {x : Fun} {y' : Block} : ∀ {l : List Block} {q i : Nat}, (Qo n f x q l).1 = 0 → i < l.length → Qo n f x q (l.set i y') = Qv n f x (q + i) y'
  | [], _, _, _, hi => by simp at hi
  | z :: l, q, 0, h, _ => by
    rw [Qo] at h
    rw [List.set_cons_zero, Qo, QeF (Q1P h).2]; rfl
  | z :: l, q, i + 1, h, hi => by
    rw [Qo] at h
    have h2 := Q1P h
    rw [List.set_cons_succ, Qo, Q5G h2.1, Q1E Q2a, QiG h2.2 (by simpa using hi), show q + 1 + i = q + (i + 1) by omega]
theorem Qlz {b : Nat} {z : Ins} : ∀ {l : List Ins} {i : Nat}, (QE n f b i l).1 = 0 → QE n f b i (l ++ [z]) = mkF (QP n z) (Q4l f b (i + l.length))
  | [], i, _ => by
    rw [List.nil_append, QE, QE, QeF rfl]; rfl
  | a :: l, i, h => by
    rw [QE] at h
    obtain ⟨h1, h2⟩ := Q1P h
    rw [Q1F] at h1
    rw [List.cons_append, QE, h1, Q1T, Q1E Q4Q, Qlz h2, List.length_cons, show i + 1 + l.length = i + (l.length + 1) by omega]
theorem Qq8 {x' : Fun} {y' : Block} (h1 : x'.regs = fn.regs) (h2 : x'.params = fn.params) (h3 : x'.blocks.length = fn.blocks.length) : ∀ (b : Nat) (z : Block), Qv n f x' b z = Qv n f fn b z := fun b z => by
  unfold Qv Qm
  rw [h1, h2, h3]
theorem Qis {x' : Fun} (h1 : x'.regs = fn.regs) (h2 : x'.params = fn.params) (h3 : x'.blocks.length = fn.blocks.length) : ∀ (l : List Block) (b : Nat), Qo n f x' b l = Qo n f fn b l
  | [], b => rfl
  | z :: l, b => by rw [Qo, Qo, Qq8 (y' := z) h1 h2 h3, Qis h1 h2 h3 l]
theorem Qqa (h : Qm fn b y = 0) : Qm fn b (y.plus x) = if 40 < y.code.length + 1 then 2 else 0 := by
  obtain ⟨h1, h2, h3, h4, h5⟩ := Q4S h
  unfold Qm Block.plus
  simp only [List.length_append, List.length_cons, List.length_nil]
  rw [if_neg (by omega), if_neg (by rw [h3]; simp), if_neg]
  rintro ⟨h6, h7⟩
  obtain ⟨h8, h9⟩ := h4 h6
  rcases h7 with h7 | h7
  · exact h7 h8
  · exact h7 h9
theorem Qp8 (h : (Qv n f fn b y).1 = 0) (hx : QP n x = 0) : Qv n f fn b (y.plus x) = if 40 < y.code.length + 1 then (2, Q26 f b) else (0, 0) := by
  obtain ⟨h1, h2⟩ := Q1P h
  obtain ⟨h3, h4⟩ := Q1P h2
  rw [Q1F] at h1 h4
  unfold Qv
  rw [Qqa h1]
  have h5 : QE n f b 0 (y.plus x).code = (0, 0) := by
    unfold Block.plus
    rw [Qlz h3, hx]; rfl
  rw [h5]
  have h6 : mkF (Q1I fn.blocks.length (y.plus x).fin) (Q6G f b) = (0, 0) := by
    show mkF (Q1I fn.blocks.length y.fin) (Q6G f b) = (0, 0)
    rw [h4]; rfl
  rw [h6]
  split
  · rw [Q5q (by decide)]; rfl
  · rfl
theorem Qq7 (hF : m.fault.1 = 0) (hf : m.funcs[f]? = some fn) (hy : fn.blocks[b]? = some y) (hx : QP m.funcs.length x = 0) : (m.put f (fn.put b (y.plus x))).fault = if 40 < y.code.length + 1 then (2, Q26 f b) else (0, 0) := by
  have hlf := (List.getElem?_eq_some_iff.1 hf).1
  have hlb := (List.getElem?_eq_some_iff.1 hy).1
  obtain ⟨h1, h2⟩ := Q1P hF
  have h3 := Q3f h2 f fn hf
  rw [Nat.zero_add] at h3
  obtain ⟨h4, h5⟩ := Q1P h3
  rw [Q1F] at h1 h4
  have h6 := Q3A h5 b y hy
  rw [Nat.zero_add] at h6
  have hbl : (fn.put b (y.plus x)).blocks.length = fn.blocks.length := by unfold Fun.put; simp
  have hhead : Qz f (fn.put b (y.plus x)) = 0 := by
    rw [← h4]
    unfold Qz
    rw [hbl]; rfl
  have e1 : Q1L m.funcs.length f (fn.put b (y.plus x)) = Qv m.funcs.length f fn b (y.plus x) := by
    rw [Q9y hhead, Qis (x' := fn.put b (y.plus x)) (fn := fn) rfl rfl hbl]
    show Qo m.funcs.length f fn 0 (fn.blocks.set b (y.plus x)) = _
    rw [QiG h5 hlb, Nat.zero_add]
  unfold Module.fault Module.put
  simp only [List.length_set]
  rw [h1, Q1T, Q1E Qj, QoO h2 hlf, Nat.zero_add, e1, Qp8 h6 hx]
/-! runs -/
theorem QoK {m' : Module} {x' : Fun} (hl : m'.funcs.length = m.funcs.length) (hs : ∀ k : Nat, (m'.funcs[k]?).map Fun.sig = (m.funcs[k]?).map Fun.sig) (hr : x'.regs = fn.regs) (s : JS) (x : Ins) : jIns m' x' s x = jIns m fn s x := by
  have e : jins m' x' s x = jins m fn s x := by
    have e2 : QaR m' s x = QaR m s x := by
      unfold QaR
      have h9 := hs x.k.toNat
      cases h1 : m'.funcs[x.k.toNat]? with
      | none =>
        rw [h1] at h9
        cases h2 : m.funcs[x.k.toNat]? with
        | none => rfl
        | some g => rw [h2] at h9; simp at h9
      | some g' =>
        rw [h1] at h9
        cases h2 : m.funcs[x.k.toNat]? with
        | none => rw [h2] at h9; simp at h9
        | some g =>
          rw [h2] at h9
          simp only [Option.map_some, Option.some.injEq, Prod.mk.injEq] at h9
          obtain ⟨q1, q2, q3⟩ := h9
          simp only [q1, q2, q3]
    unfold jins
    rw [e2, hr]
  unfold jIns
  rw [hl, e]
theorem jEnd_sim {x' : Fun} (hr : x'.regs = fn.regs) (hres : x'.results = fn.results) (hl : x'.blocks.length = fn.blocks.length) (hs : ∀ k : Nat, (x'.blocks[k]?).map Block.sig = (fn.blocks[k]?).map Block.sig) (s : JS) (e : Tail) : jEnd x' s e = jEnd fn s e := by
  have et : ∀ t, jto x' s t = jto fn s t := fun t => by
    unfold jto
    have h9 := hs t.block.toNat
    cases h1 : x'.blocks[t.block.toNat]? with
    | none =>
      rw [h1] at h9
      cases h2 : fn.blocks[t.block.toNat]? with
      | none => rfl
      | some g => rw [h2] at h9; simp at h9
    | some g' =>
      rw [h1] at h9
      cases h2 : fn.blocks[t.block.toNat]? with
      | none => rw [h2] at h9; simp at h9
      | some g =>
        rw [h2] at h9
        simp only [Option.map_some, Option.some.injEq, Prod.mk.injEq] at h9
        obtain ⟨q1, q2⟩ := h9
        simp only [q1, q2, hr]
  unfold jEnd jend
  rw [hl, et, et, hr, hres]
theorem QpA {α β : Type} {g : α → β} {l : List α} {i : Nat} {x x' : α} (h : l[i]? = some x) (hg : g x' = g x) (k : Nat) : ((l.set i x')[k]?).map g = (l[k]?).map g := by
  rw [List.getElem?_set]
  split
  · rename_i hk; subst hk
    rw [if_pos (List.getElem?_eq_some_iff.1 h).1, h]; simp [hg]
  · rfl
section
variable {m' : Module} {x' : Fun} {q : Nat} {e : Tail}
theorem QlT (hi : ∀ s x, jIns m' x' s x = jIns m fn s x) (he : ∀ s e, jEnd x' s e = jEnd fn s e) : ∀ (l : List Ins) (i : Nat) (s : JS), QB m' x' q b e i s l = QB m fn q b e i s l
  | [], i, s => by rw [QB, QB, he]
  | a :: l, i, s => by rw [QB, QB, hi, QlT hi he l]
theorem Q5X (hi : ∀ s x, jIns m' x' s x = jIns m fn s x) (he : ∀ s e, jEnd x' s e = jEnd fn s e) : ∀ (l : List Block) (i : Nat), Qk m' x' q i l = Qk m fn q i l
  | [], i => rfl
  | a :: l, i => by rw [Qk, Qk, QlT hi he, Q5X hi he l]
theorem QiH (hi : ∀ s x, jIns m' x' s x = jIns m fn s x) (hx : ∀ s, jIns m fn s x = (1, s)) : ∀ {l : List Ins} {i : Nat} {s : JS}, (QB m fn q b e i s l).1 = 0 → QB m' x' q b e i s (l ++ [x]) = (1, Q4l q b (i + l.length))
  | [], i, s, _ => by
    rw [List.nil_append, Q9X (by rw [hi, hx]; exact (by decide : (1 : Int) ≠ 0)), hi, hx]; rfl
  | a :: l, i, s, h => by
    have h1 : (jIns m fn s a).1 = 0 := by
      rw [QB] at h
      split at h
      · rename_i hn; exact absurd h hn
      · rename_i hn; exact Classical.not_not.1 hn
    rw [Q4R h1] at h
    rw [List.cons_append, Q4R (by rw [hi]; exact h1), hi, QiH hi hx h, List.length_cons, show i + 1 + l.length = i + (l.length + 1) by omega]
theorem Q9W : ∀ {l : List Block} {b0 : Nat}, (Qk m fn q b0 l).1 = 0 → ∀ (b : Nat) (z : Block), l[b]? = some z → (QB m fn q (b0 + b) z.fin 0 (Q2U z) z.code).1 = 0
  | [], _, _, b, z, hz => by cases hz
  | a :: l, b0, h, b, z, hz => by
    rw [Qk] at h
    obtain ⟨h1, h2⟩ := Q1P h
    cases b with
    | zero => rw [List.getElem?_cons_zero] at hz; cases hz; exact h1
    | succ b => rw [List.getElem?_cons_succ] at hz; rw [show b0 + (b + 1) = b0 + 1 + b by omega]; exact Q9W h2 b z hz
theorem Q9V {z : Block} : ∀ {l : List Block} {b0 i : Nat}, (Qk m fn q b0 l).1 = 0 → i < l.length → Qk m fn q b0 (l.set i z) = QB m fn q (b0 + i) z.fin 0 (Q2U z) z.code
  | [], _, _, _, hi => by simp at hi
  | a :: l, b0, 0, h, _ => by
    rw [Qk] at h
    rw [List.set_cons_zero, Qk, QeF (Q1P h).2]; rfl
  | a :: l, b0, i + 1, h, hi => by
    rw [Qk] at h
    have h2 := Q1P h
    rw [List.set_cons_succ, Qk, Q5Y h2.1, Q1E Q2Y, Q9V h2.2 (by simpa using hi), show b0 + 1 + i = b0 + (i + 1) by omega]
theorem QeU : ∀ {l : List Fun} {f0 : Nat}, (QV m f0 l).1 = 0 → ∀ (f : Nat) (z : Fun), l[f]? = some z → (Qk m z (f0 + f) 0 z.blocks).1 = 0
  | [], _, _, b, z, hz => by cases hz
  | a :: l, b0, h, b, z, hz => by
    rw [QV] at h
    obtain ⟨h1, h2⟩ := Q1P h
    cases b with
    | zero => rw [List.getElem?_cons_zero] at hz; cases hz; exact h1
    | succ b => rw [List.getElem?_cons_succ] at hz; rw [show b0 + (b + 1) = b0 + 1 + b by omega]; exact QeU h2 b z hz
theorem QeT {z : Fun} (hi : ∀ (g : Fun) s x, jIns m' g s x = jIns m g s x) : ∀ {l : List Fun} {q i : Nat}, (QV m q l).1 = 0 → i < l.length → QV m' q (l.set i z) = Qk m' z (q + i) 0 z.blocks
  | [], _, _, _, hi => by simp at hi
  | a :: l, q, 0, h, _ => by
    rw [QV] at h
    have h2 := (Q1P h).2
    have e9 : ∀ (l : List Fun) (q : Nat), QV m' q l = QV m q l := by
      intro l
      induction l with
      | nil => intro q; rfl
      | cons a l ih => intro q; rw [QV, QV, Q5X (fun s x => hi a s x) (fun _ _ => rfl), ih]
    rw [List.set_cons_zero, QV, e9, QeF h2]; rfl
  | a :: l, q, i + 1, h, hl => by
    rw [QV] at h
    have h2 := Q1P h
    rw [List.set_cons_succ, QV, Q5X (fun s x => hi a s x) (fun _ _ => rfl), Q2Y h2.1, Q1E Q9x, QeT hi h2.2 (by simpa using hl), show q + 1 + i = q + (i + 1) by omega]
end
theorem QkY (n : Nat) : QP n outM = 0 := by
  unfold QP outM
  rw [if_neg (by decide), if_neg (by unfold Ins.odd; decide)]
  rfl
theorem outM_ins (m : Module) (f : Fun) (s : JS) : jIns m f s outM = (1, s) := by
  unfold jIns
  rw [if_neg (by rw [QkY]; simp)]
  have e : jins m f s outM = .error 1 := by
    unfold jins outM Q2u jval QF
    simp
  rw [e]
/-- What comes behind the last instruction is told just there. -/
theorem put_runs (hR : m.runs.1 = 0) (hf : m.funcs[f]? = some fn) (hy : fn.blocks[b]? = some y) : (m.put f (fn.put b (y.plus outM))).runs = if 40 < y.code.length + 1 then (2, Q26 f b) else (1, Q4l f b y.code.length) := by
  have hlf := (List.getElem?_eq_some_iff.1 hf).1
  have hlb := (List.getElem?_eq_some_iff.1 hy).1
  obtain ⟨hF, hG⟩ := Q1P hR
  have hput := Qq7 hF hf hy (QkY m.funcs.length)
  by_cases hc : 40 < y.code.length + 1
  · rw [if_pos hc] at hput ⊢
    rw [QpX (by rw [hput]; exact (by decide : (2 : Int) ≠ 0)), hput]
  · rw [if_neg hc] at hput ⊢
    rw [QmM (by rw [hput])]
    obtain ⟨m', hm'⟩ : ∃ m', m.put f (fn.put b (y.plus outM)) = m' := ⟨_, rfl⟩
    obtain ⟨fn', hfn'⟩ : ∃ g, fn.put b (y.plus outM) = g := ⟨_, rfl⟩
    have hl' : m'.funcs.length = m.funcs.length := by rw [← hm']; unfold Module.put; simp
    have hs' : ∀ k : Nat, (m'.funcs[k]?).map Fun.sig = (m.funcs[k]?).map Fun.sig := fun k => by
      rw [← hm']; exact QpA (g := Fun.sig) (x' := fn.put b (y.plus outM)) hf rfl k
    have hi : ∀ (g : Fun) s x, jIns m' g s x = jIns m g s x := fun g s x => QoK hl' hs' rfl s x
    have hi' : ∀ s x, jIns m' fn' s x = jIns m fn s x := fun s x => QoK hl' hs' (by rw [← hfn']; rfl) s x
    have hff : m'.funcs = m.funcs.set f fn' := by rw [← hm', hfn']; rfl
    have hbb : fn'.blocks = fn.blocks.set b (y.plus outM) := by rw [← hfn']; rfl
    have he' : ∀ s e, jEnd fn' s e = jEnd fn s e := fun s e => jEnd_sim (by rw [← hfn']; rfl) (by rw [← hfn']; rfl) (by rw [hbb]; simp) (fun k => by rw [hbb]; exact QpA (g := Block.sig) (x' := y.plus outM) hy rfl k) s e
    rw [hm', hff, QeT hi hG hlf, hbb, Nat.zero_add]
    have h3 := QeU hG f fn hf
    rw [Nat.zero_add] at h3
    have h4 := Q9W h3 b y hy
    rw [Nat.zero_add] at h4
    rw [Q9V (by rw [Q5X hi' he']; exact h3) hlb, Nat.zero_add]
    show QB m' fn' f b y.fin 0 (Q2U y) (y.code ++ [outM]) = _
    rw [QiH hi' (outM_ins m fn) h4, Nat.zero_add]
theorem runs_pos (hF : m.fault.1 = 0) (hR : m.runs.1 ≠ 0) : 0 ≤ m.runs.2 := by
  rw [QmM hF] at hR ⊢
  have h1 : ∀ {fn : Fun} {q b : Nat} {e : Tail} (l : List Ins) (i : Nat) (s : JS), (QB m fn q b e i s l).1 ≠ 0 → 0 ≤ (QB m fn q b e i s l).2 := by
    intro fn q b e l
    induction l with
    | nil =>
      intro i s h
      rw [QB] at h ⊢
      rw [Q1F] at h
      rw [Q5q h]
      unfold Q6G; show 0 ≤ ((q * 10000 + b * 100 + 91 : Nat) : Int); omega
    | cons a l ih =>
      intro i s h
      rw [QB] at h ⊢
      split
      · unfold Q4l; show 0 ≤ ((q * 10000 + b * 100 + i : Nat) : Int); omega
      · rename_i hn; rw [if_neg hn] at h; exact ih _ _ h
  have hor : ∀ a b : Flt, (a.1 ≠ 0 → 0 ≤ a.2) → (b.1 ≠ 0 → 0 ≤ b.2) → (orF a b).1 ≠ 0 → 0 ≤ (orF a b).2 := by
    intro a b ha hb h
    unfold orF at h ⊢
    split
    · rename_i hc; exact hb hc.2
    · rename_i hc; rw [if_neg hc] at h; exact ha h
  have h2 : ∀ {fn : Fun} {q : Nat} (l : List Block) (b : Nat), (Qk m fn q b l).1 ≠ 0 → 0 ≤ (Qk m fn q b l).2 := by
    intro fn q l
    induction l with
    | nil => intro b h; exact absurd rfl h
    | cons a l ih => intro b; rw [Qk]; exact hor _ _ (h1 _ _ _) (ih _)
  have h3 : ∀ (l : List Fun) (q : Nat), (QV m q l).1 ≠ 0 → 0 ≤ (QV m q l).2 := by
    intro l
    induction l with
    | nil => intro b h; exact absurd rfl h
    | cons a l ih => intro b; rw [QV]; exact hor _ _ (h2 _ _) (ih _)
  exact h3 _ _ hR
end
end Go.Lir
namespace Go.Lir
section
variable {α : Type}
/-- A kind of data, or just these cells. -/
def Rep.hole (r : Rep α) : Rep (α ⊕ List Value) where
  es := r.es
  pos := r.pos
  R := fun H K cs x => match x with
    | .inl a => r.R H K cs a
    | .inr d => cs = d ∧ d.length = r.es ∧ ∀ u ∈ d, oneC u = true
  len := by
    intro H K cs x h
    cases x with
    | inl a => exact r.len h
    | inr d => obtain ⟨rfl, h, _⟩ := h; exact h
  one := by
    intro H K cs x h
    cases x with
    | inl a => exact r.one h
    | inr d => obtain ⟨rfl, _, h⟩ := h; exact h
  turn := by
    intro H H' K K' cs x h hs
    cases x with
    | inl a => exact r.turn h hs
    | inr d => exact h
def Q3F (l : List α) (k : Nat) (d : List Value) : List (α ⊕ List Value) := (l.map Sum.inl).set k (.inr d)
variable {r : Rep α} {c : Cx} {css : List (List Value)} {l : List α} {k j : Nat} {d d' : List Value} {x : α}
theorem Q5A : (Q3F l k d).length = l.length := by unfold Q3F; simp
theorem Qix (h : j ≤ k) : (Q3F l k d).take j = (Q3F l k d').take j := by
  unfold Q3F
  rw [List.take_set_of_le h, List.take_set_of_le h]
theorem QoL (h : k < l.length) : (Q3F l k d)[k]? = some (.inr d) := by
  unfold Q3F
  rw [List.getElem?_set_self (by simpa using h)]
theorem Qjf (hx : l[j]? = some x) (h : j ≠ k) : (Q3F l k d)[j]? = some (.inl x) := by
  unfold Q3F
  rw [List.getElem?_set_ne (Ne.symm h), List.getElem?_map, hx]; rfl
theorem QqC (h : l.length ≤ k) : Q3F l k d = l.map Sum.inl := by
  unfold Q3F
  rw [List.set_eq_of_length_le (by simpa using h)]
/-- No row is one's own. -/
theorem hole_ls (h : r.hole.ls c css (l.map Sum.inl)) : r.ls c css l := by
  refine ⟨by simpa using h.1, fun m x hx => ?_⟩
  obtain ⟨d, h1, h2⟩ := h.2 m (.inl x) (by rw [List.getElem?_map, hx]; rfl)
  exact ⟨d, h1, h2⟩
theorem Qjg (h : r.hole.ls c css (Q3F l k d)) (hk : k < l.length) : css[k]? = some d := by
  obtain ⟨e, h1, h2, _⟩ := h.2 k _ (QoL hk)
  rw [h1, h2]
/-- One's own row, changed, and read. -/
theorem QoM (h : r.hole.ls c css (Q3F l k d)) (hk : k < l.length) (hd : r.at c d' x) : r.ls c (css.set k d') (l.set k x) := by
  refine ⟨by simpa [Q5A] using h.1, fun m z hz => ?_⟩
  rw [List.getElem?_set] at hz ⊢
  have hcl : css.length = l.length := by simpa [Q5A] using h.1
  by_cases hm : k = m
  · subst hm
    rw [if_pos rfl, if_pos hk] at hz
    cases hz
    exact ⟨d', by rw [if_pos rfl, if_pos (by omega)], hd⟩
  · rw [if_neg hm] at hz ⊢
    obtain ⟨e, h1, h2⟩ := h.2 m (.inl z) (Qjf hz (Ne.symm hm))
    exact ⟨e, h1, h2⟩
theorem QqD (h : r.hole.ls c css (Q3F l k d)) (hk : k < l.length) (hd : r.at c d x) : r.ls c css (l.set k x) := by
  have h1 := QoM h hk hd
  have h2 := Qjg h hk
  have e : css.set k d = css := by
    apply List.ext_getElem?
    intro i
    rw [List.getElem?_set]
    by_cases hi : k = i
    · subst hi
      have := (List.getElem?_eq_some_iff.1 h2).1
      rw [if_pos rfl, if_pos this, h2]
    · rw [if_neg hi]
  rw [e] at h1
  exact h1
end
/-- A block of one's own: its code may be added to. -/
def OwnB (TI : TypeId) (c : Cx) (y : Block) (dB : List Value) (Ly : List Res) : Prop :=
  ∃ vp vc ce cssC, dB = .int .i64 y.regs :: vp :: vc :: ce ∧ tyR.sl c vp y.params ∧ endR.at c ce y.fin ∧ oneC vc = true ∧ insR.ls c cssC y.code ∧ Ly = [sl TI 8 vc cssC]
theorem OwnB.up {TI : TypeId} {c c' : Cx} {y : Block} {dB : List Value} {Ly : List Res} (h : OwnB TI c y dB Ly) (hle : c.Le c') : OwnB TI c' y dB Ly := by
  obtain ⟨vp, vc, ce, cssC, h1, h2, h3, h4, h5, h6⟩ := h
  exact ⟨vp, vc, ce, cssC, h1, h2.up hle, h3.up hle, h4, h5.up hle, h6⟩
/-- A function of one's own: of its blocks one is. -/
def OwnF (TB TI : TypeId) (c : Cx) (fn : Fun) (b : Nat) (y : Block) (dF : List Value) (Lx : List Res) : Prop :=
  ∃ vps vrs vb cssB dB Ly, dF = [.int .i64 fn.regs, vps, vrs, vb] ∧ tyR.sl c vps fn.params ∧ tyR.sl c vrs fn.results ∧ oneC vb = true ∧ blockR.hole.ls c cssB (Q3F fn.blocks b dB) ∧ Lx = sl TB 12 vb cssB :: Ly ∧ OwnB TI c y dB Ly
theorem OwnF.up {TB TI : TypeId} {c c' : Cx} {fn : Fun} {b : Nat} {y : Block} {dF : List Value} {Lx : List Res} (h : OwnF TB TI c fn b y dF Lx) (hle : c.Le c') : OwnF TB TI c' fn b y dF Lx := by
  obtain ⟨vps, vrs, vb, cssB, dB, Ly, h1, h2, h3, h4, h5, h6, h7⟩ := h
  exact ⟨vps, vrs, vb, cssB, dB, Ly, h1, h2.up hle, h3.up hle, h4, h5.up hle, h6, h7.up hle⟩
/-- How far it is. -/
def AtB (TI : TypeId) (c : Cx) (i b : Nat) (y : Block) (dB : List Value) (Ly : List Res) : Prop := (i ≤ b ∧ Ly = []) ∨ (b < i ∧ OwnB TI c y dB Ly)
def AtF (TB TI : TypeId) (c : Cx) (j f : Nat) (fn : Fun) (b : Nat) (y : Block) (dF : List Value) (Lx : List Res) : Prop := (j ≤ f ∧ Lx = []) ∨ (f < j ∧ OwnF TB TI c fn b y dF Lx)
theorem AtB.up {TI : TypeId} {c c' : Cx} {i b : Nat} {y : Block} {dB : List Value} {Ly : List Res} (h : AtB TI c i b y dB Ly) (hle : c.Le c') : AtB TI c' i b y dB Ly := by
  rcases h with h | ⟨h, h2⟩
  · exact .inl h
  · exact .inr ⟨h, h2.up hle⟩
theorem AtF.up {TB TI : TypeId} {c c' : Cx} {j f : Nat} {fn : Fun} {b : Nat} {y : Block} {dF : List Value} {Lx : List Res} (h : AtF TB TI c j f fn b y dF Lx) (hle : c.Le c') : AtF TB TI c' j f fn b y dF Lx := by
  rcases h with h | ⟨h, h2⟩
  · exact .inl h
  · exact .inr ⟨h, h2.up hle⟩
theorem Qoz : ∀ u ∈ ([] : List Value), oneC u = true := fun u hu => by cases hu
theorem Q1z {a : Value} {l : List Value} (h : oneC a = true) (h2 : ∀ u ∈ l, oneC u = true) : ∀ u ∈ a :: l, oneC u = true := fun u hu => by
  rcases List.mem_cons.1 hu with rfl | hu
  · exact h
  · exact h2 u hu
theorem QqE {α : Type} {r : Rep α} {c : Cx} {d : List Value} {x : α} (h : r.at c d x) : r.hole.at c d (.inl x) := h
theorem Qqe {α : Type} {r : Rep α} {c : Cx} {d : List Value} (h1 : d.length = r.es) (h2 : ∀ u ∈ d, oneC u = true) : r.hole.at c d (.inr d) := ⟨rfl, h1, h2⟩
theorem Qlo {α : Type} {l : List α} {k i : Nat} {d : List Value} (h : i < l.length) (hk : i = k) : (Q3F l k d)[i]? = some (.inr d) := by subst hk; exact QoL h
theorem own_here {l : List Fun} {f0 b0 b1 i j : Nat} {fn x1 : Fun} {y x2 : Block} (hfn : l[f0]? = some fn) (hy : fn.blocks[b0]? = some y) (hx1 : l[j]? = some x1) (hx2 : x1.blocks[i]? = some x2) (hb : b1 = if j = f0 then b0 else x1.blocks.length) (hi : i = b1) : j = f0 ∧ b1 = b0 ∧ x1 = fn ∧ x2 = y := by
  have hlt := (List.getElem?_eq_some_iff.1 hx2).1
  by_cases hj : j = f0
  · rw [if_pos hj] at hb
    subst hj hb hi
    obtain rfl := Option.some.inj (hx1.symm.trans hfn)
    exact ⟨rfl, rfl, rfl, Option.some.inj (hx2.symm.trans hy)⟩
  · rw [if_neg hj] at hb; omega
section
variable {TB TI : TypeId} {c : Cx} {i b j f : Nat} {y : Block} {fn : Fun} {dB dF : List Value} {Ly Lx : List Res}
theorem AtB.zero : AtB TI c 0 b y dB [] := .inl ⟨Nat.zero_le _, rfl⟩
theorem AtB.some_ (h : b < i) (h2 : OwnB TI c y dB Ly) : AtB TI c i b y dB Ly := .inr ⟨h, h2⟩
theorem AtF.zero : AtF TB TI c 0 f fn b y dF [] := .inl ⟨Nat.zero_le _, rfl⟩
theorem AtF.some_ (h : f < j) (h2 : OwnF TB TI c fn b y dF Lx) : AtF TB TI c j f fn b y dF Lx := .inr ⟨h, h2⟩
theorem AtB.nil (h : AtB TI c i b y dB Ly) (hi : i ≤ b) : Ly = [] := by
  rcases h with ⟨_, h⟩ | ⟨h, _⟩
  · exact h
  · omega
theorem AtB.own (h : AtB TI c i b y dB Ly) (hi : b < i) : OwnB TI c y dB Ly := by
  rcases h with ⟨h, _⟩ | ⟨_, h⟩
  · omega
  · exact h
theorem AtB.next (h : AtB TI c i b y dB Ly) (hi : ¬ i = b) : AtB TI c (i + 1) b y dB Ly := by
  rcases h with ⟨h, h2⟩ | ⟨h, h2⟩
  · exact .inl ⟨by omega, h2⟩
  · exact .inr ⟨by omega, h2⟩
theorem AtF.nil (h : AtF TB TI c j f fn b y dF Lx) (hi : j ≤ f) : Lx = [] := by
  rcases h with ⟨_, h⟩ | ⟨h, _⟩
  · exact h
  · omega
theorem AtF.own (h : AtF TB TI c j f fn b y dF Lx) (hi : f < j) : OwnF TB TI c fn b y dF Lx := by
  rcases h with ⟨h, _⟩ | ⟨_, h⟩
  · omega
  · exact h
theorem AtF.next (h : AtF TB TI c j f fn b y dF Lx) (hi : ¬ j = f) : AtF TB TI c (j + 1) f fn b y dF Lx := by
  rcases h with ⟨h, h2⟩ | ⟨h, h2⟩
  · exact .inl ⟨by omega, h2⟩
  · exact .inr ⟨by omega, h2⟩
theorem OwnB.mk {vp vc v1 v2 v3 v4 v5 : Value} {cssC : List (List Value)} (h0 : tyR.sl c vp y.params) (h1 : intR.sl c v1 y.fin.yes.regs) (h2 : intR.sl c v2 y.fin.yes.args) (h3 : intR.sl c v3 y.fin.no.regs) (h4 : intR.sl c v4 y.fin.no.args) (h5 : intR.sl c v5 y.fin.args) (ho : oneC vc = true) (hC : insR.ls c cssC y.code) :
    OwnB TI c y [.int .i64 y.regs, vp, vc, .int .i64 y.fin.op, .int .i64 y.fin.a, .int .i64 y.fin.yes.block, v1, v2, .int .i64 y.fin.no.block, v3, v4, v5] [sl TI 8 vc cssC] :=
  ⟨vp, vc, _, cssC, rfl, h0, ⟨_, _, _, _, _, rfl, h1, h2, h3, h4, h5⟩, ho, hC, rfl⟩
theorem OwnF.mk {vps vrs vb : Value} {cssB : List (List Value)} (h1 : tyR.sl c vps fn.params) (h2 : tyR.sl c vrs fn.results) (ho : oneC vb = true) (h3 : blockR.hole.ls c cssB (Q3F fn.blocks b dB)) (h4 : OwnB TI c y dB Ly) : OwnF TB TI c fn b y [.int .i64 fn.regs, vps, vrs, vb] (sl TB 12 vb cssB :: Ly) :=
  ⟨vps, vrs, vb, cssB, dB, Ly, rfl, h1, h2, ho, h3, rfl, h4⟩
end
end Go.Lir
namespace Go.Proofs.Ytanlkfeogoganaa
open Go.Lir
set_option maxHeartbeats 1000000
attribute [local irreducible] LC.wp Q3 QZ Q1g retQ Q2p LO.wp QH Calls
set_option linter.unusedSimpArgs false
set_option linter.unusedVariables false
attribute [local irreducible] Q3F OwnB OwnF AtB AtF
abbrev TB9 : TypeId := 77
abbrev TI9 : TypeId := 27
theorem Qp5 {x : Module} {f0 b0 : Nat} {fn : Fun} {y : Block} (hsm : x.Short) (hfn : x.funcs[f0]? = some fn) (hy : fn.blocks[b0]? = some y) {cx : Cx} {w : World} {L : List Res} {cs : List Value} (hx : modR.at cx cs x) (hS : St cx w L) :
    Rets Try.prog Qg3 [.agg ⟨cs⟩] w fun u w' => ∃ c' u0 css dF Lx, u = .agg ⟨[u0]⟩ ∧ cx.Le c' ∧ oneC u0 = true ∧ funcR.hole.ls c' css (Q3F x.funcs f0 dF) ∧ OwnF TB9 TI9 c' fn b0 y dF Lx ∧ St c' w' (sl 31 4 u0 css :: (Lx ++ L)) := by
  obtain ⟨vf, rfl, hf⟩ := Q29 hx
  obtain ⟨l⟩ := x
  have hf : funcR.sl cx vf l := hf
  have hfn : l[f0]? = some fn := hfn
  have hf0 := (List.getElem?_eq_some_iff.1 hfn).1
  have hb0 := (List.getElem?_eq_some_iff.1 hy).1
  have hsl : l.length ≤ 100000 := hsm.1
  have hsm : ∀ f ∈ l, f.Short := hsm.2
  have hle := St.refl hS
  all_goals refine QhR ?_
  all_goals (unfold R_OwnModule_lc; refine Q0 ?_; refine Q1 ?_; refine zb hS ?_; intro p1 w1 hS; refine Q8 hS ?_; intro p2 w1 hS; refine zn ?_; refine Q0 ?_; refine Q1 ?_; refine Q8 hS ?_; intro p3 w1 hS; refine zn ?_; refine Q0 ?_; refine Q0 ?_; refine Q1 ?_; refine zm ?_; refine zn ?_; refine Qb ?_)
  refine zo [1, 2, 3] (fun A ρ' w' => ∃ (k0 : Cx) (j : Nat) (u : Value) (css : List (List Value)) (dF : List Value) (Lx : List Res), Has ρ' A ∧ Has ρ' [(4, .int .i64 j)] ∧ (cx.Le k0) ∧ (j ≤ l.length) ∧ (funcR.hole.ls k0 css ((Q3F l f0 dF).take j)) ∧ (oneC u = true) ∧ (AtF TB9 TI9 k0 j f0 fn b0 y dF Lx) ∧ St k0 w' (sl 31 4 u css :: blk p3 24 [u] :: blk p2 24 [.slice none 0 0] :: blk p1 24 [vf] :: (Lx ++ L))) (fun ρ' _ => (l.length - iv (ρ' 4)).toNat) ?_ ?_
  · exact ⟨cx, 0, .slice none 0 0, [], [], [], zh, zh, St.refl hS, (by omega), (by rw [List.take_zero]; exact Rep.LR.nil _ _ _), rfl, AtF.zero, by have hS := hS.nil (T := 31) (es := 4); exact hS⟩
  rintro ρ w1 ⟨k0, j, u, css, dF, Lx, hA, hρ, hle2, hj, hls, hu, hP, hS⟩; obtain ⟨ρ, rfl⟩ := env2 hA hρ; have hL0 := hle2; (try have hle := hle.trans hle2); (try have hf := hf.up hle2)
  unfold Q6R
  all_goals (refine Q0 ?_; refine Q0 ?_; refine Q1 ?_; refine zm ?_; refine Q2 rfl ?_; refine zl hS ?_; refine zL ?_; refine QC rfl rfl ?_; refine zn ?_)
  refine Qy rfl (fun hc => ?_) (fun hc => ?_)
  · skip
    all_goals (refine zsk ?_; refine Q0 ?_; refine Qb ?_; refine Q0 ?_; refine Q1 ?_; refine Q2 rfl ?_; refine zl hS ?_; refine zm ?_; refine zi ?_; intro b1 o1 cs1 x1 hat1 hx1 he1; obtain ⟨vp1, vr1, vb1, rfl, hp1, hr1, hb1⟩ := Q17 he1; (first | (refine zv hS ?_) | (refine zvk hS ?_)); refine Q8 hS ?_; intro p5 w1 hS; refine zsn hS ?_; intro w1 hS; have hS := hS.ns; refine zn ?_; have hsh := hsm x1 (List.mem_of_getElem? hx1); have hlb := hsh.2.2.1; obtain ⟨b1, hb1'⟩ : ∃ q : Nat, q = (if j = f0 then b0 else x1.blocks.length) := ⟨_, rfl⟩)
    have hJ6 := St.refl hS
    refine zML hS [1, 2, 3, 4, 5] (fun A LL ρ' w' => ∃ (k6 : Cx) (a1 a2 : Option Addr) (n1 n2 p6 : Nat), Has ρ' A ∧ Has ρ' [(6, .pointer (some ⟨p6, 0, none⟩))] ∧ (k0.Le k6) ∧ (tyR.sl k6 (.slice a1 x1.params.length n1) x1.params) ∧ (tyR.sl k6 (.slice a2 x1.results.length n2) x1.results) ∧ St k6 w' (blk p6 31 [.int .i64 x1.regs, .slice a1 x1.params.length n1, .slice a2 x1.results.length n2, .slice none 0 0] :: LL)) ?_ ?_
    · skip
      refine Q4D 4 9 (by kernel_rfl) ?_ ?_
      · skip
        refine Q4D 7 9 (by kernel_rfl) ?_ ?_
        · skip
          all_goals (refine zC [(0, none), (1, none), (2, none), (3, none), (5, none), (6, none), (4, some (some [1, 6])), (7, some (some [1])), (8, none), (9, some (some [1])), (10, some none)] ?_; have hS := hS.drew; refine s_cq ?_; refine Q2 rfl ?_; refine zt ?_; refine s_cq ?_; refine zl hS ?_; refine zt ?_; refine s_cq ?_; refine Q2 rfl ?_; refine zt ?_; refine s_cq ?_; refine zl hS ?_; refine zt ?_; refine s_cq ?_; refine Q2 rfl ?_; refine zt ?_; refine s_cq ?_; refine zl hS ?_; refine zt ?_; refine Q10 ?_)
          all_goals (refine zR1 (c := Q5g hsh.1.1 hsh.1.2 hp1 hS) (h := ?_); rintro v1 w1 ⟨c1, hle2, hk1, hS⟩; obtain ⟨a1, n1, rfl⟩ := Rep.SR.shape hk1; (try have hle := hle.trans hle2); (try have hL0 := hL0.trans hle2); (try have hJ6 := hJ6.trans hle2); (try have hf := hf.up hle2); (try have hp1 := hp1.up hle2); (try have hr1 := hr1.up hle2); (try have hb1 := hb1.up hle2); (try have he1 := he1.up hle2); (try have hls := hls.up hle2); (try have hP := hP.up hle2))
          all_goals (refine zt ?_; refine zy ?_; refine Q10 ?_)
          all_goals (refine zR1 (c := Q5g hsh.2.1.1 hsh.2.1.2 hr1 hS) (h := ?_); rintro v1 w1 ⟨c2, hle2, hk2, hS⟩; obtain ⟨a2, n2, rfl⟩ := Rep.SR.shape hk2; (try have hle := hle.trans hle2); (try have hL0 := hL0.trans hle2); (try have hJ6 := hJ6.trans hle2); (try have hf := hf.up hle2); (try have hk1 := hk1.up hle2); (try have hp1 := hp1.up hle2); (try have hr1 := hr1.up hle2); (try have hb1 := hb1.up hle2); (try have he1 := he1.up hle2); (try have hls := hls.up hle2); (try have hP := hP.up hle2))
          all_goals (refine zt ?_; refine zy ?_; refine s_cq ?_; refine zb3 [_, _, _, _] ?_; refine zt ?_; refine Q10 ?_; refine Q8 hS ?_; intro p6 w1 hS; refine zt ?_; refine zy ?_; refine s_cf ?_; refine zsn hS ?_; intro w1 hS; have hS := hS.ns; refine zt ?_; refine zcn ?_; exact ⟨_, a1, a2, n1, n2, p6, zh, zh, hJ6, by assumption, by assumption, hS.sp⟩)
        · skip
          all_goals (refine zC [(0, none), (1, none), (2, none), (3, none), (5, none), (6, none), (4, some (some [1, 6])), (9, some (some [1, 6])), (7, some (some [1])), (8, none), (10, some none)] ?_; have hS := hS.drew; refine s_cq ?_; refine Q2 rfl ?_; refine zt ?_; refine s_cq ?_; refine zl hS ?_; refine zt ?_; refine s_cq ?_; refine Q2 rfl ?_; refine zt ?_; refine s_cq ?_; refine zl hS ?_; refine zt ?_; refine s_cq ?_; refine Q2 rfl ?_; refine zt ?_; refine s_cq ?_; refine zl hS ?_; refine zt ?_; refine Q10 ?_)
          all_goals (refine zR1 (c := Q5g hsh.1.1 hsh.1.2 hp1 hS) (h := ?_); rintro v1 w1 ⟨c1, hle2, hk1, hS⟩; obtain ⟨a1, n1, rfl⟩ := Rep.SR.shape hk1; (try have hle := hle.trans hle2); (try have hL0 := hL0.trans hle2); (try have hJ6 := hJ6.trans hle2); (try have hf := hf.up hle2); (try have hp1 := hp1.up hle2); (try have hr1 := hr1.up hle2); (try have hb1 := hb1.up hle2); (try have he1 := he1.up hle2); (try have hls := hls.up hle2); (try have hP := hP.up hle2))
          all_goals (refine zt ?_; refine zy ?_; refine Q10 ?_; refine Q8 hS ?_; intro p6 w1 hS; refine zt ?_; refine zy ?_; refine Q10 ?_)
          all_goals (refine zR1 (c := Q5g hsh.2.1.1 hsh.2.1.2 hr1 hS) (h := ?_); rintro v1 w1 ⟨c2, hle2, hk2, hS⟩; obtain ⟨a2, n2, rfl⟩ := Rep.SR.shape hk2; (try have hle := hle.trans hle2); (try have hL0 := hL0.trans hle2); (try have hJ6 := hJ6.trans hle2); (try have hf := hf.up hle2); (try have hk1 := hk1.up hle2); (try have hp1 := hp1.up hle2); (try have hr1 := hr1.up hle2); (try have hb1 := hb1.up hle2); (try have he1 := he1.up hle2); (try have hls := hls.up hle2); (try have hP := hP.up hle2))
          all_goals (refine zt ?_; refine zy ?_; refine s_cq ?_; refine zb3 [_, _, _, _] ?_; refine zt ?_; refine s_cf ?_; refine zsn hS ?_; intro w1 hS; have hS := hS.ns; refine zt ?_; refine zcn ?_; exact ⟨_, a1, a2, n1, n2, p6, zh, zh, hJ6, by assumption, by assumption, hS.sp⟩)
      · skip
        all_goals (refine zC [(0, none), (1, none), (2, none), (3, none), (5, none), (6, none), (9, some (some [1, 3, 6])), (4, some (some [1, 6])), (7, some (some [1])), (8, none), (10, some none)] ?_; have hS := hS.drew; refine s_cq ?_; refine Q2 rfl ?_; refine zt ?_; refine s_cq ?_; refine zl hS ?_; refine zt ?_; refine s_cq ?_; refine Q2 rfl ?_; refine zt ?_; refine s_cq ?_; refine zl hS ?_; refine zt ?_; refine s_cq ?_; refine Q2 rfl ?_; refine zt ?_; refine s_cq ?_; refine zl hS ?_; refine zt ?_; refine Q10 ?_; refine Q8 hS ?_; intro p6 w1 hS; refine zt ?_; refine zy ?_; refine Q10 ?_)
        all_goals (refine zR1 (c := Q5g hsh.1.1 hsh.1.2 hp1 hS) (h := ?_); rintro v1 w1 ⟨c1, hle2, hk1, hS⟩; obtain ⟨a1, n1, rfl⟩ := Rep.SR.shape hk1; (try have hle := hle.trans hle2); (try have hL0 := hL0.trans hle2); (try have hJ6 := hJ6.trans hle2); (try have hf := hf.up hle2); (try have hp1 := hp1.up hle2); (try have hr1 := hr1.up hle2); (try have hb1 := hb1.up hle2); (try have he1 := he1.up hle2); (try have hls := hls.up hle2); (try have hP := hP.up hle2))
        all_goals (refine zt ?_; refine zy ?_; refine Q10 ?_)
        all_goals (refine zR1 (c := Q5g hsh.2.1.1 hsh.2.1.2 hr1 hS) (h := ?_); rintro v1 w1 ⟨c2, hle2, hk2, hS⟩; obtain ⟨a2, n2, rfl⟩ := Rep.SR.shape hk2; (try have hle := hle.trans hle2); (try have hL0 := hL0.trans hle2); (try have hJ6 := hJ6.trans hle2); (try have hf := hf.up hle2); (try have hk1 := hk1.up hle2); (try have hp1 := hp1.up hle2); (try have hr1 := hr1.up hle2); (try have hb1 := hb1.up hle2); (try have he1 := he1.up hle2); (try have hls := hls.up hle2); (try have hP := hP.up hle2))
        all_goals (refine zt ?_; refine zy ?_; refine s_cq ?_; refine zb3 [_, _, _, _] ?_; refine zt ?_; refine s_cf ?_; refine zsn hS ?_; intro w1 hS; have hS := hS.ns; refine zt ?_; refine zcn ?_; exact ⟨_, a1, a2, n1, n2, p6, zh, zh, hJ6, by assumption, by assumption, hS.sp⟩)
    rintro ρ w1 ⟨k6, a1, a2, n1, n2, p6, hA, hρ, hle2, hk1, hk2, hS⟩; obtain ⟨ρ, rfl⟩ := env2 hA hρ; (try have hle := hle.trans hle2); (try have hL0 := hL0.trans hle2); (try have hJ6 := hJ6.trans hle2); (try have hf := hf.up hle2); (try have hp1 := hp1.up hle2); (try have hr1 := hr1.up hle2); (try have hb1 := hb1.up hle2); (try have he1 := he1.up hle2); (try have hls := hls.up hle2); (try have hP := hP.up hle2)
    all_goals (refine Q0 ?_; refine Q0 ?_; refine Q1 ?_; refine zm ?_; refine zn ?_; refine Qb ?_)
    refine zo [1, 2, 3, 4, 5, 6] (fun A ρ' w' => ∃ (k1 : Cx) (i : Nat) (ub : Value) (cssB : List (List Value)) (dB : List Value) (Ly : List Res), Has ρ' A ∧ Has ρ' [(7, .int .i64 i)] ∧ (k6.Le k1) ∧ (i ≤ x1.blocks.length) ∧ (blockR.hole.ls k1 cssB ((Q3F x1.blocks b1 dB).take i)) ∧ (oneC ub = true) ∧ (AtB TI9 k1 i b1 y dB Ly) ∧ St k1 w' (sl 77 12 ub cssB :: blk p6 31 [.int .i64 x1.regs, .slice a1 x1.params.length n1, .slice a2 x1.results.length n2, ub] :: blk p5 31 [.int .i64 x1.regs, vp1, vr1, vb1] :: sl 31 4 u css :: blk p3 24 [u] :: blk p2 24 [.slice none 0 0] :: blk p1 24 [vf] :: (Ly ++ (Lx ++ L)))) (fun ρ' _ => (x1.blocks.length - iv (ρ' 7)).toNat) ?_ ?_
    · exact ⟨k6, 0, .slice none 0 0, [], [], [], zh, zh, St.refl hS, (by omega), (by rw [List.take_zero]; exact Rep.LR.nil _ _ _), rfl, AtB.zero, by have hS := hS.nil (T := 77) (es := 12); exact hS.sp⟩
    rintro ρ w1 ⟨k1, i, ub, cssB, dB, Ly, hA, hρ, hle2, hi, hlsB, hub, hQ, hS⟩; obtain ⟨ρ, rfl⟩ := env2 hA hρ; have hL1 := hle2; (try have hle := hle.trans hle2); (try have hL0 := hL0.trans hle2); (try have hJ6 := hJ6.trans hle2); (try have hf := hf.up hle2); (try have hk1 := hk1.up hle2); (try have hk2 := hk2.up hle2); (try have hp1 := hp1.up hle2); (try have hr1 := hr1.up hle2); (try have hb1 := hb1.up hle2); (try have he1 := he1.up hle2); (try have hls := hls.up hle2); (try have hP := hP.up hle2)
    unfold Q6Q
    all_goals (refine Q0 ?_; refine Q0 ?_; refine Q1 ?_; refine zm ?_; refine Q2 rfl ?_; refine zl hS ?_; refine zL ?_; refine QC rfl rfl ?_; refine zn ?_)
    refine Qy rfl (fun hc => ?_) (fun hc => ?_)
    · skip
      all_goals (refine zsk ?_; refine Q0 ?_; refine Qb ?_; refine Q0 ?_; refine Q1 ?_; refine Q2 rfl ?_; refine zl hS ?_; refine zm ?_; refine zi ?_; intro b2 o2 cs2 x2 hat2 hx2 he2; obtain ⟨vp2, vc2, ve21, ve22, ve23, ve24, ve25, rfl, hp2, hc2, he21, he22, he23, he24, he25⟩ := Q2C he2; (first | (refine zv hS ?_) | (refine zvk hS ?_)); refine Q8 hS ?_; intro p8 w1 hS; refine zsn hS ?_; intro w1 hS; have hS := hS.ns; refine zn ?_; have hsb := hsh.2.2.2 x2 (List.mem_of_getElem? hx2); have hlc := hsb.2.1)
      have hJ10 := St.refl hS
      refine zML hS [1, 2, 3, 4, 5, 6, 7, 8] (fun A LL ρ' w' => ∃ (k10 : Cx) (a3 : Option Addr) (n3 p9 : Nat), Has ρ' A ∧ Has ρ' [(9, .pointer (some ⟨p9, 0, none⟩))] ∧ (k1.Le k10) ∧ (tyR.sl k10 (.slice a3 x2.params.length n3) x2.params) ∧ St k10 w' (blk p9 77 [.int .i64 x2.regs, .slice a3 x2.params.length n3, .slice none 0 0, .int .i64 0, .int .i64 0, .int .i64 0, .slice none 0 0, .slice none 0 0, .int .i64 0, .slice none 0 0, .slice none 0 0, .slice none 0 0] :: LL)) ?_ ?_
      · skip
        refine Q4D 4 6 (by kernel_rfl) ?_ ?_
        · skip
          all_goals (refine zC [(0, none), (1, none), (2, none), (3, none), (4, some (some [1])), (5, none), (6, some (some [1])), (7, some none)] ?_; have hS := hS.drew; refine s_cq ?_; refine Q2 rfl ?_; refine zt ?_; refine s_cq ?_; refine zl hS ?_; refine zt ?_; refine s_cq ?_; refine Q2 rfl ?_; refine zt ?_; refine s_cq ?_; refine zl hS ?_; refine zt ?_; refine Q10 ?_)
          all_goals (refine zR1 (c := Q5g hsb.1.1 hsb.1.2 hp2 hS) (h := ?_); rintro v1 w1 ⟨c3, hle2, hk3, hS⟩; obtain ⟨a3, n3, rfl⟩ := Rep.SR.shape hk3; (try have hle := hle.trans hle2); (try have hL0 := hL0.trans hle2); (try have hL1 := hL1.trans hle2); (try have hJ6 := hJ6.trans hle2); (try have hJ10 := hJ10.trans hle2); (try have hf := hf.up hle2); (try have hk1 := hk1.up hle2); (try have hk2 := hk2.up hle2); (try have hp1 := hp1.up hle2); (try have hr1 := hr1.up hle2); (try have hb1 := hb1.up hle2); (try have hp2 := hp2.up hle2); (try have hc2 := hc2.up hle2); (try have he21 := he21.up hle2); (try have he22 := he22.up hle2); (try have he23 := he23.up hle2); (try have he24 := he24.up hle2); (try have he25 := he25.up hle2); (try have he1 := he1.up hle2); (try have he2 := he2.up hle2); (try have hls := hls.up hle2); (try have hlsB := hlsB.up hle2); (try have hP := hP.up hle2); (try have hQ := hQ.up hle2))
          all_goals (refine zt ?_; refine zy ?_; refine s_cq ?_; refine zb2 [_, _, _, _, _, _, _, _, _, _, _, _] ?_; refine zt ?_; refine Q10 ?_; refine Q8 hS ?_; intro p9 w1 hS; refine zt ?_; refine zy ?_; refine s_cf ?_; refine zsn hS ?_; intro w1 hS; have hS := hS.ns; refine zt ?_; refine zcn ?_; exact ⟨_, a3, n3, p9, zh, zh, hJ10, by assumption, hS.sp⟩)
        · skip
          all_goals (refine zC [(0, none), (1, none), (2, none), (3, none), (6, some (some [1, 3])), (4, some (some [1])), (5, none), (7, some none)] ?_; have hS := hS.drew; refine s_cq ?_; refine Q2 rfl ?_; refine zt ?_; refine s_cq ?_; refine zl hS ?_; refine zt ?_; refine s_cq ?_; refine Q2 rfl ?_; refine zt ?_; refine s_cq ?_; refine zl hS ?_; refine zt ?_; refine Q10 ?_; refine Q8 hS ?_; intro p9 w1 hS; refine zt ?_; refine zy ?_; refine Q10 ?_)
          all_goals (refine zR1 (c := Q5g hsb.1.1 hsb.1.2 hp2 hS) (h := ?_); rintro v1 w1 ⟨c3, hle2, hk3, hS⟩; obtain ⟨a3, n3, rfl⟩ := Rep.SR.shape hk3; (try have hle := hle.trans hle2); (try have hL0 := hL0.trans hle2); (try have hL1 := hL1.trans hle2); (try have hJ6 := hJ6.trans hle2); (try have hJ10 := hJ10.trans hle2); (try have hf := hf.up hle2); (try have hk1 := hk1.up hle2); (try have hk2 := hk2.up hle2); (try have hp1 := hp1.up hle2); (try have hr1 := hr1.up hle2); (try have hb1 := hb1.up hle2); (try have hp2 := hp2.up hle2); (try have hc2 := hc2.up hle2); (try have he21 := he21.up hle2); (try have he22 := he22.up hle2); (try have he23 := he23.up hle2); (try have he24 := he24.up hle2); (try have he25 := he25.up hle2); (try have he1 := he1.up hle2); (try have he2 := he2.up hle2); (try have hls := hls.up hle2); (try have hlsB := hlsB.up hle2); (try have hP := hP.up hle2); (try have hQ := hQ.up hle2))
          all_goals (refine zt ?_; refine zy ?_; refine s_cq ?_; refine zb2 [_, _, _, _, _, _, _, _, _, _, _, _] ?_; refine zt ?_; refine s_cf ?_; refine zsn hS ?_; intro w1 hS; have hS := hS.ns; refine zt ?_; refine zcn ?_; exact ⟨_, a3, n3, p9, zh, zh, hJ10, by assumption, hS.sp⟩)
      rintro ρ w1 ⟨k10, a3, n3, p9, hA, hρ, hle2, hk3, hS⟩; obtain ⟨ρ, rfl⟩ := env2 hA hρ; (try have hle := hle.trans hle2); (try have hL0 := hL0.trans hle2); (try have hL1 := hL1.trans hle2); (try have hJ6 := hJ6.trans hle2); (try have hJ10 := hJ10.trans hle2); (try have hf := hf.up hle2); (try have hk1 := hk1.up hle2); (try have hk2 := hk2.up hle2); (try have hp1 := hp1.up hle2); (try have hr1 := hr1.up hle2); (try have hb1 := hb1.up hle2); (try have hp2 := hp2.up hle2); (try have hc2 := hc2.up hle2); (try have he21 := he21.up hle2); (try have he22 := he22.up hle2); (try have he23 := he23.up hle2); (try have he24 := he24.up hle2); (try have he25 := he25.up hle2); (try have he1 := he1.up hle2); (try have he2 := he2.up hle2); (try have hls := hls.up hle2); (try have hlsB := hlsB.up hle2); (try have hP := hP.up hle2); (try have hQ := hQ.up hle2)
      all_goals (refine Q0 ?_; refine Q0 ?_; refine Q1 ?_; refine zm ?_; refine zn ?_; refine Qb ?_)
      refine zo [1, 2, 3, 4, 5, 6, 7, 8, 9] (fun A ρ' w' => ∃ (k2 : Cx) (k : Nat) (uc : Value) (cssC : List (List Value)), Has ρ' A ∧ Has ρ' [(10, .int .i64 k)] ∧ (k10.Le k2) ∧ (k ≤ x2.code.length) ∧ (insR.ls k2 cssC (x2.code.take k)) ∧ (oneC uc = true) ∧ St k2 w' (sl 27 8 uc cssC :: blk p9 77 [.int .i64 x2.regs, .slice a3 x2.params.length n3, uc, .int .i64 0, .int .i64 0, .int .i64 0, .slice none 0 0, .slice none 0 0, .int .i64 0, .slice none 0 0, .slice none 0 0, .slice none 0 0] :: blk p8 77 [.int .i64 x2.regs, vp2, vc2, .int .i64 x2.fin.op, .int .i64 x2.fin.a, .int .i64 x2.fin.yes.block, ve21, ve22, .int .i64 x2.fin.no.block, ve23, ve24, ve25] :: sl 77 12 ub cssB :: blk p6 31 [.int .i64 x1.regs, .slice a1 x1.params.length n1, .slice a2 x1.results.length n2, ub] :: blk p5 31 [.int .i64 x1.regs, vp1, vr1, vb1] :: sl 31 4 u css :: blk p3 24 [u] :: blk p2 24 [.slice none 0 0] :: blk p1 24 [vf] :: (Ly ++ (Lx ++ L)))) (fun ρ' _ => (x2.code.length - iv (ρ' 10)).toNat) ?_ ?_
      · exact ⟨k10, 0, .slice none 0 0, [], zh, zh, St.refl hS, (by omega), Rep.LR.nil _ _ _, rfl, by have hS := hS.nil (T := 27) (es := 8); exact hS.sp⟩
      rintro ρ w1 ⟨k2, k, uc, cssC, hA, hρ, hle2, hkk, hlsC, huc, hS⟩; obtain ⟨ρ, rfl⟩ := env2 hA hρ; have hL2 := hle2; (try have hle := hle.trans hle2); (try have hL0 := hL0.trans hle2); (try have hL1 := hL1.trans hle2); (try have hJ6 := hJ6.trans hle2); (try have hJ10 := hJ10.trans hle2); (try have hf := hf.up hle2); (try have hk1 := hk1.up hle2); (try have hk2 := hk2.up hle2); (try have hk3 := hk3.up hle2); (try have hp1 := hp1.up hle2); (try have hr1 := hr1.up hle2); (try have hb1 := hb1.up hle2); (try have hp2 := hp2.up hle2); (try have hc2 := hc2.up hle2); (try have he21 := he21.up hle2); (try have he22 := he22.up hle2); (try have he23 := he23.up hle2); (try have he24 := he24.up hle2); (try have he25 := he25.up hle2); (try have he1 := he1.up hle2); (try have he2 := he2.up hle2); (try have hls := hls.up hle2); (try have hlsB := hlsB.up hle2); (try have hP := hP.up hle2); (try have hQ := hQ.up hle2)
      unfold Q5J
      all_goals (refine Q0 ?_; refine Q0 ?_; refine Q1 ?_; refine zm ?_; refine Q2 rfl ?_; refine zl hS ?_; refine zL ?_; refine QC rfl rfl ?_; refine zn ?_)
      refine Qy rfl (fun hc => ?_) (fun hc => ?_)
      · skip
        all_goals (refine zsk ?_; refine Q0 ?_; refine Qb ?_; refine Q0 ?_; refine Q1 ?_; refine Q2 rfl ?_; refine zl hS ?_; refine zm ?_; refine zi ?_; intro b3 o3 cs3 x3 hat3 hx3 he3; obtain ⟨vr3, va3, rfl, hr3, ha3⟩ := Q1Q he3; (first | (refine zv hS ?_) | (refine zvk hS ?_)); refine Q8 hS ?_; intro p11 w1 hS; refine zsn hS ?_; intro w1 hS; have hS := hS.ns; refine zn ?_; refine Q0 ?_; have hsi := hsb.2.2.1 x3 (List.mem_of_getElem? hx3); refine zC [(0, none), (1, none), (3, none), (4, none), (2, some (some [4])), (6, none), (5, some (some [])), (7, some none), (8, none), (9, some none)] ?_; have hS := hS.drew; refine s_cq ?_; refine Q2 rfl ?_; refine zt ?_; refine s_cq ?_; refine zl hS ?_; refine zt ?_; refine s_cq ?_; refine Q2 rfl ?_; refine zt ?_; refine s_cq ?_; refine zl hS ?_; refine zt ?_; refine Q10 ?_)
        all_goals (refine zR1 (c := Q47 (by have := hsi.1; omega) hr3 hS) (h := ?_); rintro v1 w1 ⟨c4, hle2, hk4, hS⟩; obtain ⟨a4, n4, rfl⟩ := Rep.SR.shape hk4; (try have hle := hle.trans hle2); (try have hL0 := hL0.trans hle2); (try have hL1 := hL1.trans hle2); (try have hL2 := hL2.trans hle2); (try have hJ6 := hJ6.trans hle2); (try have hJ10 := hJ10.trans hle2); (try have hf := hf.up hle2); (try have hk1 := hk1.up hle2); (try have hk2 := hk2.up hle2); (try have hk3 := hk3.up hle2); (try have hp1 := hp1.up hle2); (try have hr1 := hr1.up hle2); (try have hb1 := hb1.up hle2); (try have hp2 := hp2.up hle2); (try have hc2 := hc2.up hle2); (try have he21 := he21.up hle2); (try have he22 := he22.up hle2); (try have he23 := he23.up hle2); (try have he24 := he24.up hle2); (try have he25 := he25.up hle2); (try have hr3 := hr3.up hle2); (try have ha3 := ha3.up hle2); (try have he1 := he1.up hle2); (try have he2 := he2.up hle2); (try have he3 := he3.up hle2); (try have hls := hls.up hle2); (try have hlsB := hlsB.up hle2); (try have hlsC := hlsC.up hle2); (try have hP := hP.up hle2); (try have hQ := hQ.up hle2))
        all_goals (refine zt ?_; refine zy ?_; refine s_cq ?_; refine Q2 rfl ?_; refine zt ?_; refine Q10 ?_)
        all_goals (refine zR1 (c := Q47 (by have := hsi.2; omega) ha3 hS) (h := ?_); rintro v1 w1 ⟨c5, hle2, hk5, hS⟩; obtain ⟨a5, n5, rfl⟩ := Rep.SR.shape hk5; (try have hle := hle.trans hle2); (try have hL0 := hL0.trans hle2); (try have hL1 := hL1.trans hle2); (try have hL2 := hL2.trans hle2); (try have hJ6 := hJ6.trans hle2); (try have hJ10 := hJ10.trans hle2); (try have hf := hf.up hle2); (try have hk1 := hk1.up hle2); (try have hk2 := hk2.up hle2); (try have hk3 := hk3.up hle2); (try have hk4 := hk4.up hle2); (try have hp1 := hp1.up hle2); (try have hr1 := hr1.up hle2); (try have hb1 := hb1.up hle2); (try have hp2 := hp2.up hle2); (try have hc2 := hc2.up hle2); (try have he21 := he21.up hle2); (try have he22 := he22.up hle2); (try have he23 := he23.up hle2); (try have he24 := he24.up hle2); (try have he25 := he25.up hle2); (try have hr3 := hr3.up hle2); (try have ha3 := ha3.up hle2); (try have he1 := he1.up hle2); (try have he2 := he2.up hle2); (try have he3 := he3.up hle2); (try have hls := hls.up hle2); (try have hlsB := hlsB.up hle2); (try have hlsC := hlsC.up hle2); (try have hP := hP.up hle2); (try have hQ := hQ.up hle2))
        all_goals (refine zt ?_; refine zy ?_; refine s_cf ?_; refine zst hS ?_; intro w1 hS; have hS := hS.ns; refine zt ?_; refine s_cq ?_; refine Q2 rfl ?_; refine zt ?_; refine s_cf ?_; refine zst hS ?_; intro w1 hS; have hS := hS.ns; refine zt ?_; refine zcn ?_; have hk9 : insR.at c5 _ x3 := ⟨_, _, rfl, hk4, hk5⟩; refine Q1 ?_; refine Q2 rfl ?_; refine zl hS ?_; refine zv hS ?_; refine zB1 hS [_, _, _, _, _, _, _, _] ?_; intro b1 w1 hS; refine za QqL u_T58 hS ?_; intro vp1 w1 css1 hls1 hv1 hS; have hS := hS.ns; refine Q2 rfl ?_; refine zst hS ?_; intro w1 hS; have hS := hS.ns; refine zn ?_; refine Q1 ?_; refine zm ?_; refine zad ?_; refine zm ?_; refine zn ?_; exact ⟨⟨_, k + 1, _, _, zh, zh, hL2, (by omega), by rw [Q1B hx3]; assumption, by assumption, hS.sp⟩, Qx (by omega)⟩)
      · skip
        all_goals (refine zex ?_)
        all_goals (rw [List.take_of_length_le (by omega)] at hlsC; by_cases hib : i = b1; rotate_left; obtain ⟨c6, hle2, hS, hk6⟩ := St.freezeL (r := insR) (l := x2.code) hS hlsC rfl (by have := hsb.2.1; omega); obtain ⟨a6, n6, rfl⟩ := Rep.SR.shape hk6; (try have hle := hle.trans hle2); (try have hL0 := hL0.trans hle2); (try have hL1 := hL1.trans hle2); (try have hL2 := hL2.trans hle2); (try have hJ6 := hJ6.trans hle2); (try have hJ10 := hJ10.trans hle2); (try have hf := hf.up hle2); (try have hk1 := hk1.up hle2); (try have hk2 := hk2.up hle2); (try have hk3 := hk3.up hle2); (try have hp1 := hp1.up hle2); (try have hr1 := hr1.up hle2); (try have hb1 := hb1.up hle2); (try have hp2 := hp2.up hle2); (try have hc2 := hc2.up hle2); (try have he21 := he21.up hle2); (try have he22 := he22.up hle2); (try have he23 := he23.up hle2); (try have he24 := he24.up hle2); (try have he25 := he25.up hle2); (try have he1 := he1.up hle2); (try have he2 := he2.up hle2); (try have hls := hls.up hle2); (try have hlsB := hlsB.up hle2); (try have hlsC := hlsC.up hle2); (try have hP := hP.up hle2); (try have hQ := hQ.up hle2))
        all_goals (refine Q0 ?_; refine zC [(0, none), (1, none), (2, none), (3, none), (4, none), (5, none), (6, none), (7, none), (8, none), (10, none), (11, none), (12, none), (14, none), (15, none), (16, none), (9, some (some [2, 5, 12, 16])), (13, some (some [2, 5, 16])), (17, some (some [2, 5])), (18, none), (19, none), (20, some none)] ?_; have hS := hS.drew; refine s_cq ?_; refine Q2 rfl ?_; refine zt ?_; refine s_cq ?_; (first | refine Q2 rfl ?_ | refine Q1A rfl ?_); refine zt ?_; refine s_cq ?_; refine zl hS ?_; refine zt ?_; refine s_cq ?_; refine Q2 rfl ?_; refine zt ?_; refine s_cq ?_; (first | refine Q2 rfl ?_ | refine Q1A rfl ?_); refine zt ?_; refine s_cq ?_; refine zl hS ?_; refine zt ?_; refine s_cq ?_; refine Q2 rfl ?_; refine zt ?_; refine s_cq ?_; (first | refine Q2 rfl ?_ | refine Q1A rfl ?_); refine zt ?_; refine s_cq ?_; refine zv hS ?_; refine zt ?_; refine s_cq ?_; refine Q2 rfl ?_; refine zt ?_; refine s_cq ?_; (first | refine Q2 rfl ?_ | refine Q1A rfl ?_); refine zt ?_; refine s_cq ?_; refine zv hS ?_; refine zt ?_; refine s_cq ?_; refine Q2 rfl ?_)
        all_goals (refine zt ?_; refine s_cq ?_; (first | refine Q2 rfl ?_ | refine Q1A rfl ?_); refine zt ?_; refine s_cq ?_; refine zl hS ?_; refine zt ?_; refine Q10 ?_)
        all_goals (refine zR1 (c := Qoq (x := x2.fin.yes) (by have := hsb.2.2.2.1.1; omega) (by have := hsb.2.2.2.1.2; omega) ⟨_, _, rfl, he21, he22⟩ hS) (h := ?_); rintro v1 w1 ⟨c7, ds, rfl, hle2, hk7, hS⟩; obtain ⟨y1, y2, rfl, hy1, hy2⟩ := Q4p hk7; obtain ⟨a7, n7, rfl⟩ := Rep.SR.shape hy1; obtain ⟨a8, n8, rfl⟩ := Rep.SR.shape hy2; (try have hle := hle.trans hle2); (try have hL0 := hL0.trans hle2); (try have hL1 := hL1.trans hle2); (try have hL2 := hL2.trans hle2); (try have hJ6 := hJ6.trans hle2); (try have hJ10 := hJ10.trans hle2); (try have hf := hf.up hle2); (try have hk1 := hk1.up hle2); (try have hk2 := hk2.up hle2); (try have hk3 := hk3.up hle2); (try have hk6 := hk6.up hle2); (try have hp1 := hp1.up hle2); (try have hr1 := hr1.up hle2); (try have hb1 := hb1.up hle2); (try have hp2 := hp2.up hle2); (try have hc2 := hc2.up hle2); (try have he21 := he21.up hle2); (try have he22 := he22.up hle2); (try have he23 := he23.up hle2); (try have he24 := he24.up hle2); (try have he25 := he25.up hle2); (try have he1 := he1.up hle2); (try have he2 := he2.up hle2); (try have hls := hls.up hle2); (try have hlsB := hlsB.up hle2); (try have hlsC := hlsC.up hle2); (try have hP := hP.up hle2); (try have hQ := hQ.up hle2))
        all_goals (refine zt ?_; refine zy ?_; refine Q10 ?_)
        all_goals (refine zR1 (c := Qoq (x := x2.fin.no) (by have := hsb.2.2.2.2.1.1; omega) (by have := hsb.2.2.2.2.1.2; omega) ⟨_, _, rfl, he23, he24⟩ hS) (h := ?_); rintro v1 w1 ⟨c8, ds, rfl, hle2, hk8, hS⟩; obtain ⟨z1, z2, rfl, hz1, hz2⟩ := Q4p hk8; obtain ⟨a9, n9, rfl⟩ := Rep.SR.shape hz1; obtain ⟨a10, n10, rfl⟩ := Rep.SR.shape hz2; (try have hle := hle.trans hle2); (try have hL0 := hL0.trans hle2); (try have hL1 := hL1.trans hle2); (try have hL2 := hL2.trans hle2); (try have hJ6 := hJ6.trans hle2); (try have hJ10 := hJ10.trans hle2); (try have hf := hf.up hle2); (try have hk1 := hk1.up hle2); (try have hk2 := hk2.up hle2); (try have hk3 := hk3.up hle2); (try have hk6 := hk6.up hle2); (try have hk7 := hk7.up hle2); (try have hp1 := hp1.up hle2); (try have hr1 := hr1.up hle2); (try have hb1 := hb1.up hle2); (try have hp2 := hp2.up hle2); (try have hc2 := hc2.up hle2); (try have he21 := he21.up hle2); (try have he22 := he22.up hle2); (try have he23 := he23.up hle2); (try have he24 := he24.up hle2); (try have he25 := he25.up hle2); (try have he1 := he1.up hle2); (try have he2 := he2.up hle2); (try have hls := hls.up hle2); (try have hy1 := hy1.up hle2); (try have hy2 := hy2.up hle2); (try have hlsB := hlsB.up hle2); (try have hlsC := hlsC.up hle2); (try have hP := hP.up hle2); (try have hQ := hQ.up hle2))
        all_goals (refine zt ?_; refine zy ?_; refine Q10 ?_)
        all_goals (refine zR1 (c := Q47 (by have := hsb.2.2.2.2.2; omega) he25 hS) (h := ?_); rintro v1 w1 ⟨c9, hle2, hw1, hS⟩; obtain ⟨a11, n11, rfl⟩ := Rep.SR.shape hw1; (try have hle := hle.trans hle2); (try have hL0 := hL0.trans hle2); (try have hL1 := hL1.trans hle2); (try have hL2 := hL2.trans hle2); (try have hJ6 := hJ6.trans hle2); (try have hJ10 := hJ10.trans hle2); (try have hf := hf.up hle2); (try have hk1 := hk1.up hle2); (try have hk2 := hk2.up hle2); (try have hk3 := hk3.up hle2); (try have hk6 := hk6.up hle2); (try have hk7 := hk7.up hle2); (try have hk8 := hk8.up hle2); (try have hp1 := hp1.up hle2); (try have hr1 := hr1.up hle2); (try have hb1 := hb1.up hle2); (try have hp2 := hp2.up hle2); (try have hc2 := hc2.up hle2); (try have he21 := he21.up hle2); (try have he22 := he22.up hle2); (try have he23 := he23.up hle2); (try have he24 := he24.up hle2); (try have he25 := he25.up hle2); (try have he1 := he1.up hle2); (try have he2 := he2.up hle2); (try have hls := hls.up hle2); (try have hy1 := hy1.up hle2); (try have hy2 := hy2.up hle2); (try have hz1 := hz1.up hle2); (try have hz2 := hz2.up hle2); (try have hlsB := hlsB.up hle2); (try have hlsC := hlsC.up hle2); (try have hP := hP.up hle2); (try have hQ := hQ.up hle2))
        all_goals (refine zt ?_; refine zy ?_; refine s_cq ?_; refine zb5 [_, _, _, _, _, _, _, _, _] ?_; refine zt ?_; refine s_cq ?_; refine Q2 rfl ?_; refine zt ?_; refine s_cf ?_; (first | (refine zsn hS ?_; intro w1 hS; have hS := hS.ns) | (refine zsm hS ?_; intro w1 hS; have hS := hS.ns)); refine zt ?_; refine zcn ?_; (first | (have hk9 : blockR.hole.at c9 _ (.inl x2) := QqE (Qfh (x := x2) hk3 hk6 hy1 hy2 hz1 hz2 hw1)) | (obtain ⟨hjf, hbb, rfl, rfl⟩ := own_here hfn hy hx1 hx2 hb1' hib; have hey9 := AtB.nil hQ (by omega); subst hey9; rw [List.nil_append] at hS; have hB9 : OwnB TI9 c9 x2 [.int .i64 x2.regs, .slice a3 x2.params.length n3, uc, .int .i64 x2.fin.op, .int .i64 x2.fin.a, .int .i64 x2.fin.yes.block, .slice a7 x2.fin.yes.regs.length n7, .slice a8 x2.fin.yes.args.length n8, .int .i64 x2.fin.no.block, .slice a9 x2.fin.no.regs.length n9, .slice a10 x2.fin.no.args.length n10, .slice a11 x2.fin.args.length n11] [sl TI9 8 uc cssC] := OwnB.mk hk3 hy1 hy2 hz1 hz2 hw1 huc hlsC; have hk9 : blockR.hole.at c9 [.int .i64 x2.regs, .slice a3 x2.params.length n3, uc, .int .i64 x2.fin.op, .int .i64 x2.fin.a, .int .i64 x2.fin.yes.block, .slice a7 x2.fin.yes.regs.length n7, .slice a8 x2.fin.yes.args.length n8, .int .i64 x2.fin.no.block, .slice a9 x2.fin.no.regs.length n9, .slice a10 x2.fin.no.args.length n10, .slice a11 x2.fin.args.length n11] (.inr [.int .i64 x2.regs, .slice a3 x2.params.length n3, uc, .int .i64 x2.fin.op, .int .i64 x2.fin.a, .int .i64 x2.fin.yes.block, .slice a7 x2.fin.yes.regs.length n7, .slice a8 x2.fin.yes.args.length n8, .int .i64 x2.fin.no.block, .slice a9 x2.fin.no.regs.length n9, .slice a10 x2.fin.no.args.length n10, .slice a11 x2.fin.args.length n11]) := Qqe rfl (Q1z rfl (Q1z rfl (Q1z huc (Q1z rfl (Q1z rfl (Q1z rfl (Q1z rfl (Q1z rfl (Q1z rfl (Q1z rfl (Q1z rfl (Q1z rfl Qoz)))))))))))))))
        all_goals (refine Q1 ?_; refine Q2 rfl ?_; refine zl hS ?_; refine zv hS ?_; refine zB1 hS [_, _, _, _, _, _, _, _, _, _, _, _] ?_; intro b1 w1 hS; refine za el_T29 u_T29 hS ?_; intro vp2 w2 css2 hls2 hv2 hS; have hS := hS.ns; refine Q2 rfl ?_; refine zst hS ?_; intro w1 hS; have hS := hS.ns; refine zn ?_; refine Q1 ?_; refine zm ?_; refine zad ?_; refine zm ?_; refine zn ?_; (first | (exact ⟨⟨_, i + 1, _, _, dB, Ly, zh, zh, hL1, (by omega), (by rw [Q1B (Qjf hx2 hib)]; assumption), by assumption, AtB.next hQ hib, hS.sp⟩, Qx (by omega)⟩) | (exact ⟨⟨_, i + 1, _, _, [.int .i64 x2.regs, .slice a3 x2.params.length n3, uc, .int .i64 x2.fin.op, .int .i64 x2.fin.a, .int .i64 x2.fin.yes.block, .slice a7 x2.fin.yes.regs.length n7, .slice a8 x2.fin.yes.args.length n8, .int .i64 x2.fin.no.block, .slice a9 x2.fin.no.regs.length n9, .slice a10 x2.fin.no.args.length n10, .slice a11 x2.fin.args.length n11], [sl TI9 8 uc cssC], zh, zh, hL1, (by omega), (by rw [Q1B (Qlo (by omega) hib), Qix (d' := dB) (by omega)]; assumption), by assumption, AtB.some_ (by omega) hB9, hS.sp⟩, Qx (by omega)⟩)))
    · skip
      all_goals (refine zex ?_)
      all_goals (rw [List.take_of_length_le (by rw [Q5A]; omega)] at hlsB; by_cases hjf : j = f0; rotate_left; rw [QqC (by rw [hb1', if_neg hjf]; omega)] at hlsB; have hlsB := hole_ls hlsB; have hey9 := AtB.nil hQ (by rw [hb1', if_neg hjf]; omega); subst hey9; rw [List.nil_append] at hS; obtain ⟨c10, hle2, hS, hk6⟩ := St.freezeL (r := blockR) (l := x1.blocks) hS hlsB rfl (by have := hsh.2.2.1; omega); obtain ⟨a6, n6, rfl⟩ := Rep.SR.shape hk6; (try have hle := hle.trans hle2); (try have hL0 := hL0.trans hle2); (try have hL1 := hL1.trans hle2); (try have hJ6 := hJ6.trans hle2); (try have hf := hf.up hle2); (try have hk1 := hk1.up hle2); (try have hk2 := hk2.up hle2); (try have hp1 := hp1.up hle2); (try have hr1 := hr1.up hle2); (try have hb1 := hb1.up hle2); (try have he1 := he1.up hle2); (try have hls := hls.up hle2); (try have hlsB := hlsB.up hle2); (try have hP := hP.up hle2); (try have hQ := hQ.up hle2))
      all_goals ((first | (have hk9 : funcR.hole.at c10 _ (.inl x1) := QqE ⟨_, _, _, rfl, hk1, hk2, hk6⟩) | (obtain rfl : x1 = fn := Option.some.inj (hx1.symm.trans (by rw [hjf]; exact hfn)); rw [if_pos hjf] at hb1'; have hQ9 := AtB.own hQ (by omega); have hex9 := AtF.nil hP (by omega); subst hex9; rw [List.nil_append] at hS; have hF9 : OwnF TB9 TI9 k1 x1 b0 y [.int .i64 x1.regs, .slice a1 x1.params.length n1, .slice a2 x1.results.length n2, ub] (sl TB9 12 ub cssB :: Ly) := OwnF.mk hk1 hk2 hub (by rw [← hb1']; exact hlsB) hQ9; have hk9 : funcR.hole.at k1 [.int .i64 x1.regs, .slice a1 x1.params.length n1, .slice a2 x1.results.length n2, ub] (.inr [.int .i64 x1.regs, .slice a1 x1.params.length n1, .slice a2 x1.results.length n2, ub]) := Qqe rfl (Q1z rfl (Q1z rfl (Q1z rfl (Q1z hub Qoz)))))); refine Q1 ?_; refine Q2 rfl ?_; refine zl hS ?_; refine zv hS ?_; refine zB1 hS [_, _, _, _] ?_; intro b1 w1 hS; refine za el_T22 u_T22 hS ?_; intro vp3 w3 css3 hls3 hv3 hS; have hS := hS.ns; refine Q2 rfl ?_; refine zst hS ?_; intro w1 hS; have hS := hS.ns; refine zn ?_; refine Q1 ?_; refine zm ?_)
      all_goals (refine zad ?_; refine zm ?_; refine zn ?_; (first | (exact ⟨⟨_, j + 1, _, _, dF, Lx, zh, zh, hL0, (by omega), (by rw [Q1B (Qjf hx1 hjf)]; assumption), by assumption, AtF.next hP hjf, hS.sp⟩, Qx (by omega)⟩) | (exact ⟨⟨_, j + 1, _, _, [.int .i64 x1.regs, .slice a1 x1.params.length n1, .slice a2 x1.results.length n2, ub], sl TB9 12 ub cssB :: Ly, zh, zh, hL0, (by omega), (by rw [Q1B (Qlo (by omega) hjf), Qix (d' := dF) (by omega)]; assumption), by assumption, AtF.some_ (by omega) hF9, hS.sp⟩, Qx (by omega)⟩)))
  · skip
    all_goals (refine zex ?_; rw [List.take_of_length_le (by rw [Q5A]; omega)] at hls; have hF := AtF.own hP (by omega); refine Q0 ?_; refine Q1 ?_; refine zv hS ?_; refine zsn hS ?_; intro w1 hS; have hS := hS.ns; refine zn ?_; refine zr ?_; refine Q18 vw (Qc (n := 1) (by kernel_rfl) (by kernel_rfl) (hS.blkAt fd) (by rfl) (by rfl)) ?_; exact ⟨_, rfl, k0, u, css, dF, Lx, rfl, hle, hu, hls, hF, hS.sp⟩)
end Go.Proofs.Ytanlkfeogoganaa
namespace Go.Lir
set_option linter.unusedVariables false
/-- What the program makes of a number ahead of writing it. -/
def zigI (n : Int) : Int := bitI .xor .u64 (IntKind.u64.wrap (IntKind.u64.wrap n * 2 ^ (min (1 : Int).toNat IntKind.u64.bits))) (IntKind.u64.wrap (n.fdiv (2 ^ (min (63 : Int).toNat IntKind.i64.bits))))
def zig (n : Int) : Nat := (zigI n).toNat
/-- The low bits first, seven at a time. -/
def leb : Nat → Nat → List UInt8
  | 0, _ => []
  | k + 1, u => if u < 128 then [UInt8.ofNat u] else UInt8.ofNat (u % 128 + 128) :: leb k (u / 128)
theorem Qqh : ∀ (k u : Nat), (leb k u).length ≤ k
  | 0, _ => by simp [leb]
  | k + 1, u => by
    rw [leb]
    split
    · simp
    · have := Qqh k (u / 128)
      simp only [List.length_cons]; omega
def Q55 (n : Int) : List UInt8 := leb 10 (zig n)
def QoA (l : List Int) : List UInt8 := l.flatMap Q55
theorem Q15 (n : Int) : (Q55 n).length ≤ 10 := Qqh 10 _
theorem Qit : ∀ (l : List Int), (QoA l).length ≤ 10 * l.length
  | [] => by simp [QoA]
  | n :: l => by
    have h1 := Q15 n
    have h2 := Qit l
    simp only [QoA, List.flatMap_cons, List.length_append, List.length_cons] at h2 ⊢
    omega
/-- A list of numbers, its length ahead of it. -/
def Qn4 (l : List Int) : List UInt8 := Q55 l.length ++ QoA l
mutual
def Ty.bts : Ty → List UInt8
  | .mk k r l => Q55 k ++ (if k ≠ 1 then Q55 r else []) ++ (if k = 3 then Q55 l.length ++ Tys.bts l else [])
def Tys.bts : List Ty → List UInt8
  | [] => []
  | x :: l => x.bts ++ Tys.bts l
end
/-- A list of types, its length ahead of it. -/
def tysB (l : List Ty) : List UInt8 := Q55 l.length ++ Tys.bts l
def To.bts (t : To) : List UInt8 := Q55 t.block ++ Qn4 t.regs ++ Qn4 t.args
def Tail.bts (e : Tail) : List UInt8 := Q55 e.op ++ (if e.op = 1 then e.yes.bts else if e.op = 2 then Q55 e.a ++ e.yes.bts ++ e.no.bts else if e.op = 3 then Qn4 e.args else [])
/-- Which parts an instruction has. -/
def QeW (op : Int) : Nat := if op < 0 ∨ 14 < op then 0 else [0, 64, 11, 0, 1, 33, 9, 11, 3, 3, 7, 1, 0, 1, 56].getD op.toNat 0
def regsB (h : Nat) : Nat → List Int → List UInt8
  | _, [] => []
  | k, n :: l => (if h / 2 ^ k % 2 = 1 then Q55 n else []) ++ regsB h (k + 1) l
def Ins.bts (x : Ins) : List UInt8 := Q55 x.op ++ regsB (QeW x.op) 0 [x.a, x.b, x.c, x.k] ++ (if QeW x.op / 64 % 2 = 1 then Q55 x.n else []) ++ (if QeW x.op / 16 % 2 = 1 then Qn4 x.regs else []) ++ (if QeW x.op / 32 % 2 = 1 then Qn4 x.args else [])
end Go.Lir
namespace Go.Lir
set_option linter.unusedVariables false
mutual
def Ty.nodes : Ty → Nat
  | .mk _ _ l => 1 + Tys.nodes l
def Tys.nodes : List Ty → Nat
  | [] => 0
  | x :: l => x.nodes + Tys.nodes l
end
mutual
theorem Ty.size_nodes : ∀ (t : Ty) {n : Int}, 0 ≤ t.size n → t.size n = n - t.nodes
  | .mk k r l, n, h => by
    rw [Ty.size] at h ⊢
    rw [Tys.size_nodes l h, Ty.nodes]
    omega
theorem Tys.size_nodes : ∀ (l : List Ty) {n : Int}, 0 ≤ Tys.size l n → Tys.size l n = n - Tys.nodes l
  | [], n, h => by rw [Tys.size, Tys.nodes]; omega
  | x :: l, n, h => by
    rw [Tys.size] at h ⊢
    by_cases hn : 0 ≤ n
    · rw [if_pos hn] at h ⊢
      have hx : 0 ≤ x.size n := by
        rcases Int.lt_or_le (x.size n) 0 with h1 | h1
        · rw [Tys.size_neg l h1] at h; omega
        · exact h1
      rw [Tys.size_nodes l h, Ty.size_nodes x hx, Tys.nodes]
      omega
    · rw [if_neg hn] at h; omega
end
theorem Ty.nodes_of_great {t : Ty} (h : t.great = false) : t.nodes ≤ 2000 := by
  unfold Ty.great at h
  simp at h
  have := Ty.size_nodes t h
  omega
end Go.Lir
namespace Go.Lir
set_option linter.unusedVariables false
/-- One bit. -/
def crcStep (c : BitVec 32) : BitVec 32 := (c >>> 1) ^^^ (3988292384#32 &&& -(c &&& 1#32))
def crcN : Nat → BitVec 32 → BitVec 32
  | 0, c => c
  | k + 1, c => crcN k (crcStep c)
/-- One byte. -/
def crcByte (c : BitVec 32) (x : UInt8) : BitVec 32 := crcN 8 (c ^^^ BitVec.ofNat 32 x.toNat)
def crcOf (bs : List UInt8) : BitVec 32 := 4294967295#32 ^^^ bs.foldl crcByte 4294967295#32
section
variable {P : Program} {l : List GO} {Q : QT} {ρ : Env} {w : World}
end
end Go.Lir
namespace Go.Lir
set_option linter.unusedVariables false
def Block.bts (b : Block) : List UInt8 := Q55 b.regs ++ tysB b.params ++ Q55 b.code.length ++ b.code.flatMap Ins.bts ++ b.fin.bts
def Fun.bts (f : Fun) : List UInt8 := Q55 f.regs ++ tysB f.params ++ tysB f.results ++ Q55 f.blocks.length ++ f.blocks.flatMap Block.bts
def Module.body (m : Module) : List UInt8 := [67, 72, 1] ++ Q55 m.funcs.length ++ m.funcs.flatMap Fun.bts
def Ins.Few (x : Ins) : Prop := x.regs.length ≤ 300 ∧ x.args.length ≤ 300
def To.Few (x : To) : Prop := x.regs.length ≤ 300 ∧ x.args.length ≤ 300
def Tail.Few (x : Tail) : Prop := x.yes.Few ∧ x.no.Few ∧ x.args.length ≤ 300
def Block.Few (b : Block) : Prop := Tys.great b.params = false ∧ b.code.length ≤ 200 ∧ (∀ i ∈ b.code, i.Few) ∧ b.fin.Few
def Fun.Few (f : Fun) : Prop := Tys.great f.params = false ∧ Tys.great f.results = false ∧ f.blocks.length ≤ 30 ∧ ∀ b ∈ f.blocks, b.Few
def Module.Few (m : Module) : Prop := m.funcs.length ≤ 20 ∧ ∀ f ∈ m.funcs, f.Few
theorem QoQ {α : Type} {f : α → List UInt8} {c : Nat} : ∀ {l : List α}, (∀ x ∈ l, (f x).length ≤ c) → (l.flatMap f).length ≤ l.length * c
  | [], _ => by simp
  | x :: l, h => by
    have h1 := h x (List.mem_cons_self ..)
    have h2 := QoQ (l := l) fun y hy => h y (List.mem_cons_of_mem _ hy)
    rw [List.flatMap_cons, List.length_append, List.length_cons, Nat.succ_mul]
    omega
theorem Qlt {α : Type} {f : α → List UInt8} {c n : Nat} {l : List α} (h : ∀ x ∈ l, (f x).length ≤ c) (hn : l.length ≤ n) : (l.flatMap f).length ≤ n * c :=
  Nat.le_trans (QoQ h) (Nat.mul_le_mul_right c hn)
mutual
theorem Ty.bts_len : ∀ (t : Ty), t.bts.length ≤ 30 * t.nodes
  | .mk k r l => by
    have h1 := Tys.bts_len l
    have h2 := Q15 k
    have h3 := Q15 r
    have h4 := Q15 l.length
    rw [Ty.bts, Ty.nodes]
    simp only [List.length_append]
    split <;> split <;> simp only [List.length_append, List.length_nil] <;> omega
theorem Tys.bts_len : ∀ (l : List Ty), (Tys.bts l).length ≤ 30 * Tys.nodes l
  | [] => by simp [Tys.bts]
  | x :: l => by
    have h1 := Ty.bts_len x
    have h2 := Tys.bts_len l
    rw [Tys.bts, Tys.nodes, List.length_append]
    omega
end
theorem Tys.nodes_few : ∀ {l : List Ty}, (∀ x ∈ l, x.nodes ≤ 2000) → Tys.nodes l ≤ 2000 * l.length
  | [], _ => by simp [Tys.nodes]
  | x :: l, h => by
    have h1 := h x (List.mem_cons_self ..)
    have h2 := Tys.nodes_few (l := l) fun y hy => h y (List.mem_cons_of_mem _ hy)
    rw [Tys.nodes, List.length_cons]
    omega
theorem QiM {l : List Ty} (h : Tys.great l = false) : (tysB l).length ≤ 12000010 := by
  unfold Tys.great at h
  rw [Bool.or_eq_false_iff] at h
  have hl : l.length ≤ 200 := by have := of_decide_eq_false h.1; omega
  have h1 := Tys.bts_len l
  have h2 := Tys.nodes_few (l := l) fun x hx => Ty.nodes_of_great (by have := List.any_eq_false.1 h.2 x hx; simpa using this)
  have h3 := Q15 l.length
  unfold tysB
  rw [List.length_append]
  omega
theorem Q5y {l : List Int} (h : l.length ≤ 300) : (Qn4 l).length ≤ 3010 := by
  have h1 := Qit l
  have h2 := Q15 l.length
  unfold Qn4
  rw [List.length_append]
  omega
theorem To.bts_few {x : To} (h : x.Few) : x.bts.length ≤ 6030 := by
  have h1 := Q5y h.1
  have h2 := Q5y h.2
  have h3 := Q15 x.block
  unfold To.bts
  simp only [List.length_append]
  omega
theorem Tail.bts_few {x : Tail} (h : x.Few) : x.bts.length ≤ 13000 := by
  have h1 := To.bts_few h.1
  have h2 := To.bts_few h.2.1
  have h3 := Q5y h.2.2
  have h4 := Q15 x.op
  have h5 := Q15 x.a
  unfold Tail.bts
  rw [List.length_append]
  split
  · omega
  · split
    · simp only [List.length_append]; omega
    · split
      · omega
      · simp only [List.length_nil]; omega
theorem Ins.bts_few {x : Ins} (h : x.Few) : x.bts.length ≤ 6110 := by
  have h1 := Q5y h.1
  have h2 := Q5y h.2
  have h3 := Q15 x.op
  have h4 := Q15 x.n
  have ha := Q15 x.a
  have hb := Q15 x.b
  have hc := Q15 x.c
  have hk := Q15 x.k
  have h5 : (regsB (QeW x.op) 0 [x.a, x.b, x.c, x.k]).length ≤ 40 := by
    simp only [regsB, List.length_append, List.length_nil]
    split <;> split <;> split <;> split <;> (try simp only [List.length_nil]) <;> omega
  unfold Ins.bts
  simp only [List.length_append]
  split <;> split <;> split <;> (try simp only [List.length_nil]) <;> omega
theorem Block.bts_few {b : Block} (h : b.Few) : b.bts.length ≤ 14000000 := by
  have h1 := QiM h.1
  have h2 := Qlt (f := Ins.bts) (c := 6110) (fun x hx => Ins.bts_few (h.2.2.1 x hx)) h.2.1
  have h3 := Tail.bts_few h.2.2.2
  have h4 := Q15 b.regs
  have h5 := Q15 b.code.length
  unfold Block.bts
  simp only [List.length_append]
  omega
theorem Fun.bts_few {f : Fun} (h : f.Few) : f.bts.length ≤ 450000000 := by
  have h1 := QiM h.1
  have h2 := QiM h.2.1
  have h3 := Qlt (f := Block.bts) (c := 14000000) (fun x hx => Block.bts_few (h.2.2.2 x hx)) h.2.2.1
  have h4 := Q15 f.regs
  have h5 := Q15 f.blocks.length
  unfold Fun.bts
  simp only [List.length_append]
  omega
end Go.Lir
namespace Go.Lir
set_option linter.unusedVariables false
abbrev Got (α : Type) := Except Flt (α × List UInt8)
/-! ### What is read was written so -/
end Go.Lir
namespace Go.Lir
section
variable {P : Program} {l : List GO} {Q : QT} {ρ : Env} {w : World}
end
end Go.Lir
namespace Go.Lir
def crc4 (c : BitVec 32) : List UInt8 := [UInt8.ofNat c.toNat, UInt8.ofNat (c >>> 8).toNat, UInt8.ofNat (c >>> 16).toNat, UInt8.ofNat (c >>> 24).toNat]
def Module.enc (m : Module) : List UInt8 := m.body ++ crc4 (crcOf m.body)
end Go.Lir
namespace Go.Lir
section
variable {bs : List UInt8} {at0 i u : Nat} {x : UInt8} {X : Got Nat}
theorem Qof {n : Nat} (h : n < 18446744073709551616) : IntKind.u64.wrap (n : Int) = (n : Int) := by
  unfold IntKind.wrap
  simp [IntKind.bits, IntKind.signed]; omega
end
end Go.Lir
namespace Go.Lir
section
variable {α : Type}
variable {f : List UInt8 → Got α} {N k n0 : Nat} {n : Int} {xs : List α} {r r1 r2 r3 : List UInt8} {a : α} {e : Flt} {X : Got (List α)}
end
end Go.Lir
namespace Go.Lir
section
variable {bs r : List UInt8} {N : Nat} {e : Flt} {l : List Fun}
end
end Go.Lir
namespace Go.Lir
set_option linter.unusedVariables false
section
variable {α β : Type} {M n : Nat}
def Goodp (M : Nat) (f : List UInt8 → Got α) (p : α → Prop) : Prop := ∀ r x r', r.length ≤ M → f r = .ok (x, r') → p x ∧ r'.length ≤ r.length
theorem Goodp.weak {f : List UInt8 → Got α} {p q : α → Prop} (h : Goodp M f p) (hq : ∀ x, p x → q x) : Goodp M f q := fun r x r' h1 h2 => ⟨hq x (h r x r' h1 h2).1, (h r x r' h1 h2).2⟩
end
end Go.Lir
namespace Go.Lir
section
variable {n : Nat} {r r1 r2 r3 r4 : List UInt8} {e : Flt} {op a : Int} {yes no : To} {l : List Int}
variable {h j : Nat} {x : Int × Int × Int × Int} {y : Int} {X : Got (Int × Int × Int × Int)}
end
end Go.Lir
namespace Go.Lir
set_option linter.unusedVariables false
section
variable {α : Type} {n : Nat}
end
end Go.Lir
namespace Go.Lir
theorem umodN {a : Int} {n : Nat} (hn : 0 < n) : ∃ k : Nat, k < n ∧ (IntKind.u64.wrap a).tmod (n : Int) = (k : Int) := by
  have e : IntKind.u64.wrap a = a % 18446744073709551616 := by
    unfold IntKind.wrap
    simp [IntKind.bits, IntKind.signed]
  have h0 : 0 ≤ IntKind.u64.wrap a := by rw [e]; omega
  have h1 := Int.emod_lt_of_pos (IntKind.u64.wrap a) (b := (n : Int)) (by omega)
  have h2 := Int.emod_nonneg (IntKind.u64.wrap a) (b := (n : Int)) (by omega)
  refine ⟨(IntKind.u64.wrap a % (n : Int)).toNat, by omega, ?_⟩
  rw [Int.tmod_eq_emod_of_nonneg h0]
  omega
end Go.Lir
namespace Go.Lir
theorem St.lent {c : Cx} {w : World} {L : List Res} {r : Res} (h : St c w (r :: L)) : ∃ c' F, c.Le c' ∧ St c' w L ∧ r.A c'.H0 F ∧ (∀ b, F b → c'.K b) ∧ ∀ {w' : World} {L' : List Res}, St c' w' L' → St c w' (r :: L') := by
  obtain ⟨ok, F, ⟨F1, F2, h1, h2, h3, h4⟩, hd⟩ := h
  have hle : c.Le ⟨c.base, fun b => c.K b ∨ F1 b, w.heap⟩ := ⟨rfl, fun b hb => ⟨.inl hb, ok.same b hb⟩, ok.size, ok.lt⟩
  refine ⟨⟨c.base, fun b => c.K b ∨ F1 b, w.heap⟩, F1, hle, ⟨⟨ok.os, ok.tape, ok.output, Nat.le_refl _, fun b hb => hb.elim (fun hb => Nat.lt_of_lt_of_le (ok.lt b hb) ok.size) (r.lt h1 b), fun b _ => rfl⟩, F2, h2, ?_⟩, h1, fun b hb => .inr hb, ?_⟩
  · rintro b hb (hk | hk)
    · exact hd b ((h4 b).2 (.inr hb)) hk
    · exact h3 b hk hb
  · intro w' L' hS
    have hw := hS.weak hle
    obtain ⟨ok', F', hF', hd'⟩ := hS
    refine ⟨hw.1, fun b => F1 b ∨ F' b, ⟨F1, F', r.loc h1 fun b hb _ => ok'.same b (.inr hb), hF', fun b hb hb' => hd' b hb' (.inr hb), fun b => Iff.rfl⟩, ?_⟩
    rintro b (hb | hb) hk
    · exact hd b ((h4 b).2 (.inl hb)) hk
    · exact hd' b hb (.inl hk)
theorem St.lend {α : Type} {r : Rep α} {c : Cx} {w : World} {L : List Res} {T : TypeId} {es : Nat} {v : Value} {css : List (List Value)} {l : List α} (h : St c w (sl T es v css :: L)) (hl : r.ls c css l) (hes : r.es = es) (hm : l.length ≤ 140737488355328) :
    ∃ c', c.Le c' ∧ St c' w L ∧ r.sl c' v l ∧ ∀ {w' : World} {L' : List Res}, St c' w' L' → St c w' (sl T es v css :: L') := by
  subst hes
  obtain ⟨c', F, h1, h2, h3, h4, h5⟩ := h.lent
  exact ⟨c', h1, h2, ⟨css, SlR.mono (Sl.toR h3) fun b _ hb => h4 b hb, hl.up h1, hm⟩, h5⟩
end Go.Lir
namespace Go.Proofs.Ytanlkfeogoganaa
open Go.Lir
set_option maxHeartbeats 1000000
attribute [local irreducible] LC.wp Q3 QZ Q1g retQ Q2p LO.wp QH Calls
set_option linter.unusedSimpArgs false
set_option linter.unusedVariables false
attribute [local irreducible] Module.runs Module.fault Q3F IntKind.wrap
variable {cx : Cx} {w : World} {L : List Res} {m : Module}
theorem outM_at (c : Cx) : insR.at c [.int .i64 13, .int .i64 (-1), .int .i64 0, .int .i64 0, .int .i64 0, .int .i64 0, .slice none 0 0, .slice none 0 0] outM := ⟨_, _, rfl, Rep.SR.nil _ _ _, Rep.SR.nil _ _ _⟩
theorem Qq6 {f b : Nat} {fn : Fun} {y : Block} (hm : m.Short) (hf : m.funcs[f]? = some fn) (hy : fn.blocks[b]? = some y) (hc : y.code.length ≤ 40) : (m.put f (fn.put b (y.plus outM))).Short := by
  have hfs := hm.2 fn (List.mem_of_getElem? hf)
  have hys := hfs.2.2.2 y (List.mem_of_getElem? hy)
  have h1 : (y.plus outM).Short := ⟨hys.1, by unfold Block.plus; simp; omega, fun i hi => by
    rcases List.mem_append.1 hi with hi | hi
    · exact hys.2.2.1 i hi
    · simp at hi; subst hi; exact ⟨by decide, by decide⟩, hys.2.2.2⟩
  have h2 : (fn.put b (y.plus outM)).Short := ⟨hfs.1, hfs.2.1, by unfold Fun.put; simpa using hfs.2.2.1, fun z hz => by
    rcases List.mem_or_eq_of_mem_set hz with hz | rfl
    · exact hfs.2.2.2 z hz
    · exact h1⟩
  exact ⟨by unfold Module.put; simpa using hm.1, fun z hz => by
    rcases List.mem_or_eq_of_mem_set hz with hz | rfl
    · exact hm.2 z hz
    · exact h2⟩
theorem QkL {cs : List Value} (a b : Int) (hx : modR.at cx cs m) (hS : St cx w L) : Rets Try.prog QY [.agg ⟨cs⟩, .int .i64 a, .int .i64 b] w fun u w' => u = .bool true ∧ St cx w' L := by
  obtain ⟨vf, rfl, hf⟩ := Q29 hx
  obtain ⟨a0, n0, rfl⟩ := Rep.SR.shape hf
  have hlf := hf.len
  all_goals refine Qcd ?_
  all_goals (unfold Law_VerifyEach_lc; refine Q0 ?_; refine Q1 ?_; refine zb hS ?_; intro p3 w1 hS; refine zm ?_; refine zn ?_; refine Q0 ?_; refine Q0 ?_; refine Q1 ?_; refine zR0 (c := QiK hS) (h := ?_); rintro v1 w1 ⟨rfl, hS⟩; refine Q1W rfl ?_; refine zn ?_)
  all_goals
    first
    | (refine Q5 rfl ?_ -- QY c0
       all_goals (refine Q0 ?_; refine Q1 ?_; refine zm ?_; refine zn ?_; refine zr ?_; refine zf ?_)
       all_goals (exact ⟨_, rfl, rfl, St.weak hS.sp hle1⟩))
    | (refine Q6 rfl ?_ -- QY c0
       all_goals refine zsk ?_)
  all_goals (refine Q0 ?_; refine Q0 ?_; refine Q1 ?_; refine zv hS ?_)
  all_goals (refine zR1 (c := Qpi hx hS) (h := ?_); rintro v1 w1 ⟨g1, rfl, hg1, hS⟩; cases g1)
  all_goals (refine zm ?_; (first | refine s_gn rfl rfl ?_ | (refine s_gy rfl ?_; refine zv hS ?_)); (first | refine s_gn rfl rfl ?_ | (have hm := hg1 rfl; refine s_gy rfl ?_; refine zR1 (c := rcheck_c hm hx hS) (h := ?_); rintro v1 w1 ⟨rfl, hS⟩; unfold fltV)); (first | refine s_gn rfl rfl ?_ | (refine s_gy rfl ?_; refine QkS rfl rfl ?_)))
  all_goals (first | refine s_gn rfl rfl ?_ | (refine s_gy rfl ?_; (first | (refine Q1h ?_) | (refine Q1i ?_) | (refine Qw rfl rfl (fun hc => ?_) (fun hc => ?_)))))
  all_goals ((first | (refine zpt ?_) | (refine zpf ?_)); refine zn ?_)
  all_goals
    first
    | (refine Q5 rfl ?_ -- QY c1
       all_goals (refine Q0 ?_; refine Q1 ?_; refine zm ?_; refine zn ?_; refine zr ?_; refine zf ?_)
       all_goals ((first | exact ⟨_, rfl, rfl, St.weak hS.sp hle1⟩ | exact ⟨_, rfl, rfl, hS.sp⟩)))
    | (refine Q6 rfl ?_ -- QY c1
       all_goals refine zsk ?_)
  all_goals (refine Q0 ?_; have hF : m.fault.1 = 0 := (by omega); refine Q1 ?_; refine zv hS ?_; refine zR1 (c := Qdy hm hx hS) (h := ?_); rintro v1 w1 ⟨rfl, hS⟩; unfold fltV; refine Q8 hS ?_; intro p7 w1 hS; refine zsn hS ?_; intro w1 hS; have hS := hS.ns; refine zn ?_; refine Q0 ?_; refine Q0 ?_; refine Q1 ?_; refine Q2 rfl ?_; refine zl hS ?_)
  all_goals (first | (refine Q1h ?_) | (refine Q1i ?_) | (refine Qw rfl rfl (fun hc => ?_) (fun hc => ?_)))
  all_goals (refine zn ?_)
  all_goals
    first
    | (refine Q5 rfl ?_ -- QY c2
       all_goals (refine Q0 ?_; have hpos := runs_pos hF (by omega); refine Q1 ?_; refine Q2 rfl ?_; refine zl hS ?_)
       all_goals (refine Q53 ?_)
       all_goals (refine zm ?_; refine zn ?_; refine zr ?_; refine zf ?_)
       all_goals ((first | exact ⟨_, rfl, rfl, St.weak hS.sp hle1⟩ | exact ⟨_, rfl, rfl, hS.sp⟩)))
    | (refine Q6 rfl ?_ -- QY c2
       all_goals refine zsk ?_)
  all_goals (refine Q0 ?_)
  all_goals (have hR : m.runs.1 = 0 := (by omega); have hfl := QqI hF; obtain ⟨q, hq, eq⟩ := umodN (a := a) (n := m.funcs.length) (by omega); obtain ⟨fn, hfn⟩ : ∃ x, m.funcs[q]? = some x := ⟨_, List.getElem?_eq_getElem hq⟩; obtain ⟨_, _, _, _, hbl1, hbl2⟩ := QeX (Qlu hF hfn); obtain ⟨p, hp, ep⟩ := umodN (a := b) (n := fn.blocks.length) (by omega); obtain ⟨y, hy⟩ : ∃ x, fn.blocks[p]? = some x := ⟨_, List.getElem?_eq_getElem hp⟩; have hyc := (Q4S (Q8b hF hfn hy).1).2.2.2.2)
  all_goals (refine Q1 ?_; refine zm ?_; refine Qol rfl ?_; refine Q2 rfl ?_; refine zl hS ?_; refine zL ?_; refine Qol rfl ?_; rw [Qof (n := m.funcs.length) (by omega)]; refine s_rem rfl rfl (by omega) ?_; rw [eq]; refine Qok rfl (by omega) (by omega) ?_; refine zm ?_; refine zn ?_; refine Q0 ?_; refine Q1 ?_; refine zm ?_; refine Qol rfl ?_; refine Q2 rfl ?_; refine zl hS ?_; refine zm ?_; refine Qey (m := q) vw rfl hf rfl hq ?_; intro b7 o7 cs7 x7 hat7 hx7 he7; obtain rfl : fn = x7 := Option.some.inj (hfn.symm.trans hx7); obtain ⟨u1, u2, u3, rfl, hu1, hu2, hu3⟩ := Q17 he7; (first | refine Q2 rfl ?_ | refine Q1A rfl ?_); (first | (refine zl hS ?_) | (refine zlk hS ?_) | (refine zlj hS ?_)); refine zL ?_; refine Qol rfl ?_; rw [Qof (n := fn.blocks.length) (by omega)]; refine s_rem rfl rfl (by omega) ?_; rw [ep]; refine Qok rfl (by omega) (by omega) ?_; refine zm ?_; refine zn ?_; refine Q0 ?_; refine Q1 ?_; refine zv hS ?_; refine zR1 (c := Qp5 hm hfn hy hx hS) (h := ?_); rintro v1 w1 ⟨c1, u0, css, dF, Lx, rfl, hle1, hu0, hls, hF9, hS⟩; obtain ⟨vps, vrs, vb, cssB, dB, Ly, rfl, hvp, hvr, hvb, hlsB, rfl, vp, vc, ce, cssC, rfl, hp9, he9, hvc, hlsC, rfl⟩ := hF9; simp only [List.cons_append, List.nil_append] at hS; have hcl := hls.1; have hclB := hlsB.1; rw [Q5A] at hcl hclB)
  all_goals (refine Q8 hS ?_; intro p8 w1 hS; refine zsn hS ?_; intro w1 hS; have hS := hS.ns; refine zn ?_; refine Q0 ?_; refine Q1 ?_; refine Q2 rfl ?_; refine zl hS ?_; refine zm ?_; refine QpS (m := q) hS vw rfl fd (by omega) ?_; intro b8 o8 hl8; (first | refine Q2 rfl ?_ | refine Q1A rfl ?_); refine Q8v (j := 3) hS hl8 rfl fd rfl (Qjg hls hq) rfl ?_; refine zm ?_; refine QpS (m := p) hS vw rfl fd (by omega) ?_; intro b9 o9 hl9; refine zm ?_; refine zn ?_; refine Q0 ?_; refine Q1 ?_; refine zm ?_; refine zm ?_; refine QA rfl ?_; (first | refine Q2 rfl ?_ | refine Q1A rfl ?_); refine Q8v (j := 2) hS hl9 rfl fd rfl (Qjg hlsB hp) rfl ?_; refine zb2 [_, _, _, _, _, _, _, _] ?_; have hk9 := outM_at c1; refine zB1 hS [_, _, _, _, _, _, _, _] ?_; intro b1 w1 hS; refine za QqL u_T58 hS ?_; intro vp1 w1 css1 hls1 hv1 hS; have hS := hS.ns; refine QA rfl ?_; (first | refine Q2 rfl ?_ | refine Q1A rfl ?_); refine Qp3 (j := 2) (css' := cssB.set p (.int .i64 y.regs :: vp :: vp1 :: ce)) hS hl9 rfl rfl fd rfl (Qjg hlsB hp) (by decide) (by assumption) rfl ?_; intro w9 hS; have hS := hS.ns)
  all_goals (refine zn ?_; refine Q0 ?_; refine Q1 ?_; refine zv hS ?_)
  all_goals (have hcl1 := hls1.1; simp only [List.length_append, List.length_cons, List.length_nil] at hcl1; obtain ⟨c2, hle2, hS, hsl2, hbk2⟩ := St.lend (r := insR) (hS.out (r := sl 27 8 vp1 css1) fd) hls1 rfl (by simp; omega); simp only [List.eraseIdx_cons_zero, List.eraseIdx_cons_succ] at hS; have hrow : blockR.at c2 (.int .i64 y.regs :: vp :: vp1 :: ce) (y.plus outM) := ⟨vp, vp1, ce, rfl, hp9.up hle2, hsl2, he9.up hle2⟩; obtain ⟨c3, hle3, hS, hsl3, hbk3⟩ := St.lend (r := blockR) (hS.out (r := sl 77 12 vb (cssB.set p (.int .i64 y.regs :: vp :: vp1 :: ce))) fd) (QoM (hlsB.up hle2) hp hrow) rfl (by simp; omega); simp only [List.eraseIdx_cons_zero, List.eraseIdx_cons_succ] at hS; have hfrow : funcR.at c3 [.int .i64 fn.regs, vps, vrs, vb] (fn.put p (y.plus outM)) := ⟨_, _, _, rfl, (hvp.up hle2).up hle3, (hvr.up hle2).up hle3, hsl3⟩; obtain ⟨c4, hle4, hS, hsl4, hbk4⟩ := St.lend (r := funcR) (hS.out (r := sl 31 4 u0 css) fd) (QqD ((hls.up hle2).up hle3) hq hfrow) rfl (by simp; omega); simp only [List.eraseIdx_cons_zero, List.eraseIdx_cons_succ] at hS; refine zR1 (c := Qdy (m := m.put q (fn.put p (y.plus outM))) (Qq6 hm hfn hy hyc) ⟨_, rfl, hsl4⟩ hS) (h := ?_); rintro v1 w1 ⟨rfl, hS⟩; have hS := hbk2 (hbk3 (hbk4 hS)); rw [put_runs hR hfn hy]; unfold fltV; by_cases h40 : 40 < y.code.length + 1; rw [if_pos h40]; rotate_left; rw [if_neg h40])
  all_goals (refine Q8 hS ?_; intro p10 w1 hS; refine zsn hS ?_; intro w1 hS; have hS := hS.ns; refine zn ?_; refine Q0 ?_; refine Q0 ?_; refine Q1 ?_; refine zm ?_; refine QA rfl ?_; (first | refine Q2 rfl ?_ | refine Q1A rfl ?_); refine Q8v (j := 2) (cs := (.int .i64 y.regs :: vp :: vp1 :: ce)) hS hl9 rfl fd (by rw [List.length_set]) (by rw [List.getElem?_set_self (by omega)]) rfl ?_; refine QpR hS rfl fd ?_; rw [show (css1.length : Int) = ((y.code.length + 1 : Nat) : Int) by omega])
  all_goals (first | (refine Q11 ?_) | (refine Q14 ?_))
  all_goals (refine zn ?_)
  all_goals
    first
    | (refine Q5 rfl ?_ -- QY c3
       all_goals (refine Q0 ?_; refine zC [(0, none), (1, none), (2, none), (3, some (some [0])), (4, none), (5, none), (6, some none)] ?_; have hS := hS.drew; refine s_cq ?_; refine zv hS ?_; refine zt ?_; refine s_cq ?_; refine zm ?_; refine zt ?_; refine s_cq ?_; refine zm ?_; refine zt ?_; refine Q10 ?_; refine zR2 (c := Q48 q p (by omega) (by omega) hS) (h := ?_); rintro v1 w1 ⟨rfl, hS⟩; refine zt ?_; refine zy ?_; refine s_cq ?_; refine zb2 [_, _] ?_; refine zt ?_; refine s_cq ?_; refine QmL (a := (2, Q26 q p)) Qjl rfl rfl ?_; refine zt ?_; refine s_cf ?_; refine zm ?_; refine zt ?_; refine zcn ?_; refine zr ?_; refine zf ?_)
       all_goals (exact ⟨_, rfl, rfl, St.weak hS.sp hle1⟩))
    | (refine Q6 rfl ?_ -- QY c3
       all_goals refine zsk ?_)
  all_goals (refine Q0 ?_; refine zC [(0, none), (1, none), (2, none), (3, none), (4, none), (5, none), (6, none), (7, none), (8, none), (9, some (some [0])), (10, none), (11, none), (12, some none)] ?_; have hS := hS.drew; refine s_cq ?_; refine zv hS ?_; refine zt ?_; refine s_cq ?_; refine zm ?_; refine zt ?_; refine s_cq ?_; refine zm ?_; refine zt ?_; refine s_cq ?_; refine zm ?_; refine zt ?_; refine s_cq ?_; refine QA rfl ?_; refine zt ?_; refine s_cq ?_; (first | refine Q2 rfl ?_ | refine Q1A rfl ?_); refine zt ?_; refine s_cq ?_; refine Q8v (j := 2) (cs := (.int .i64 y.regs :: vp :: vp1 :: ce)) hS hl9 rfl fd (by rw [List.length_set]) (by rw [List.getElem?_set_self (by omega)]) rfl ?_; refine zt ?_; refine s_cq ?_; refine QpR hS rfl fd ?_; rw [show (css1.length : Int) = ((y.code.length + 1 : Nat) : Int) by omega]; refine zt ?_; refine s_cq ?_; refine s_subi rfl rfl (by omega) (by omega) ?_; rw [show (((y.code.length + 1 : Nat) : Int) - 1) = (y.code.length : Int) by omega]; refine zt ?_; refine Q10 ?_; refine zR3 (c := Qot q p y.code.length (by omega) (by omega) (by omega) hS) (h := ?_); rintro v1 w1 ⟨rfl, hS⟩; refine zt ?_; refine zy ?_; refine s_cq ?_; refine zb2 [_, _] ?_; refine zt ?_; refine s_cq ?_; refine QmL (a := (1, Q4l q p y.code.length)) Qjl rfl rfl ?_; refine zt ?_; refine s_cf ?_; refine zm ?_; refine zt ?_; refine zcn ?_; refine zr ?_; refine zf ?_; exact ⟨_, rfl, rfl, St.weak hS.sp hle1⟩)
end Go.Proofs.Ytanlkfeogoganaa
namespace Go.Proofs.Ytanlkfeogoganaa
open Go.Lir
theorem verifyEach_rd {c : Array Value} {x : Module} {w : World} (a b : Int) (h1 : cMod.cod.rd w.heap c.toList x) : Rets Try.prog QY [.agg c, .int .i64 a, .int .i64 b] w fun v w' => v = .bool true ∧ Fr NF w w' :=
  (QkL a b (cMod.top h1) (St.top w)).mono fun _ _ ⟨h, h2⟩ => ⟨h, h2.fr⟩
end Go.Proofs.Ytanlkfeogoganaa
