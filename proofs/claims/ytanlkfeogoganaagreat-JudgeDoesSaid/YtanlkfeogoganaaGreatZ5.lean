/- Lemmas of the proof, part 5: what the functions of the program do (contracts), and what follows. -/
import Derived.Test.YtanlkfeogoganaaGreatZ2
import Derived.Test.YtanlkfeogoganaaGreatZ4
import Derived.Test.YtanlkfeogoganaaGreatZ3
namespace Go.Proofs.YtanlkfeogoganaaGreat
open Go.Lir
set_option maxHeartbeats 1000000
attribute [local irreducible] LC.wp Q5 Q11 Q1c retQ Q2b LO.wp QD Calls
set_option linter.unusedSimpArgs false
set_option linter.unusedVariables false
attribute [local irreducible] hasB Q1W Q1o Q1I
variable {cx : Cx} {w : World} {L : List Res} {j : JP} {h : List Bool} {vl : Value} {css : List (List Value)} {i : Nat} {m : Module}
theorem jtuple_c {s : JS} {x : Ins} {cs : List Value} (hal : x.args.length ≤ 8) (hn : s.l.length ≤ 80) (hx : insR.at cx cs x) (hls : tyR.ls cx css s.l) (hS : St cx w L) (hi : nth L i = some (j.res s.h vl css)) :
    Fins Tryz.prog Q4w [.pointer (some ⟨j.sp, 0, none⟩), .agg ⟨cs⟩] w (JOk cx L j i (Q7s s x)) (JNo cx L (Q7s s x)) := by
  have hS := hS.out hi
  obtain ⟨vr, va, rfl, hr, ha⟩ := Q1J hx
  unfold Fins Q7s
  all_goals refine Q6M ?_
  all_goals (unfold judge_State_tuple_lc; refine Q0 ?_; refine Q1 ?_; refine zb hS ?_; intro p3 w1 hS; refine zn ?_; refine Q0 ?_; refine Q1 ?_; refine zm ?_; refine Q2 rfl ?_; (first | (refine Qe hS rfl fd rfl ?_) | (refine zl hS ?_)); refine zE3 (c := Qkk hls hS fd) (p := by rintro v9 w9 ⟨c, h1, rfl, hS⟩; (repeat (first | refine Qw ?_ | refine Qz ?_ | refine fun _ => ?_)); refine QX ?_; refine .inr ⟨_, rfl, ?_⟩; exact ⟨_, Qt h1, rfl, (St.back0 hS.sp hi)⟩) (h := ?_); rintro v1 w1 ⟨t, cs1, h1, rfl, hrd, hS⟩; have hrd' := hrd; obtain ⟨vd, rfl, hld⟩ := Qf hrd; refine Quw rfl rfl ?_; refine zb2 [_, _, _] ?_; refine Qd hS ?_; intro p4 w1 hS; refine zsn hS ?_; intro w1 hS; have hS := hS.ns; refine zn ?_; refine Q0 ?_; refine Q0 ?_; refine Q1 ?_; refine Q2 rfl ?_; (first | (refine Qe hS rfl fd rfl ?_) | (refine zl hS ?_)); refine zL ?_; refine zm ?_; refine zn ?_; refine Qa ?_; have hS := St.nil (T := 112) (es := 3) hS)
  refine zo [0, 4, 14, 15] (fun A ρ' w' => ∃ (q : Nat) (vo : Value) (co : List (List Value)) (ts : List Ty), Has ρ' A ∧ Has ρ' [(16, .int .i64 q)] ∧ (q ≤ x.args.length) ∧ (tyR.ls cx co ts) ∧ (ts.length = q) ∧ (oneC vo = true) ∧ (jfields s x.args = ebind (jfields s (x.args.drop q)) fun l => .ok (ts ++ l)) ∧ St cx w' (sl 112 3 vo co :: blk p4 112 [.int .i64 3, .int .i64 t.r, vo] :: blk p3 57 [.int .i64 x.op, .int .i64 x.a, .int .i64 x.b, .int .i64 x.c, .int .i64 x.k, .int .i64 x.n, vr, va] :: j.res s.h vl css :: L.eraseIdx i)) (fun ρ' _ => (x.args.length - iv (ρ' 16)).toNat) ?_ ?_
  · exact ⟨0, _, [], [], zh, zh, (by omega), Rep.LR.nil _ _ _, rfl, rfl, by rw [List.drop_zero]; cases jfields s x.args <;> rfl, hS.sp⟩
  rintro ρ w1 ⟨q, vo, co, ts, hA, hρ, hq, hlo, hlt, hvo, hd, hS⟩; obtain ⟨ρ, rfl⟩ := env2 hA hρ
  unfold Q3t
  all_goals (refine Q0 ?_; refine Q1 ?_; refine Qx rfl rfl ?_; refine zn ?_; refine Q0 ?_)
  refine Qo rfl (fun hc => ?_) (fun hc => ?_)
  · skip
    all_goals (refine zsk ?_; refine Q0 ?_; refine Qa ?_; refine Q0 ?_; refine Q1 ?_; refine zi ?_; intro b1 o1 cs1 x1 hat1 hx1 he1; obtain rfl := QJ he1; (first | (refine Qe hS rfl fd rfl ?_) | (refine zl hS ?_) | (refine zlk hS ?_)); refine zm ?_; refine zn ?_; refine zC [(0, none), (1, none), (2, none), (3, none), (4, some (some [1])), (5, some (some [1])), (6, some none), (7, none), (8, some none)] ?_; have hS := hS.drew; refine s_cq ?_; refine Q2 rfl ?_; refine zt ?_; refine s_cq ?_; (first | (refine Qe hS rfl fd rfl ?_) | (refine zl hS ?_)); refine zt ?_; refine s_cq ?_; refine zm ?_; refine zt ?_; refine s_cq ?_; refine zm ?_; refine zt ?_; refine QU ?_; refine zE2 (c := Q6r hls hS fd) (p := by rintro v9 w9 ⟨c, h2, rfl, hS⟩; (repeat (first | refine Qw ?_ | refine Qz ?_ | refine fun _ => ?_)); refine QX ?_; refine .inr ⟨_, rfl, ?_⟩; exact ⟨_, by rw [Q9 h1, Qt (QpY hx1 hd h2)], rfl, (St.back0 hS.sp hi)⟩) (h := ?_); rintro v1 w1 ⟨t2, cs2, h2, rfl, hrd2, hS⟩; have hrd2' := hrd2; obtain ⟨vd2, rfl, hld2⟩ := Qf hrd2; refine zt ?_; refine ⟨List.forall_mem_cons.2 ⟨(by first | (exact QG hS rfl fd rfl) | (exact Q18 hS rfl fd rfl)), fun _ h => (List.not_mem_nil h).elim⟩, ?_⟩)
    all_goals (refine QU ?_; refine zB1 hS [_, _, _] ?_; intro b1 w1 hS; refine zt ?_; refine ⟨List.forall_mem_cons.2 ⟨(by first | (exact QG hS rfl fd rfl) | (exact Q18 hS rfl fd rfl)), fun _ h => (List.not_mem_nil h).elim⟩, ?_⟩; refine s_cf ?_; refine za Q38 Q5x hS ?_; intro vp1 w1 css1 hls1 hv1 hS; have hS := hS.ns; refine zt ?_; refine s_cq ?_; refine Q2 rfl ?_; refine zt ?_; refine s_cf ?_; refine zst hS ?_; intro w1 hS; have hS := hS.ns; refine zt ?_; refine zcn ?_; refine Q1 ?_; refine zad ?_; refine zm ?_; refine zn ?_; exact ⟨⟨q + 1, _, _, ts ++ [t2], zh, zh, (by omega), hls1, by simp [hlt], by assumption, QpX hx1 hd h2, hS.sp⟩, Qr (by omega)⟩)
  · skip
    all_goals (refine zex ?_; have hts := QpW hd (by omega); obtain ⟨c1, hle2, hS, hk1⟩ := St.freezeL (r := tyR) hS hlo rfl (by omega); have hT := Q1N (k := 3) (r := t.r) hk1; have hls := hls.up hle2; obtain ⟨ao, no, rfl⟩ := Rep.SR.shape hk1; refine Q0 ?_; refine zC [(0, none), (1, none), (2, none), (3, none), (4, none), (5, some (some [0])), (6, some none), (7, none), (8, some none)] ?_; have hS := hS.drew; refine s_cq ?_; refine zv hS ?_; refine zt ?_; refine s_cq ?_; refine zm ?_; refine zt ?_; refine s_cq ?_; refine Qi rfl ?_; refine zt ?_; refine s_cq ?_; refine Q2 rfl ?_; refine zt ?_; refine s_cq ?_; refine Qe hS rfl fd rfl ?_; refine zt ?_; refine QU ?_; refine zR1 (c := Qv6 hS fd) (h := ?_); rintro v1 w1 ⟨rfl, hS⟩; refine zt ?_; refine ⟨List.forall_mem_cons.2 ⟨(by first | (exact QG hS rfl fd rfl) | (exact Q2i hS rfl fd rfl rfl)), fun _ h => (List.not_mem_nil h).elim⟩, ?_⟩; refine s_cf ?_; refine zR2 (c := Qt7 hT hS) (h := ?_); rintro v1 w1 ⟨rfl, hS⟩; refine zt ?_; refine s_cq ?_; refine Q55 rfl rfl ?_; refine zt ?_; refine s_cf ?_)
    all_goals (first | (refine zR2 (c := Q2K hS) (h := ?_); rintro v1 w1 ⟨rfl, hS⟩) | (refine zE2 (c := Q2J hS) (p := by rintro v9 w9 ⟨rfl, hS⟩; (repeat (refine Qw ?_)); refine QX ?_; refine .inr ⟨_, rfl, ?_⟩; first | (exact ⟨_, by rw [Q9 h1, Q9 hts, if_pos (of_decide_eq_true hb)], rfl, St.weak (St.back0 hS.sp hi) hle2⟩)) (h := fun _ _ h => h.elim)) | (refine zE2 (c := Q3T hS) (p := by rintro v9 w9 ⟨rfl, hb, hS⟩; (repeat (first | refine Qw ?_ | refine Qz ?_ | refine fun _ => ?_)); refine QX ?_; refine .inr ⟨_, rfl, ?_⟩; first | (exact ⟨_, by rw [Q9 h1, Q9 hts, if_pos (of_decide_eq_true hb)], rfl, St.weak (St.back0 hS.sp hi) hle2⟩)) (h := ?_); rintro v1 w1 ⟨rfl, hb, hS⟩))
    all_goals (refine zt ?_; refine zcn ?_; refine Q1 ?_; refine zm ?_; refine zv hS ?_; refine zE2 (c := Qa5 (s := s) (by omega) hT hls hS fd) (p := by rintro v9 w9 ⟨rfl, h80', hS⟩; (repeat (first | refine Qw ?_ | refine Qz ?_ | refine fun _ => ?_)); refine QX ?_; refine .inr ⟨_, rfl, ?_⟩; exact ⟨_, by rw [Q9 h1, Q9 hts, if_neg (of_decide_eq_false hb), Q8O h80'], rfl, St.weak (St.back0 hS.sp hi) hle2⟩) (h := ?_); rintro v1 w1 ⟨rfl, hne80, vl4, cs4, hls4, hS⟩; have hS := hS.ns; refine zn ?_; refine Q1H ?_; exact .inl ⟨_, rfl, rfl, c1, ⟨s.h, _⟩, vl4, cs4, hle2, by rw [Q9 h1, Q9 hts, if_neg (of_decide_eq_false hb), Q5b hne80], hls4, (St.back hS.sp hi)⟩)
theorem Q63 {n : Nat} {x : Ins} (h : QF n x = 0) : Q1R n x = 0 := by
  unfold QF at h
  split at h
  · cases h
  · split at h
    · cases h
    · exact h
theorem Q64 {n : Nat} {x : Ins} (h : QF n x = 0) (ho : x.op = 6 ∨ x.op = 7) : 0 ≤ x.k := by
  have h := Q63 h
  unfold Q1R at h
  rcases ho with ho | ho <;> simp [ho] at h <;> omega
theorem Qve {n : Nat} {x : Ins} (h : QF n x = 0) (ho : x.op = 5) : x.args.length ≤ 8 := by
  have h := Q63 h
  unfold Q1R at h
  simp [ho] at h; omega
theorem Qq6 {n : Nat} {x : Ins} (h : QF n x = 0) (ho : x.op = 14) : 0 ≤ x.k ∧ x.k < n := by
  have h := Q63 h
  unfold Q1R at h
  simp [ho] at h; omega
theorem jins_c {s : JS} {x : Ins} {cs : List Value} (hm : m.Short) (hF : QF m.funcs.length x = 0) (hn : s.l.length ≤ 80) (hh : s.h.length ≤ 16) (hj : j.Fits cx m) (hx : insR.at cx cs x) (hls : tyR.ls cx css s.l) (hS : St cx w L) (hi : nth L i = some (j.res s.h vl css)) :
    Fins Tryz.prog Qg [.pointer (some ⟨j.sp, 0, none⟩), .agg ⟨cs⟩] w (JOk cx L j i (jins m j.f s x)) (JNo cx L (jins m j.f s x)) := by
  have hS := hS.out hi
  have hx' := hx
  have hop := Q4D hF
  have hlc := hls.1
  have hN : tyR.at cx [.int .i64 1, .int .i64 0, .slice none 0 0] number := Q1N (Rep.SR.nil _ _ _)
  obtain ⟨vr, va, rfl, hr, ha⟩ := Q1J hx
  unfold Fins
  all_goals refine Q9E ?_
  all_goals (unfold judge_State_ins_lc; refine Q0 ?_; refine Q1 ?_; refine zb hS ?_; intro p3 w1 hS; refine zn ?_; refine Q0 ?_; refine Q1 ?_; refine zb1 [_, _, _] ?_; refine Qd hS ?_; intro p4 w1 hS; refine zsn hS ?_; intro w1 hS; have hS := hS.ns; refine zn ?_; refine Q0 ?_; refine Q1 ?_; refine Q2 rfl ?_; (first | (refine Qe hS rfl fd rfl ?_) | (refine zl hS ?_)); refine zn ?_; refine Qa ?_; refine Q0 ?_; refine Q0 ?_; refine Q1 ?_)
  all_goals (first | (refine Qv ?_) | (refine QB ?_) | (refine Qn rfl rfl (fun hc => ?_) (fun hc => ?_)))
  all_goals (refine zm ?_; refine zn ?_)
  all_goals
    first
    | (refine Q3 rfl ?_ -- Qg c0
       all_goals refine zsk ?_)
    | (refine Q4 rfl ?_ -- Qg c0
       all_goals (refine Q1 ?_)
       all_goals (first | (refine Qv ?_) | (refine QB ?_) | (refine Qn rfl rfl (fun hc => ?_) (fun hc => ?_)))
       all_goals (refine zm ?_)
       all_goals refine zn ?_)
  all_goals
    first
    | (refine Q3 rfl ?_ -- Qg c1
       all_goals (refine Q1 ?_; refine zm ?_; refine zv hS ?_; refine zE2 (c := Qa5 (s := s) (by omega) hN hls hS fd) (p := by rintro v9 w9 ⟨rfl, h80, hS⟩; (repeat (first | refine Qw ?_ | refine Qz ?_ | refine fun _ => ?_)); refine QX ?_; refine .inr ⟨_, rfl, ?_⟩; exact ⟨_, by rw [Qeq (by omega), Q8O h80], rfl, (St.back0 hS.sp hi)⟩) (h := ?_); rintro v1 w1 ⟨rfl, hne, vl4, cs4, hls4, hS⟩; have hS := hS.ns; have hJ : JOk cx L j i (jins m j.f s x) (.tuple #[]) w1 := ⟨rfl, cx, ⟨s.h, _⟩, vl4, cs4, St.refl hS, by rw [Qeq (by omega), Q5b hne], hls4, (St.back hS.sp hi)⟩; refine zn ?_)
       all_goals (refine Q1H ?_; exact .inl ⟨_, rfl, hJ⟩))
    | (refine Q4 rfl ?_ -- Qg c1
       all_goals (refine Q0 ?_; refine Q1 ?_)
       all_goals (first | (refine Qv ?_) | (refine QB ?_) | (refine Qn rfl rfl (fun hc => ?_) (fun hc => ?_)))
       all_goals (refine zm ?_; refine zn ?_)
       all_goals
         first
         | (refine Q3 rfl ?_ -- Qg c2
            all_goals (refine Q0 ?_; refine Q1 ?_; refine zm ?_; refine Q2 rfl ?_; (first | (refine Qe hS rfl fd rfl ?_) | (refine zl hS ?_)); refine zE3 (c := Q5c (s := s) hls hS fd) (p := by rintro v9 w9 ⟨c, h1, rfl, hS⟩; (repeat (first | refine Qw ?_ | refine Qz ?_ | refine fun _ => ?_)); refine QX ?_; refine .inr ⟨_, rfl, ?_⟩; exact ⟨_, by rw [Qhf (by omega), Qt h1], rfl, (St.back0 hS.sp hi)⟩) (h := ?_); rintro v1 w1 ⟨t1, cs1, h1, rfl, hrd1, hS⟩; skip; refine zn ?_; refine Q0 ?_; refine Q1 ?_; refine zm ?_; refine Q2 rfl ?_; (first | (refine Qe hS rfl fd rfl ?_) | (refine zl hS ?_)); refine zE3 (c := Q5c (s := s) hls hS fd) (p := by rintro v9 w9 ⟨c, h2, rfl, hS⟩; (repeat (first | refine Qw ?_ | refine Qz ?_ | refine fun _ => ?_)); refine QX ?_; refine .inr ⟨_, rfl, ?_⟩; exact ⟨_, by rw [Qhf (by omega), Q9 h1, Qt h2], rfl, (St.back0 hS.sp hi)⟩) (h := ?_); rintro v1 w1 ⟨t2, cs2, h2, rfl, hrd2, hS⟩; skip; refine zn ?_; refine Q1 ?_; refine zm ?_; refine zv hS ?_; refine zE2 (c := Qa5 (s := s) (by omega) hN hls hS fd) (p := by rintro v9 w9 ⟨rfl, h80, hS⟩; (repeat (first | refine Qw ?_ | refine Qz ?_ | refine fun _ => ?_)); refine QX ?_; refine .inr ⟨_, rfl, ?_⟩; exact ⟨_, by rw [Qhf (by omega), Q9 h1, Q9 h2, Q8O h80], rfl, (St.back0 hS.sp hi)⟩) (h := ?_); rintro v1 w1 ⟨rfl, hne, vl4, cs4, hls4, hS⟩; have hS := hS.ns; have hJ : JOk cx L j i (jins m j.f s x) (.tuple #[]) w1 := ⟨rfl, cx, ⟨s.h, _⟩, vl4, cs4, St.refl hS, by rw [Qhf (by omega), Q9 h1, Q9 h2, Q5b hne], hls4, (St.back hS.sp hi)⟩)
            all_goals (refine zn ?_)
            all_goals (refine Q1H ?_; exact .inl ⟨_, rfl, hJ⟩))
         | (refine Q4 rfl ?_ -- Qg c2
            all_goals (refine Q0 ?_; refine Q1 ?_)
            all_goals (first | (refine Qv ?_) | (refine QB ?_) | (refine Qn rfl rfl (fun hc => ?_) (fun hc => ?_)))
            all_goals (refine zm ?_; refine zn ?_)
            all_goals
              first
              | (refine Q4 rfl ?_ -- Qg c3
                 all_goals (refine Q0 ?_; refine Q1 ?_)
                 all_goals (first | (refine Qv ?_) | (refine QB ?_) | (refine Qn rfl rfl (fun hc => ?_) (fun hc => ?_)))
                 all_goals (refine zm ?_; refine zn ?_)
                 all_goals
                   first
                   | (refine Q3 rfl ?_ -- Qg c4
                      all_goals (refine Q0 ?_; refine Q1 ?_; refine zm ?_; refine Q2 rfl ?_; (first | (refine Qe hS rfl fd rfl ?_) | (refine zl hS ?_)); refine zE3 (c := Qkk (s := s) hls hS fd) (p := by rintro v9 w9 ⟨c, h1, rfl, hS⟩; (repeat (first | refine Qw ?_ | refine Qz ?_ | refine fun _ => ?_)); refine QX ?_; refine .inr ⟨_, rfl, ?_⟩; exact ⟨_, by rw [Qmh (by omega), Qt h1], rfl, (St.back0 hS.sp hi)⟩) (h := ?_); rintro v1 w1 ⟨t1, cs1, h1, rfl, hrd1, hS⟩; obtain ⟨vd1, rfl, hld1⟩ := Qf hrd1; refine Quw rfl rfl ?_; refine zm ?_; refine zn ?_; refine Q0 ?_; refine Q1 ?_; refine zm ?_; refine zm ?_; refine Qi rfl ?_; refine Q2 rfl ?_; (first | refine Q2 rfl ?_ | refine Q1d rfl ?_); refine Qe hS rfl fd rfl ?_)
                      all_goals (first | (refine Q1L ?_) | (refine Q1M ?_) | (refine QE rfl rfl (fun hc => ?_) (fun hc => ?_)))
                      all_goals (first | (refine zR2 (c := Q2K hS) (h := ?_); rintro v1 w1 ⟨rfl, hS⟩) | (refine zE2 (c := Q2J hS) (p := by rintro v9 w9 ⟨rfl, hS⟩; (repeat (first | refine Qw ?_ | refine Qz ?_ | refine fun _ => ?_)); refine QX ?_; refine .inr ⟨_, rfl, ?_⟩; exact ⟨_, by rw [Qmh (by omega), Q9 h1, if_pos (by omega)], rfl, (St.back0 hS.sp hi)⟩) (h := fun _ _ h => h.elim)))
                      all_goals (refine zn ?_; refine Q1 ?_; refine zm ?_; refine Qi rfl ?_; refine Q2 rfl ?_; refine Qe hS rfl fd rfl ?_; refine zm ?_; refine zR2 (c := jshut_c (Qer h1).2.2.2 hS fd) (h := ?_); rintro v1 w1 ⟨rfl, hS⟩; have hS := hS.ns; have hJ : JOk cx L j i (jins m j.f s x) (.tuple #[]) w1 := ⟨rfl, cx, ⟨s.h.set t1.r.toNat false, s.l⟩, vl, css, St.refl hS, by rw [Qmh (by omega), Q9 h1, if_neg (by omega)], hls, (St.back hS.sp hi)⟩; refine zn ?_)
                      all_goals (refine Q1H ?_; exact .inl ⟨_, rfl, hJ⟩))
                   | (refine Q4 rfl ?_ -- Qg c4
                      all_goals (refine Q0 ?_; refine Q1 ?_)
                      all_goals (first | (refine Qv ?_) | (refine QB ?_) | (refine Qn rfl rfl (fun hc => ?_) (fun hc => ?_)))
                      all_goals (refine zm ?_; refine zn ?_)
                      all_goals
                        first
                        | (refine Q3 rfl ?_ -- Qg c5
                           all_goals (refine Q1 ?_; refine zm ?_; refine zv hS ?_; refine zE2 (c := jtuple_c (Qve hF (by omega)) hn hx' hls hS fd) (p := by rintro v9 w9 ⟨c, g1, rfl, hS⟩; (repeat (first | refine Qw ?_ | refine Qz ?_ | refine fun _ => ?_)); refine QX ?_; refine .inr ⟨_, rfl, ?_⟩; exact ⟨_, by rw [QpU (by omega)]; exact g1, rfl, (St.back0 hS.sp hi)⟩) (h := ?_); rintro v1 w1 ⟨rfl, c1, s1, vl4, cs4, hle, hr1, hls4, hS⟩; have hS := hS.ns; have hJ : JOk cx L j i (jins m j.f s x) (.tuple #[]) w1 := ⟨rfl, c1, s1, vl4, cs4, hle, by rw [QpU (by omega)]; exact hr1, hls4, (St.back hS.sp hi)⟩; refine zn ?_)
                           all_goals (refine Q1H ?_; exact .inl ⟨_, rfl, hJ⟩))
                        | (refine Q4 rfl ?_ -- Qg c5
                           all_goals (refine Q0 ?_; refine Q1 ?_)
                           all_goals (first | (refine Qv ?_) | (refine QB ?_) | (refine Qn rfl rfl (fun hc => ?_) (fun hc => ?_)))
                           all_goals (refine zm ?_; refine zn ?_)
                           all_goals
                             first
                             | (refine Q3 rfl ?_ -- Qg c6
                                all_goals (refine zC [(0, none), (1, none), (2, none), (3, none), (4, none), (6, none), (7, none), (5, some (some [7])), (8, some (some [])), (9, some none)] ?_; have hS := hS.drew; refine s_cq ?_; refine zm ?_; refine zt ?_; refine s_cq ?_; refine zm ?_; refine zt ?_; refine s_cq ?_; refine zm ?_; refine zt ?_; refine s_cq ?_; refine Q2 rfl ?_; refine zt ?_; refine s_cq ?_; (first | (refine Qe hS rfl fd rfl ?_) | (refine zl hS ?_)); refine zt ?_; refine s_cq ?_; refine Q2 rfl ?_; refine zt ?_; refine s_cq ?_; (first | (refine Qe hS rfl fd rfl ?_) | (refine zl hS ?_)); refine zt ?_; refine QU ?_; refine zE3 (c := Qkk (s := s) hls hS fd) (p := by rintro v9 w9 ⟨c, h1, rfl, hS⟩; (repeat (first | refine Qw ?_ | refine Qz ?_ | refine fun _ => ?_)); refine QX ?_; refine .inr ⟨_, rfl, ?_⟩; exact ⟨_, by rw [Qhe (by omega), Qt h1], rfl, (St.back0 hS.sp hi)⟩) (h := ?_); rintro v1 w1 ⟨t1, cs1, h1, rfl, hrd1, hS⟩; have hrd1' := hrd1; obtain ⟨vd1, rfl, hld1⟩ := Qf hrd1; refine zt ?_; refine ⟨List.forall_mem_cons.2 ⟨(by first | (exact QG hS rfl fd rfl) | (exact Q18 hS rfl fd rfl)), fun _ h => (List.not_mem_nil h).elim⟩, ?_⟩)
                                all_goals (refine QU ?_; refine zE3 (c := Qge (j := j) (Q64 hF (by omega)) hrd1' hS) (p := by rintro v9 w9 ⟨c, h2, rfl, hS⟩; (repeat (first | refine Qw ?_ | refine Qz ?_ | refine fun _ => ?_)); refine QX ?_; refine .inr ⟨_, rfl, ?_⟩; exact ⟨_, by rw [Qhe (by omega), Q9 h1, Qt h2], rfl, (St.back0 hS.sp hi)⟩) (h := ?_); rintro v1 w1 ⟨t2, cs2, h2, rfl, hrd2, hS⟩; skip; refine zt ?_; refine ⟨fun _ h => (List.not_mem_nil h).elim, ?_⟩; refine s_cf ?_; refine zE2 (c := Qa5 (s := s) (by omega) hrd2 hls hS fd) (p := by rintro v9 w9 ⟨rfl, h80, hS⟩; (repeat (first | refine Qw ?_ | refine Qz ?_ | refine fun _ => ?_)); refine QX ?_; refine .inr ⟨_, rfl, ?_⟩; exact ⟨_, by rw [Qhe (by omega), Q9 h1, Q9 h2, Q8O h80], rfl, (St.back0 hS.sp hi)⟩) (h := ?_); rintro v1 w1 ⟨rfl, hne, vl4, cs4, hls4, hS⟩; have hS := hS.ns; have hJ : JOk cx L j i (jins m j.f s x) (.tuple #[]) w1 := ⟨rfl, cx, ⟨s.h, _⟩, vl4, cs4, St.refl hS, by rw [Qhe (by omega), Q9 h1, Q9 h2, Q5b hne], hls4, (St.back hS.sp hi)⟩; refine zt ?_; refine zcn ?_)
                                all_goals (refine Q1H ?_; exact .inl ⟨_, rfl, hJ⟩))
                             | (refine Q4 rfl ?_ -- Qg c6
                                all_goals (refine Q0 ?_; refine Q1 ?_)
                                all_goals (first | (refine Qv ?_) | (refine QB ?_) | (refine Qn rfl rfl (fun hc => ?_) (fun hc => ?_)))
                                all_goals (refine zm ?_; refine zn ?_)
                                all_goals
                                  first
                                  | (refine Q3 rfl ?_ -- Qg c7
                                     all_goals (refine Q0 ?_)
                                     refine Q7z 4 8 (by kernel_rfl) ?_ ?_
                                     · skip
                                       refine Q7z 7 8 (by kernel_rfl) ?_ ?_
                                       · skip
                                         all_goals (refine zC [(0, none), (1, none), (2, none), (3, none), (5, none), (6, none), (4, some (some [6])), (7, some none), (8, some none), (9, some none)] ?_; have hS := hS.drew; refine s_cq ?_; refine zm ?_; refine zt ?_; refine s_cq ?_; refine zm ?_; refine zt ?_; refine s_cq ?_; refine Q2 rfl ?_; refine zt ?_; refine s_cq ?_; (first | (refine Qe hS rfl fd rfl ?_) | (refine zl hS ?_)); refine zt ?_; refine s_cq ?_; refine Q2 rfl ?_; refine zt ?_; refine s_cq ?_; (first | (refine Qe hS rfl fd rfl ?_) | (refine zl hS ?_)); refine zt ?_; refine QU ?_; refine zE3 (c := Qkk (s := s) hls hS fd) (p := by rintro v9 w9 ⟨c, h1, rfl, hS⟩; (repeat (first | refine Qw ?_ | refine Qz ?_ | refine fun _ => ?_)); refine QX ?_; refine .inr ⟨_, rfl, ?_⟩; exact ⟨_, by rw [Q3c (by omega), Qt h1], rfl, (St.back0 hS.sp hi)⟩) (h := ?_); rintro v1 w1 ⟨t1, cs1, h1, rfl, hrd1, hS⟩; have hrd1' := hrd1; obtain ⟨vd1, rfl, hld1⟩ := Qf hrd1; refine zt ?_; refine ⟨List.forall_mem_cons.2 ⟨(by first | (exact QG hS rfl fd rfl) | (exact Q18 hS rfl fd rfl)), fun _ h => (List.not_mem_nil h).elim⟩, ?_⟩)
                                         all_goals (refine s_cf ?_; refine zE3 (c := Qge (j := j) (Q64 hF (by omega)) hrd1' hS) (p := by rintro v9 w9 ⟨c, h2, rfl, hS⟩; (repeat (first | refine Qw ?_ | refine Qz ?_ | refine fun _ => ?_)); refine QX ?_; refine .inr ⟨_, rfl, ?_⟩; exact ⟨_, by rw [Q3c (by omega), Q9 h1, Qt h2], rfl, (St.back0 hS.sp hi)⟩) (h := ?_); rintro v1 w1 ⟨t2, cs2, h2, rfl, hrd2, hS⟩; have hrd2' := hrd2; obtain ⟨vd2, rfl, hld2⟩ := Qf hrd2; refine zt ?_; refine s_cf ?_; refine Qd hS ?_; intro p6 w1 hS; refine zt ?_; refine s_cf ?_; refine zsn hS ?_; intro w1 hS; have hS := hS.ns; refine zt ?_; refine zcn ?_; refine zC [(0, none), (1, none), (2, none), (3, none), (4, some (some [0])), (5, some none), (6, none), (7, some none)] ?_; have hS := hS.drew; refine s_cq ?_; refine zv hS ?_; refine zt ?_; refine s_cq ?_; refine zm ?_; refine zt ?_; refine s_cq ?_; refine Q2 rfl ?_; refine zt ?_; refine s_cq ?_; (first | (refine Qe hS rfl fd rfl ?_) | (refine zl hS ?_)); refine zt ?_; refine QU ?_; refine zE2 (c := Q6r (s := s) hls hS fd) (p := by rintro v9 w9 ⟨c, h3, rfl, hS⟩; (repeat (first | refine Qw ?_ | refine Qz ?_ | refine fun _ => ?_)); refine QX ?_; refine .inr ⟨_, rfl, ?_⟩; exact ⟨_, by rw [Q3c (by omega), Q9 h1, Q9 h2, Qt h3], rfl, (St.back0 hS.sp hi)⟩) (h := ?_); rintro v1 w1 ⟨t3, cs3, h3, rfl, hrd3, hS⟩; skip)
                                         all_goals (refine zt ?_; refine ⟨List.forall_mem_cons.2 ⟨(by first | (exact QG hS rfl fd rfl) | (exact Q2i hS rfl fd rfl rfl)), fun _ h => (List.not_mem_nil h).elim⟩, ?_⟩; refine s_cf ?_; refine zR2 (c := Qh0 _ _ hrd2' hrd3 hS) (h := ?_); rintro v1 w1 ⟨rfl, hS⟩; refine zt ?_; refine s_cq ?_; refine Q1O rfl ?_; refine zt ?_; refine s_cf ?_; refine zE2 (c := Q3T hS) (p := by rintro v9 w9 ⟨rfl, hb, hS⟩; (repeat (first | refine Qw ?_ | refine Qz ?_ | refine fun _ => ?_)); refine QX ?_; refine .inr ⟨_, rfl, ?_⟩; exact ⟨_, by rw [Q3c (by omega), Q9 h1, Q9 h2, Q9 h3, if_pos (by simpa using hb)], rfl, (St.back0 hS.sp hi)⟩) (h := ?_); rintro v1 w1 ⟨rfl, hb, hS⟩; refine zt ?_; refine zcn ?_; have hJ : JOk cx L j i (jins m j.f s x) (.tuple #[]) w1 := ⟨rfl, cx, s, vl, css, St.refl hS, by rw [Q3c (by omega), Q9 h1, Q9 h2, Q9 h3, if_neg (by simpa using hb)], hls, (St.back hS.sp hi)⟩; refine Q1H ?_; exact .inl ⟨_, rfl, hJ⟩)
                                       · skip
                                         all_goals (refine zC [(0, none), (1, none), (2, none), (3, none), (5, none), (6, none), (4, some (some [6])), (8, some (some [6])), (7, some none), (9, some none)] ?_; have hS := hS.drew; refine s_cq ?_; refine zm ?_; refine zt ?_; refine s_cq ?_; refine zm ?_; refine zt ?_; refine s_cq ?_; refine Q2 rfl ?_; refine zt ?_; refine s_cq ?_; (first | (refine Qe hS rfl fd rfl ?_) | (refine zl hS ?_)); refine zt ?_; refine s_cq ?_; refine Q2 rfl ?_; refine zt ?_; refine s_cq ?_; (first | (refine Qe hS rfl fd rfl ?_) | (refine zl hS ?_)); refine zt ?_; refine QU ?_; refine zE3 (c := Qkk (s := s) hls hS fd) (p := by rintro v9 w9 ⟨c, h1, rfl, hS⟩; (repeat (first | refine Qw ?_ | refine Qz ?_ | refine fun _ => ?_)); refine QX ?_; refine .inr ⟨_, rfl, ?_⟩; exact ⟨_, by rw [Q3c (by omega), Qt h1], rfl, (St.back0 hS.sp hi)⟩) (h := ?_); rintro v1 w1 ⟨t1, cs1, h1, rfl, hrd1, hS⟩; have hrd1' := hrd1; obtain ⟨vd1, rfl, hld1⟩ := Qf hrd1; refine zt ?_; refine ⟨List.forall_mem_cons.2 ⟨(by first | (exact QG hS rfl fd rfl) | (exact Q18 hS rfl fd rfl)), fun _ h => (List.not_mem_nil h).elim⟩, ?_⟩)
                                         all_goals (refine QU ?_; refine Qd hS ?_; intro p6 w1 hS; refine zt ?_; refine ⟨List.forall_mem_cons.2 ⟨(by first | (exact QG hS rfl fd rfl) | (exact Q18 hS rfl fd rfl)), fun _ h => (List.not_mem_nil h).elim⟩, ?_⟩; refine s_cf ?_; refine zE3 (c := Qge (j := j) (Q64 hF (by omega)) hrd1' hS) (p := by rintro v9 w9 ⟨c, h2, rfl, hS⟩; (repeat (first | refine Qw ?_ | refine Qz ?_ | refine fun _ => ?_)); refine QX ?_; refine .inr ⟨_, rfl, ?_⟩; exact ⟨_, by rw [Q3c (by omega), Q9 h1, Qt h2], rfl, (St.back0 hS.sp hi)⟩) (h := ?_); rintro v1 w1 ⟨t2, cs2, h2, rfl, hrd2, hS⟩; have hrd2' := hrd2; obtain ⟨vd2, rfl, hld2⟩ := Qf hrd2; refine zt ?_; refine s_cf ?_; refine zsn hS ?_; intro w1 hS; have hS := hS.ns; refine zt ?_; refine zcn ?_; refine zC [(0, none), (1, none), (2, none), (3, none), (4, some (some [0])), (5, some none), (6, none), (7, some none)] ?_; have hS := hS.drew; refine s_cq ?_; refine zv hS ?_; refine zt ?_; refine s_cq ?_; refine zm ?_; refine zt ?_; refine s_cq ?_; refine Q2 rfl ?_; refine zt ?_; refine s_cq ?_; (first | (refine Qe hS rfl fd rfl ?_) | (refine zl hS ?_)))
                                         all_goals (refine zt ?_; refine QU ?_; refine zE2 (c := Q6r (s := s) hls hS fd) (p := by rintro v9 w9 ⟨c, h3, rfl, hS⟩; (repeat (first | refine Qw ?_ | refine Qz ?_ | refine fun _ => ?_)); refine QX ?_; refine .inr ⟨_, rfl, ?_⟩; exact ⟨_, by rw [Q3c (by omega), Q9 h1, Q9 h2, Qt h3], rfl, (St.back0 hS.sp hi)⟩) (h := ?_); rintro v1 w1 ⟨t3, cs3, h3, rfl, hrd3, hS⟩; skip; refine zt ?_; refine ⟨List.forall_mem_cons.2 ⟨(by first | (exact QG hS rfl fd rfl) | (exact Q2i hS rfl fd rfl rfl)), fun _ h => (List.not_mem_nil h).elim⟩, ?_⟩; refine s_cf ?_; refine zR2 (c := Qh0 _ _ hrd2' hrd3 hS) (h := ?_); rintro v1 w1 ⟨rfl, hS⟩; refine zt ?_; refine s_cq ?_; refine Q1O rfl ?_; refine zt ?_; refine s_cf ?_; refine zE2 (c := Q3T hS) (p := by rintro v9 w9 ⟨rfl, hb, hS⟩; (repeat (first | refine Qw ?_ | refine Qz ?_ | refine fun _ => ?_)); refine QX ?_; refine .inr ⟨_, rfl, ?_⟩; exact ⟨_, by rw [Q3c (by omega), Q9 h1, Q9 h2, Q9 h3, if_pos (by simpa using hb)], rfl, (St.back0 hS.sp hi)⟩) (h := ?_); rintro v1 w1 ⟨rfl, hb, hS⟩; refine zt ?_; refine zcn ?_; have hJ : JOk cx L j i (jins m j.f s x) (.tuple #[]) w1 := ⟨rfl, cx, s, vl, css, St.refl hS, by rw [Q3c (by omega), Q9 h1, Q9 h2, Q9 h3, if_neg (by simpa using hb)], hls, (St.back hS.sp hi)⟩; refine Q1H ?_; exact .inl ⟨_, rfl, hJ⟩)
                                     · skip
                                       all_goals (refine zC [(0, none), (1, none), (2, none), (3, none), (5, none), (6, none), (8, some (some [3, 6])), (4, some (some [6])), (7, some none), (9, some none)] ?_; have hS := hS.drew; refine s_cq ?_; refine zm ?_; refine zt ?_; refine s_cq ?_; refine zm ?_; refine zt ?_; refine s_cq ?_; refine Q2 rfl ?_; refine zt ?_; refine s_cq ?_; (first | (refine Qe hS rfl fd rfl ?_) | (refine zl hS ?_)); refine zt ?_; refine s_cq ?_; refine Q2 rfl ?_; refine zt ?_; refine s_cq ?_; (first | (refine Qe hS rfl fd rfl ?_) | (refine zl hS ?_)); refine zt ?_; refine QU ?_; refine Qd hS ?_; intro p6 w1 hS; refine zt ?_; refine ⟨List.forall_mem_cons.2 ⟨(by first | (exact QG hS rfl fd rfl) | (exact Q18 hS rfl fd rfl)), List.forall_mem_cons.2 ⟨(by first | (exact QG hS rfl fd rfl) | (exact Q18 hS rfl fd rfl)), fun _ h => (List.not_mem_nil h).elim⟩⟩, ?_⟩; refine QU ?_; refine zE3 (c := Qkk (s := s) hls hS fd) (p := by rintro v9 w9 ⟨c, h1, rfl, hS⟩; (repeat (first | refine Qw ?_ | refine Qz ?_ | refine fun _ => ?_)); refine QX ?_; refine .inr ⟨_, rfl, ?_⟩; exact ⟨_, by rw [Q3c (by omega), Qt h1], rfl, (St.back0 hS.sp hi)⟩) (h := ?_); rintro v1 w1 ⟨t1, cs1, h1, rfl, hrd1, hS⟩; have hrd1' := hrd1; obtain ⟨vd1, rfl, hld1⟩ := Qf hrd1)
                                       all_goals (refine zt ?_; refine ⟨List.forall_mem_cons.2 ⟨(by first | (exact QG hS rfl fd rfl) | (exact Q18 hS rfl fd rfl)), fun _ h => (List.not_mem_nil h).elim⟩, ?_⟩; refine s_cf ?_; refine zE3 (c := Qge (j := j) (Q64 hF (by omega)) hrd1' hS) (p := by rintro v9 w9 ⟨c, h2, rfl, hS⟩; (repeat (first | refine Qw ?_ | refine Qz ?_ | refine fun _ => ?_)); refine QX ?_; refine .inr ⟨_, rfl, ?_⟩; exact ⟨_, by rw [Q3c (by omega), Q9 h1, Qt h2], rfl, (St.back0 hS.sp hi)⟩) (h := ?_); rintro v1 w1 ⟨t2, cs2, h2, rfl, hrd2, hS⟩; have hrd2' := hrd2; obtain ⟨vd2, rfl, hld2⟩ := Qf hrd2; refine zt ?_; refine s_cf ?_; refine zsn hS ?_; intro w1 hS; have hS := hS.ns; refine zt ?_; refine zcn ?_; refine zC [(0, none), (1, none), (2, none), (3, none), (4, some (some [0])), (5, some none), (6, none), (7, some none)] ?_; have hS := hS.drew; refine s_cq ?_; refine zv hS ?_; refine zt ?_; refine s_cq ?_; refine zm ?_; refine zt ?_; refine s_cq ?_; refine Q2 rfl ?_; refine zt ?_; refine s_cq ?_; (first | (refine Qe hS rfl fd rfl ?_) | (refine zl hS ?_)); refine zt ?_)
                                       all_goals (refine QU ?_; refine zE2 (c := Q6r (s := s) hls hS fd) (p := by rintro v9 w9 ⟨c, h3, rfl, hS⟩; (repeat (first | refine Qw ?_ | refine Qz ?_ | refine fun _ => ?_)); refine QX ?_; refine .inr ⟨_, rfl, ?_⟩; exact ⟨_, by rw [Q3c (by omega), Q9 h1, Q9 h2, Qt h3], rfl, (St.back0 hS.sp hi)⟩) (h := ?_); rintro v1 w1 ⟨t3, cs3, h3, rfl, hrd3, hS⟩; skip; refine zt ?_; refine ⟨List.forall_mem_cons.2 ⟨(by first | (exact QG hS rfl fd rfl) | (exact Q2i hS rfl fd rfl rfl)), fun _ h => (List.not_mem_nil h).elim⟩, ?_⟩; refine s_cf ?_; refine zR2 (c := Qh0 _ _ hrd2' hrd3 hS) (h := ?_); rintro v1 w1 ⟨rfl, hS⟩; refine zt ?_; refine s_cq ?_; refine Q1O rfl ?_; refine zt ?_; refine s_cf ?_; refine zE2 (c := Q3T hS) (p := by rintro v9 w9 ⟨rfl, hb, hS⟩; (repeat (first | refine Qw ?_ | refine Qz ?_ | refine fun _ => ?_)); refine QX ?_; refine .inr ⟨_, rfl, ?_⟩; exact ⟨_, by rw [Q3c (by omega), Q9 h1, Q9 h2, Q9 h3, if_pos (by simpa using hb)], rfl, (St.back0 hS.sp hi)⟩) (h := ?_); rintro v1 w1 ⟨rfl, hb, hS⟩; refine zt ?_; refine zcn ?_; have hJ : JOk cx L j i (jins m j.f s x) (.tuple #[]) w1 := ⟨rfl, cx, s, vl, css, St.refl hS, by rw [Q3c (by omega), Q9 h1, Q9 h2, Q9 h3, if_neg (by simpa using hb)], hls, (St.back hS.sp hi)⟩)
                                       all_goals (refine Q1H ?_; exact .inl ⟨_, rfl, hJ⟩))
                                  | (refine Q4 rfl ?_ -- Qg c7
                                     all_goals (refine Q0 ?_; refine Q1 ?_)
                                     all_goals (first | (refine Qv ?_) | (refine QB ?_) | (refine Qn rfl rfl (fun hc => ?_) (fun hc => ?_)))
                                     all_goals (refine zm ?_; refine zn ?_)
                                     all_goals
                                       first
                                       | (refine Q3 rfl ?_ -- Qg c8
                                          all_goals (refine Q0 ?_; refine Q1 ?_; refine zm ?_; refine Q2 rfl ?_; (first | (refine Qe hS rfl fd rfl ?_) | (refine zl hS ?_)); refine zE3 (c := Qkk (s := s) hls hS fd) (p := by rintro v9 w9 ⟨c, h1, rfl, hS⟩; (repeat (first | refine Qw ?_ | refine Qz ?_ | refine fun _ => ?_)); refine QX ?_; refine .inr ⟨_, rfl, ?_⟩; exact ⟨_, by rw [Qhd (by omega), Qt h1], rfl, (St.back0 hS.sp hi)⟩) (h := ?_); rintro v1 w1 ⟨t1, cs1, h1, rfl, hrd1, hS⟩; obtain ⟨vd1, rfl, hld1⟩ := Qf hrd1; refine Quw rfl rfl ?_; refine zm ?_; refine zn ?_; refine Q0 ?_; refine Q1 ?_; refine zm ?_; refine Q2 rfl ?_; (first | (refine Qe hS rfl fd rfl ?_) | (refine zl hS ?_)); refine zE3 (c := Q5c (s := s) hls hS fd) (p := by rintro v9 w9 ⟨c, h2, rfl, hS⟩; (repeat (first | refine Qw ?_ | refine Qz ?_ | refine fun _ => ?_)); refine QX ?_; refine .inr ⟨_, rfl, ?_⟩; exact ⟨_, by rw [Qhd (by omega), Q9 h1, Qt h2], rfl, (St.back0 hS.sp hi)⟩) (h := ?_); rintro v1 w1 ⟨t2, cs2, h2, rfl, hrd2, hS⟩; skip; refine zn ?_; refine Q1 ?_; refine zm ?_; refine zm ?_; refine zb2 [_, _, _] ?_; refine zE2 (c := Qa5 (s := s) (by omega) (Q1N (k := 4) (r := t1.r) (l := []) (Rep.SR.nil _ _ _)) hls hS fd) (p := by rintro v9 w9 ⟨rfl, h80, hS⟩; (repeat (first | refine Qw ?_ | refine Qz ?_ | refine fun _ => ?_)); refine QX ?_; refine .inr ⟨_, rfl, ?_⟩; exact ⟨_, by rw [Qhd (by omega), Q9 h1, Q9 h2, Q8O h80], rfl, (St.back0 hS.sp hi)⟩) (h := ?_); rintro v1 w1 ⟨rfl, hne, vl4, cs4, hls4, hS⟩; have hS := hS.ns; have hJ : JOk cx L j i (jins m j.f s x) (.tuple #[]) w1 := ⟨rfl, cx, ⟨s.h, _⟩, vl4, cs4, St.refl hS, by rw [Qhd (by omega), Q9 h1, Q9 h2, Q5b hne], hls4, (St.back hS.sp hi)⟩)
                                          all_goals refine zn ?_)
                                       | (refine Q4 rfl ?_ -- Qg c8
                                          all_goals (refine Q0 ?_; refine Q1 ?_)
                                          all_goals (first | (refine Qv ?_) | (refine QB ?_) | (refine Qn rfl rfl (fun hc => ?_) (fun hc => ?_)))
                                          all_goals (refine zm ?_; refine zn ?_)
                                          all_goals
                                            first
                                            | (refine Q3 rfl ?_ -- Qg c9
                                               all_goals (refine Q0 ?_; refine Q1 ?_; refine zm ?_; refine Q2 rfl ?_; (first | (refine Qe hS rfl fd rfl ?_) | (refine zl hS ?_)); refine zE3 (c := Qkk (s := s) hls hS fd) (p := by rintro v9 w9 ⟨c, h1, rfl, hS⟩; (repeat (first | refine Qw ?_ | refine Qz ?_ | refine fun _ => ?_)); refine QX ?_; refine .inr ⟨_, rfl, ?_⟩; exact ⟨_, by rw [Qhc (by omega), Qt h1], rfl, (St.back0 hS.sp hi)⟩) (h := ?_); rintro v1 w1 ⟨t1, cs1, h1, rfl, hrd1, hS⟩; skip; refine zn ?_; refine Q0 ?_; refine Q1 ?_; refine zm ?_; refine Q2 rfl ?_; (first | (refine Qe hS rfl fd rfl ?_) | (refine zl hS ?_)); refine zE3 (c := Q5c (s := s) hls hS fd) (p := by rintro v9 w9 ⟨c, h2, rfl, hS⟩; (repeat (first | refine Qw ?_ | refine Qz ?_ | refine fun _ => ?_)); refine QX ?_; refine .inr ⟨_, rfl, ?_⟩; exact ⟨_, by rw [Qhc (by omega), Q9 h1, Qt h2], rfl, (St.back0 hS.sp hi)⟩) (h := ?_); rintro v1 w1 ⟨t2, cs2, h2, rfl, hrd2, hS⟩; skip; refine zn ?_; refine Q1 ?_; refine zm ?_; refine zv hS ?_; refine zE2 (c := Qa5 (s := s) (by omega) hN hls hS fd) (p := by rintro v9 w9 ⟨rfl, h80, hS⟩; (repeat (first | refine Qw ?_ | refine Qz ?_ | refine fun _ => ?_)); refine QX ?_; refine .inr ⟨_, rfl, ?_⟩; exact ⟨_, by rw [Qhc (by omega), Q9 h1, Q9 h2, Q8O h80], rfl, (St.back0 hS.sp hi)⟩) (h := ?_); rintro v1 w1 ⟨rfl, hne, vl4, cs4, hls4, hS⟩; have hS := hS.ns; have hJ : JOk cx L j i (jins m j.f s x) (.tuple #[]) w1 := ⟨rfl, cx, ⟨s.h, _⟩, vl4, cs4, St.refl hS, by rw [Qhc (by omega), Q9 h1, Q9 h2, Q5b hne], hls4, (St.back hS.sp hi)⟩)
                                               all_goals refine zn ?_)
                                            | (refine Q4 rfl ?_ -- Qg c9
                                               all_goals (refine Q0 ?_; refine Q1 ?_)
                                               all_goals (first | (refine Qv ?_) | (refine QB ?_) | (refine Qn rfl rfl (fun hc => ?_) (fun hc => ?_)))
                                               all_goals (refine zm ?_; refine zn ?_)
                                               all_goals
                                                 first
                                                 | (refine Q3 rfl ?_ -- Qg c10
                                                    all_goals (refine Q0 ?_; refine Q1 ?_; refine zm ?_; refine Q2 rfl ?_; (first | (refine Qe hS rfl fd rfl ?_) | (refine zl hS ?_)); refine zE3 (c := Qkk (s := s) hls hS fd) (p := by rintro v9 w9 ⟨c, h1, rfl, hS⟩; (repeat (first | refine Qw ?_ | refine Qz ?_ | refine fun _ => ?_)); refine QX ?_; refine .inr ⟨_, rfl, ?_⟩; exact ⟨_, by rw [Q8P (by omega), Qt h1], rfl, (St.back0 hS.sp hi)⟩) (h := ?_); rintro v1 w1 ⟨t1, cs1, h1, rfl, hrd1, hS⟩; skip; refine zn ?_; refine Q0 ?_; refine Q1 ?_; refine zm ?_; refine Q2 rfl ?_; (first | (refine Qe hS rfl fd rfl ?_) | (refine zl hS ?_)); refine zE3 (c := Q5c (s := s) hls hS fd) (p := by rintro v9 w9 ⟨c, h2, rfl, hS⟩; (repeat (first | refine Qw ?_ | refine Qz ?_ | refine fun _ => ?_)); refine QX ?_; refine .inr ⟨_, rfl, ?_⟩; exact ⟨_, by rw [Q8P (by omega), Q9 h1, Qt h2], rfl, (St.back0 hS.sp hi)⟩) (h := ?_); rintro v1 w1 ⟨t2, cs2, h2, rfl, hrd2, hS⟩; skip; refine zn ?_; refine Q1 ?_; refine zm ?_; refine Q2 rfl ?_; (first | (refine Qe hS rfl fd rfl ?_) | (refine zl hS ?_)))
                                                    all_goals (refine zE3 (c := Q5c (s := s) hls hS fd) (p := by rintro v9 w9 ⟨c, h3, rfl, hS⟩; (repeat (first | refine Qw ?_ | refine Qz ?_ | refine fun _ => ?_)); refine QX ?_; refine .inr ⟨_, rfl, ?_⟩; exact ⟨_, by rw [Q8P (by omega), Q9 h1, Q9 h2, Qt h3], rfl, (St.back0 hS.sp hi)⟩) (h := ?_); rintro v1 w1 ⟨t3, cs3, h3, rfl, hrd3, hS⟩; skip; refine zn ?_)
                                                    all_goals (have hJ : JOk cx L j i (jins m j.f s x) (.tuple #[]) w1 := ⟨rfl, cx, s, vl, css, St.refl hS, by rw [Q8P (by omega), Q9 h1, Q9 h2, Q9 h3], hls, (St.back hS.sp hi)⟩))
                                                 | (refine Q4 rfl ?_ -- Qg c10
                                                    all_goals (refine Q0 ?_; refine Q1 ?_)
                                                    all_goals (first | (refine Qv ?_) | (refine QB ?_) | (refine Qn rfl rfl (fun hc => ?_) (fun hc => ?_)))
                                                    all_goals (refine zm ?_; refine zn ?_)
                                                    all_goals
                                                      first
                                                      | (refine Q3 rfl ?_ -- Qg c11
                                                         all_goals (refine Q0 ?_; refine Q1 ?_; refine zm ?_; refine Q2 rfl ?_; (first | (refine Qe hS rfl fd rfl ?_) | (refine zl hS ?_)); refine zE3 (c := Qkk (s := s) hls hS fd) (p := by rintro v9 w9 ⟨c, h1, rfl, hS⟩; (repeat (first | refine Qw ?_ | refine Qz ?_ | refine fun _ => ?_)); refine QX ?_; refine .inr ⟨_, rfl, ?_⟩; exact ⟨_, by rw [Qbo (by omega), Qt h1], rfl, (St.back0 hS.sp hi)⟩) (h := ?_); rintro v1 w1 ⟨t1, cs1, h1, rfl, hrd1, hS⟩; skip; refine zn ?_; refine Q1 ?_; refine zm ?_; refine zv hS ?_; refine zE2 (c := Qa5 (s := s) (by omega) hN hls hS fd) (p := by rintro v9 w9 ⟨rfl, h80, hS⟩; (repeat (first | refine Qw ?_ | refine Qz ?_ | refine fun _ => ?_)); refine QX ?_; refine .inr ⟨_, rfl, ?_⟩; exact ⟨_, by rw [Qbo (by omega), Q9 h1, Q8O h80], rfl, (St.back0 hS.sp hi)⟩) (h := ?_); rintro v1 w1 ⟨rfl, hne, vl4, cs4, hls4, hS⟩; have hS := hS.ns; have hJ : JOk cx L j i (jins m j.f s x) (.tuple #[]) w1 := ⟨rfl, cx, ⟨s.h, _⟩, vl4, cs4, St.refl hS, by rw [Qbo (by omega), Q9 h1, Q5b hne], hls4, (St.back hS.sp hi)⟩)
                                                         all_goals refine zn ?_)
                                                      | (refine Q4 rfl ?_ -- Qg c11
                                                         all_goals (refine Q0 ?_; refine Q1 ?_)
                                                         all_goals (first | (refine Qv ?_) | (refine QB ?_) | (refine Qn rfl rfl (fun hc => ?_) (fun hc => ?_)))
                                                         all_goals (refine zm ?_; refine zn ?_)
                                                         all_goals
                                                           first
                                                           | (refine Q3 rfl ?_ -- Qg c12
                                                              all_goals (refine Q1 ?_; refine zm ?_; refine Q2 rfl ?_; (first | (refine Qe hS rfl fd rfl ?_) | (refine zl hS ?_)); refine zE3 (c := Q5c (s := s) hls hS fd) (p := by rintro v9 w9 ⟨c, h1, rfl, hS⟩; (repeat (first | refine Qw ?_ | refine Qz ?_ | refine fun _ => ?_)); refine QX ?_; refine .inr ⟨_, rfl, ?_⟩; exact ⟨_, by rw [Qhh (by omega), Qt h1], rfl, (St.back0 hS.sp hi)⟩) (h := ?_); rintro v1 w1 ⟨t1, cs1, h1, rfl, hrd1, hS⟩; skip; refine zn ?_)
                                                              all_goals (have hJ : JOk cx L j i (jins m j.f s x) (.tuple #[]) w1 := ⟨rfl, cx, s, vl, css, St.refl hS, by rw [Qhh (by omega), Q9 h1], hls, (St.back hS.sp hi)⟩))
                                                           | (refine Q4 rfl ?_ -- Qg c12
                                                              all_goals (refine Q0 ?_; refine Q1 ?_)
                                                              all_goals (refine Qv ?_)
                                                              all_goals (refine zm ?_; refine zn ?_)
                                                              all_goals
                                                                first
                                                                | (refine Q3 rfl ?_ -- Qg c13
                                                                   all_goals (refine Q1 ?_; refine zm ?_; refine zv hS ?_; refine zE2 (c := jcall_c hm (Qq6 hF (by omega)) hn hj hx' hls hS fd) (p := by rintro v9 w9 ⟨c, g1, rfl, hS⟩; (repeat (first | refine Qw ?_ | refine Qz ?_ | refine fun _ => ?_)); refine QX ?_; refine .inr ⟨_, rfl, ?_⟩; exact ⟨_, by rw [Qhg (by omega)]; exact g1, rfl, (St.back0 hS.sp hi)⟩) (h := ?_); rintro v1 w1 ⟨rfl, c1, s1, vl4, cs4, hle, hr1, hls4, hS⟩; have hS := hS.ns; have hJ : JOk cx L j i (jins m j.f s x) (.tuple #[]) w1 := ⟨rfl, c1, s1, vl4, cs4, hle, by rw [Qhg (by omega)]; exact hr1, hls4, (St.back hS.sp hi)⟩)
                                                                   all_goals refine zn ?_))))))
                                     all_goals (refine Q1H ?_; exact .inl ⟨_, rfl, hJ⟩))))))
              | (refine Q3 rfl ?_ -- Qg c3
                 all_goals (refine Q0 ?_; refine Q1 ?_; refine zm ?_; refine Qi rfl ?_; refine Q2 rfl ?_; refine Qe hS rfl fd rfl ?_; refine zR1 (c := Qv6 hS fd) (h := ?_); rintro v1 w1 ⟨rfl, hS⟩)
                 all_goals (first | (refine Qv ?_) | (refine QB ?_) | (refine Qn rfl rfl (fun hc => ?_) (fun hc => ?_)))
                 all_goals (refine zm ?_; (first | refine s_gn rfl rfl ?_ | (refine s_gy rfl ?_; refine zm ?_)); (first | refine s_gn rfl rfl ?_ | (refine s_gy rfl ?_; refine Qi rfl ?_)); (first | refine s_gn rfl rfl ?_ | (refine s_gy rfl ?_; refine Q2 rfl ?_)); (first | refine s_gn rfl rfl ?_ | (refine s_gy rfl ?_; refine Qe hS rfl fd rfl ?_)); (first | refine s_gn rfl rfl ?_ | (refine s_gy rfl ?_; refine Qmc hS fd vw hlc ?_)))
                 all_goals (first | refine s_gn rfl rfl ?_ | (refine s_gy rfl ?_; (first | (refine Qv ?_) | (refine QB ?_) | (refine Qn rfl rfl (fun hc => ?_) (fun hc => ?_)))))
                 all_goals ((first | (refine zpt ?_) | (refine zpf ?_)))
                 all_goals (first | (refine zR2 (c := Q2K hS) (h := ?_); rintro v1 w1 ⟨rfl, hS⟩) | (refine zE2 (c := Q2J hS) (p := by rintro v9 w9 ⟨rfl, hS⟩; (repeat (first | refine Qw ?_ | refine Qz ?_ | refine fun _ => ?_)); refine QX ?_; refine .inr ⟨_, rfl, ?_⟩; exact ⟨_, by rw [QpV (by omega), if_pos (by omega)], rfl, (St.back0 hS.sp hi)⟩) (h := fun _ _ h => h.elim)))
                 all_goals (refine zn ?_; refine Q1 ?_; refine zm ?_; refine zm ?_; refine Qi rfl ?_; refine Q2 rfl ?_; refine Qe hS rfl fd rfl ?_; refine zR1 (c := jopen_c (h := s.h) (by omega) hS fd) (h := ?_); rintro v1 w1 ⟨rfl, hS⟩; have hS := hS.ns; refine zb2 [_, _, _] ?_; refine zE2 (c := Qa5 (s := s) (by omega) (Q1N (k := 2) (r := s.h.length) (l := []) (Rep.SR.nil _ _ _)) hls hS fd) (p := by rintro v9 w9 ⟨rfl, h80, hS⟩; (repeat (first | refine Qw ?_ | refine Qz ?_ | refine fun _ => ?_)); refine QX ?_; refine .inr ⟨_, rfl, ?_⟩; (exfalso; omega)) (h := ?_); rintro v1 w1 ⟨rfl, hne, vl4, cs4, hls4, hS⟩; have hS := hS.ns; have hJ : JOk cx L j i (jins m j.f s x) (.tuple #[]) w1 := ⟨rfl, cx, ⟨s.h ++ [true], _⟩, vl4, cs4, St.refl hS, by rw [QpV (by omega), if_neg (by omega)], hls4, (St.back hS.sp hi)⟩; refine zn ?_)
                 all_goals (refine Q1H ?_; exact .inl ⟨_, rfl, hJ⟩))))
end Go.Proofs.YtanlkfeogoganaaGreat
namespace Go.Proofs.YtanlkfeogoganaaGreat
open Go.Lir
set_option maxHeartbeats 1000000
attribute [local irreducible] LC.wp Q5 Q11 Q1c retQ Q2b LO.wp QD Calls
set_option linter.unusedSimpArgs false
set_option linter.unusedVariables false
attribute [local irreducible] hasB Q1W Q1o Q1I Q3A upTo
variable {cx : Cx} {w : World} {L : List Res} {j : JP} {h : List Bool} {vl : Value} {css : List (List Value)} {i : Nat} {m : Module}
theorem jto_c {s : JS} {t : To} {cs : List Value} (hsf : j.f.Short) (hb : 0 ≤ t.block ∧ t.block < j.f.blocks.length) (hfb : ∀ b ∈ j.f.blocks, j.f.regs ≤ b.regs) (hh : s.h.length ≤ 16) (hj : j.Fits cx m) (hx : toR.at cx cs t) (hls : tyR.ls cx css s.l) (hS : St cx w L) (hi : nth L i = some (j.res s.h vl css)) :
    Fins Tryz.prog Q7q [.pointer (some ⟨j.sp, 0, none⟩), .agg ⟨cs⟩] w (fun u w' => jto j.f s t = .ok () ∧ u = .tuple #[] ∧ St cx w' L) (JNo cx L (jto j.f s t)) := by
  have hS := hS.out hi
  obtain ⟨vr, va, rfl, hr, ha⟩ := Q7x hx
  have hlr := hr.len
  have hbl := hj.b
  unfold Fins
  all_goals refine Qbe ?_
  all_goals (unfold judge_State_to_lc; refine Q0 ?_; refine Q1 ?_; refine zb hS ?_; intro p3 w1 hS; refine zn ?_; refine Q0 ?_; refine zC [(0, none), (1, none), (2, none), (3, none), (4, none), (5, none), (6, none), (7, none), (8, none), (9, some (some [4, 6, 8])), (10, some none)] ?_; have hS := hS.drew; refine s_cq ?_; refine zm ?_; refine zt ?_; refine s_cq ?_; refine Qi rfl ?_; refine zt ?_; refine s_cq ?_; refine Q2 rfl ?_; refine zt ?_; refine s_cq ?_; (first | refine Q2 rfl ?_ | refine Q1d rfl ?_); refine zt ?_; refine s_cq ?_; refine Qe hS rfl fd rfl ?_; refine zt ?_; refine s_cq ?_; refine Q2 rfl ?_; refine zt ?_; refine s_cq ?_; (first | (refine Qe hS rfl fd rfl ?_) | (refine zl hS ?_)); refine zt ?_; refine s_cq ?_; ((first | refine zi ?_ | refine zj ?_); intro b1 o1 cs1 x1 hat1 hx1 he1; obtain ⟨vp1, vc1, ve11, ve12, ve13, ve14, ve15, rfl, hp1, hc1, he11, he12, he13, he14, he15⟩ := Q2N he1); refine zt ?_; refine s_cq ?_; (first | (refine zv hS ?_) | (refine zvk hS ?_)); refine zt ?_; refine QU ?_; refine Qd hS ?_; intro p4 w1 hS)
  all_goals (refine zt ?_; refine ⟨List.forall_mem_cons.2 ⟨(by (exact QG hS rfl fd rfl)), List.forall_mem_cons.2 ⟨(by first | (exact QG hS rfl fd rfl) | (exact Q18 hS rfl fd rfl)), List.forall_mem_cons.2 ⟨(by first | (exact QG hS rfl fd rfl) | (exact Q2i hS rfl fd rfl rfl) | (exact Q3D hS (by assumption) rfl rfl rfl)), fun _ h => (List.not_mem_nil h).elim⟩⟩⟩, ?_⟩; refine s_cf ?_; refine zsn hS ?_; intro w1 hS; have hS := hS.ns; refine zt ?_; refine zcn ?_; have hbm := List.mem_of_getElem? hx1; have hf1 := hfb x1 hbm; have hsb := hsf.2.2.2 x1 hbm; refine Q0 ?_; refine Q1 ?_; refine Q2 rfl ?_; (first | (refine Qe hS rfl fd rfl ?_) | (refine zl hS ?_)); refine zL ?_; refine Q2 rfl ?_; (first | (refine Qe hS rfl fd rfl ?_) | (refine zl hS ?_)))
  all_goals (first | (refine QZ ?_) | (refine Q10 ?_) | (refine Qp rfl rfl (fun hc => ?_) (fun hc => ?_)))
  all_goals (first | (refine zR2 (c := Q2K hS) (h := ?_); rintro v1 w1 ⟨rfl, hS⟩) | (refine zE2 (c := Q2J hS) (p := by rintro v9 w9 ⟨rfl, hS⟩; (repeat (first | refine Qw ?_ | refine Qz ?_ | refine fun _ => ?_)); refine QX ?_; refine .inr ⟨_, rfl, ?_⟩; exact ⟨_, Qv2 hx1 (by omega), rfl, (St.back0 hS.sp hi)⟩) (h := fun _ _ h => h.elim)))
  all_goals (refine zn ?_; refine Q0 ?_; refine Q0 ?_; refine Q1 ?_; refine zm ?_; refine Qi rfl ?_; refine Q2 rfl ?_; (first | refine Q2 rfl ?_ | refine Q1d rfl ?_); refine Qe hS rfl fd rfl ?_; refine zm ?_; refine zn ?_; refine Qa ?_)
  refine zoL hS [0, 3, 4, 27] (fun A LL ρ' w' => ∃ (q : Nat), Has ρ' A ∧ Has ρ' [(28, .int .i64 q)] ∧ (q ≤ j.f.regs.toNat) ∧ (Q3A t.regs q = true) ∧ (¬ (t.regs.length : Int) ≠ x1.regs) ∧ St cx w' (LL)) (fun ρ' _ => (j.f.regs - iv (ρ' 28)).toNat) ?_ ?_
  · exact ⟨0, zh, zh, (by omega), by unfold Q3A; rfl, by omega, hS.sp⟩
  rintro ρ w1 ⟨q, hA, hρ, hq, hk, hne, hS⟩; obtain ⟨ρ, rfl⟩ := env2 hA hρ
  unfold Q4x
  all_goals (refine Q0 ?_; refine Q1 ?_; refine Qx rfl rfl ?_; refine zn ?_; refine Q0 ?_)
  refine Qo rfl (fun hc => ?_) (fun hc => ?_)
  · skip
    all_goals (refine zsk ?_; refine Q0 ?_; refine Qa ?_; refine Q0 ?_; refine Q1 ?_; refine zm ?_; refine zm ?_; refine zn ?_; refine Q1 ?_; refine Q2 rfl ?_; (first | (refine Qe hS rfl fd rfl ?_) | (refine zl hS ?_)); refine zm ?_; refine zi ?_; intro b2 o2 cs2 x2 hat2 hx2 he2; obtain rfl := QJ he2; (first | (refine Qe hS rfl fd rfl ?_) | (refine zl hS ?_) | (refine zlk hS ?_)); refine zm ?_)
    all_goals (first | (refine QZ ?_) | (refine Q10 ?_) | (refine Qp rfl rfl (fun hc => ?_) (fun hc => ?_)))
    all_goals (first | (refine zR2 (c := Q2K hS) (h := ?_); rintro v1 w1 ⟨rfl, hS⟩) | (refine zE2 (c := Q2J hS) (p := by rintro v9 w9 ⟨rfl, hS⟩; (repeat (first | refine Qw ?_ | refine Qz ?_ | refine fun _ => ?_)); refine QX ?_; refine .inr ⟨_, rfl, ?_⟩; exact ⟨_, Qtj hx1 hne (QmT (q := q) (by omega) (by rw [hx2]; intro h; cases h; omega)), rfl, (St.back0 hS.sp hi)⟩) (h := fun _ _ h => h.elim)))
    all_goals (refine zn ?_; refine Q1 ?_; refine zad ?_; refine zm ?_; refine zn ?_; exact ⟨⟨q + 1, zh, zh, (by omega), by rw [kept_s, hk, hx2]; simp; omega, hne, hS.sp⟩, Qr (by omega)⟩)
  · skip
    all_goals (refine zex ?_; have hq' : q = j.f.regs.toNat := (by omega); rw [hq'] at hk; refine Q0 ?_; refine zD [(0, none), (1, none), (2, none), (3, none), (4, none), (5, none), (6, some none), (7, some none)] ?_; have hS := hS.drew; refine zm ?_; refine Qi rfl ?_; refine Q2 rfl ?_; refine Qe hS rfl fd rfl ?_; refine Q2 rfl ?_; (first | (refine Qe hS rfl fd rfl ?_) | (refine zl hS ?_)); refine zR2 (c := jpass_c (h := s.h) hh hr hS fd) (h := ?_); rintro v1 w1 ⟨rfl, hS⟩; refine zm ?_; refine zn ?_; refine Q0 ?_; refine Q1 ?_; refine zm ?_; refine Q55 rfl rfl ?_; refine zm ?_; refine zE2 (c := Q3T hS) (p := by rintro v9 w9 ⟨rfl, hb, hS⟩; (repeat (first | refine Qw ?_ | refine Qz ?_ | refine fun _ => ?_)); refine QX ?_; refine .inr ⟨_, rfl, ?_⟩; exact ⟨_, jto_p hx1 hne hk (of_decide_eq_true hb), rfl, (St.back0 hS.sp hi)⟩) (h := ?_); rintro v1 w1 ⟨rfl, hb, hS⟩; refine zn ?_; refine Q1 ?_; refine zm ?_; refine Q2 rfl ?_; (first | (refine Qe hS rfl fd rfl ?_) | (refine zl hS ?_)); refine Q2 rfl ?_; (first | (refine Qe hS rfl fd rfl ?_) | (refine zl hS ?_)))
    all_goals (refine Q2 rfl ?_; (first | (refine Qe hS rfl fd rfl ?_) | (refine zl hS ?_)); refine zE4 (c := QrU (s := s) hsb.1.2 hls ha hp1 hr hS fd) (p := by rintro v9 w9 ⟨c, g1, rfl, hS⟩; (repeat (first | refine Qw ?_ | refine Qz ?_ | refine fun _ => ?_)); refine QX ?_; refine .inr ⟨_, rfl, ?_⟩; exact ⟨_, (jto_a hx1 hne hk (Classical.not_not.1 (of_decide_eq_false hb))).trans g1, rfl, (St.back0 hS.sp hi)⟩) (h := ?_); rintro v1 w1 ⟨har, rfl, hS⟩; refine zn ?_; refine Q1H ?_; exact .inl ⟨_, rfl, (jto_a hx1 hne hk (Classical.not_not.1 (of_decide_eq_false hb))).trans har, rfl, (St.back0 hS.sp hi)⟩)
theorem jend_c {s : JS} {e : Tail} {cs : List Value} (hsf : j.f.Short) (hF : Q1K j.f.blocks.length e = 0) (hfb : ∀ b ∈ j.f.blocks, j.f.regs ≤ b.regs) (hfr : j.f.regs ≤ 100000) (hh : s.h.length ≤ 16) (hj : j.Fits cx m) (hx : endR.at cx cs e) (hls : tyR.ls cx css s.l) (hS : St cx w L) (hi : nth L i = some (j.res s.h vl css)) :
    Fins Tryz.prog Q1k [.pointer (some ⟨j.sp, 0, none⟩), .agg ⟨cs⟩] w (fun u w' => jend j.f s e = .ok () ∧ u = .tuple #[] ∧ St cx w' L) (JNo cx L (jend j.f s e)) := by
  have hS := hS.out hi
  obtain ⟨v1, v2, v3, v4, v5, rfl, h1, h2, h3, h4, h5⟩ := Q47 hx
  have hop := Qmn hF
  have hy : e.op ≠ 3 → 0 ≤ e.yes.block ∧ e.yes.block < j.f.blocks.length := fun h => Qg7 (by have := hop.2.2.1; rwa [decide_eq_true h] at this)
  have hz : e.op = 2 → 0 ≤ e.no.block ∧ e.no.block < j.f.blocks.length := fun h => Qg7 (by have := hop.2.2.2; rwa [decide_eq_true h] at this)
  have hT1 : toR.at cx [.int .i64 e.yes.block, v1, v2] e.yes := ⟨_, _, rfl, h1, h2⟩
  have hT2 : toR.at cx [.int .i64 e.no.block, v3, v4] e.no := ⟨_, _, rfl, h3, h4⟩
  have hjr := hj.r
  unfold Fins
  all_goals refine Q9P ?_
  all_goals (unfold judge_State_end_lc; refine Q0 ?_; refine Q1 ?_; refine zb hS ?_; intro p3 w1 hS; refine zn ?_; refine Q0 ?_; refine Q1 ?_; refine Q2 rfl ?_; (first | (refine Qe hS rfl fd rfl ?_) | (refine zl hS ?_)); refine zn ?_; refine Qa ?_; refine Q0 ?_; refine Q1 ?_)
  all_goals (first | (refine Qv ?_) | (refine QB ?_) | (refine Qn rfl rfl (fun hc => ?_) (fun hc => ?_)))
  all_goals (refine zm ?_; refine zn ?_)
  all_goals
    first
    | (refine Q3 rfl ?_ -- Q1k c0
       all_goals (refine Q1 ?_; refine zm ?_; refine Q2 rfl ?_; refine zv hS ?_; refine zE2 (c := jto_c (s := s) hsf (hy (by omega)) hfb hh hj hT1 hls hS fd) (p := by rintro v9 w9 ⟨c, g1, rfl, hS⟩; (repeat (first | refine Qw ?_ | refine Qz ?_ | refine fun _ => ?_)); refine QX ?_; refine .inr ⟨_, rfl, ?_⟩; exact ⟨_, (Qva (by omega)).trans g1, rfl, (St.back0 hS.sp hi)⟩) (h := ?_); rintro v6 w1 ⟨g1, rfl, hS⟩; have hJ := (Qva (f := j.f) (s := s) (e := e) (by omega)).trans g1; refine zn ?_)
       all_goals (refine Q1H ?_; exact .inl ⟨_, rfl, hJ, rfl, (St.back0 hS.sp hi)⟩))
    | (refine Q4 rfl ?_ -- Q1k c0
       all_goals (refine Q0 ?_; refine Q1 ?_)
       all_goals (first | (refine Qv ?_) | (refine QB ?_) | (refine Qn rfl rfl (fun hc => ?_) (fun hc => ?_)))
       all_goals (refine zm ?_; refine zn ?_)
       all_goals
         first
         | (refine Q3 rfl ?_ -- Q1k c1
            all_goals (refine Q0 ?_; refine Q1 ?_; refine zm ?_; refine Q2 rfl ?_; (first | (refine Qe hS rfl fd rfl ?_) | (refine zl hS ?_)); refine zE3 (c := Q5c (s := s) hls hS fd) (p := by rintro v9 w9 ⟨c, g1, rfl, hS⟩; (repeat (first | refine Qw ?_ | refine Qz ?_ | refine fun _ => ?_)); refine QX ?_; refine .inr ⟨_, rfl, ?_⟩; exact ⟨_, by rw [Qhi (by omega), Qt g1], rfl, (St.back0 hS.sp hi)⟩) (h := ?_); rintro v6 w1 ⟨t1, cs1, g1, rfl, hrd1, hS⟩; refine zn ?_; refine Q0 ?_; refine Q1 ?_; refine zm ?_; refine Q2 rfl ?_; refine zv hS ?_; refine zE2 (c := jto_c (s := s) hsf (hy (by omega)) hfb hh hj hT1 hls hS fd) (p := by rintro v9 w9 ⟨c, g2, rfl, hS⟩; (repeat (first | refine Qw ?_ | refine Qz ?_ | refine fun _ => ?_)); refine QX ?_; refine .inr ⟨_, rfl, ?_⟩; exact ⟨_, by rw [Qhi (by omega), Q9 g1, Qt g2], rfl, (St.back0 hS.sp hi)⟩) (h := ?_); rintro v6 w1 ⟨g2, rfl, hS⟩; refine zn ?_; refine Q1 ?_; refine zm ?_; refine Q2 rfl ?_; refine zv hS ?_; refine zE2 (c := jto_c (s := s) hsf (hz (by omega)) hfb hh hj hT2 hls hS fd) (p := by rintro v9 w9 ⟨c, g3, rfl, hS⟩; (repeat (first | refine Qw ?_ | refine Qz ?_ | refine fun _ => ?_)); refine QX ?_; refine .inr ⟨_, rfl, ?_⟩; exact ⟨_, by rw [Qhi (by omega), Q9 g1, Q9 g2]; exact g3, rfl, (St.back0 hS.sp hi)⟩) (h := ?_); rintro v6 w1 ⟨g3, rfl, hS⟩; have hJ : jend j.f s e = .ok () := (by rw [Qhi (by omega), Q9 g1, Q9 g2]; exact g3))
            all_goals (refine zn ?_)
            all_goals (refine Q1H ?_; exact .inl ⟨_, rfl, hJ, rfl, (St.back0 hS.sp hi)⟩))
         | (refine Q4 rfl ?_ -- Q1k c1
            all_goals (refine Q0 ?_; refine Q1 ?_)
            all_goals (refine Qv ?_)
            all_goals (refine zm ?_; refine zn ?_)
            all_goals
              first
              | (refine Q4 rfl ?_ -- Q1k c2
                 all_goals (refine zsk ?_)
                 all_goals (refine Q1H ?_; exact .inl ⟨_, rfl, hJ, rfl, (St.back0 hS.sp hi)⟩))
              | (refine Q3 rfl ?_ -- Q1k c2
                 all_goals (refine Q0 ?_; refine Q1 ?_; refine zm ?_; refine zn ?_; refine Q0 ?_; refine Q0 ?_; refine Q1 ?_; refine zm ?_; refine Qi rfl ?_; refine Q2 rfl ?_; (first | refine Q2 rfl ?_ | refine Q1d rfl ?_); refine Qe hS rfl fd rfl ?_; refine zm ?_; refine zn ?_; refine Qa ?_; have hS := St.nil (T := 3) (es := 1) hS)
                 refine zo [0, 3, 34] (fun A ρ' w' => ∃ (q : Nat) (vo : Value) (co : List (List Value)), Has ρ' A ∧ Has ρ' [(35, .int .i64 q), (4, vo)] ∧ (q ≤ j.f.regs.toNat) ∧ (intR.ls cx co (upTo q)) ∧ ((upTo q).length = q) ∧ (e.op = 3) ∧ St cx w' (sl 3 1 vo co :: blk p3 45 [.int .i64 e.op, .int .i64 e.a, .int .i64 e.yes.block, v1, v2, .int .i64 e.no.block, v3, v4, v5] :: j.res s.h vl css :: L.eraseIdx i)) (fun ρ' _ => (j.f.regs - iv (ρ' 35)).toNat) ?_ ?_
                 · exact ⟨0, _, [], zh, zh, (by omega), by unfold upTo; exact Rep.LR.nil _ _ _, by unfold upTo; rfl, by omega, hS.sp⟩
                 rintro ρ w1 ⟨q, vo, co, hA, hρ, hq, hlo, hlq, ho3, hS⟩; obtain ⟨ρ, rfl⟩ := env2 hA hρ
                 unfold Q3P
                 all_goals (refine Q0 ?_; refine Q1 ?_; refine Qx rfl rfl ?_; refine zn ?_; refine Q0 ?_)
                 refine Qo rfl (fun hc => ?_) (fun hc => ?_)
                 · skip
                   all_goals (refine zsk ?_; refine Q0 ?_; refine Qa ?_; refine Q0 ?_; refine Q1 ?_; refine zm ?_; refine zm ?_; refine zn ?_; refine Q1 ?_; refine zm ?_; refine zm ?_; refine zB1 hS [_] ?_; intro b1 w1 hS; refine za Qeu Qrx hS ?_; intro vp1 w1 css1 hls1 hv1 hS; have hS := hS.ns; refine zm ?_; refine zn ?_; refine Q1 ?_; refine zad ?_; refine zm ?_; refine zn ?_; exact ⟨⟨q + 1, _, _, zh, zh, (by omega), by rw [Qt6]; exact hls1, by rw [Qt6, List.length_append, hlq]; rfl, ho3, hS.sp⟩, Qr (by omega)⟩)
                 · skip
                   all_goals (refine zex ?_; have hq' : q = j.f.regs.toNat := (by omega); rw [hq'] at hlo; obtain ⟨c1, hle2, hS, hk1⟩ := St.freezeL (r := intR) hS hlo rfl (by rw [← hq']; omega); have hls' := hls.up hle2; have h5' := h5.up hle2; have hjr' := hjr.up hle2; refine Q0 ?_; refine zD [(0, none), (1, none), (2, none), (3, none), (4, none), (5, none), (6, none), (7, none), (8, none), (9, some none)] ?_; have hS := hS.drew; refine zm ?_; refine Q2 rfl ?_; (first | (refine Qe hS rfl fd rfl ?_) | (refine zl hS ?_)); refine zm ?_; refine Qi rfl ?_; refine Q2 rfl ?_; (first | refine Q2 rfl ?_ | refine Q1d rfl ?_); refine Qe hS rfl fd rfl ?_; refine zm ?_; refine zE4 (c := QrU (s := s) hsf.2.1.2 hls' h5' hjr' hk1 hS fd) (p := by rintro v9 w9 ⟨c, g1, rfl, hS⟩; (repeat (first | refine Qw ?_ | refine Qz ?_ | refine fun _ => ?_)); refine QX ?_; refine .inr ⟨_, rfl, ?_⟩; exact ⟨_, by rw [Qmj ho3, Qt g1], rfl, St.weak (St.back0 hS.sp hi) hle2⟩) (h := ?_); rintro v6 w1 ⟨har, rfl, hS⟩; refine zn ?_; refine zC [(0, none), (1, none), (2, none), (3, none), (6, none), (7, none), (8, none), (9, none), (10, none), (4, some (some [10])), (5, none), (11, none), (12, some none)] ?_; have hS := hS.drew)
                   all_goals (refine s_cq ?_; refine zm ?_; refine zt ?_; refine s_cq ?_; refine Qi rfl ?_; refine zt ?_; refine s_cq ?_; refine Q2 rfl ?_; refine zt ?_; refine s_cq ?_; refine Qe hS rfl fd rfl ?_; refine zt ?_; refine s_cq ?_; refine zm ?_; refine zt ?_; refine s_cq ?_; refine Qi rfl ?_; refine zt ?_; refine s_cq ?_; refine Q2 rfl ?_; refine zt ?_; refine s_cq ?_; (first | refine Q2 rfl ?_ | refine Q1d rfl ?_); refine zt ?_; refine s_cq ?_; refine Qe hS rfl fd rfl ?_; refine zt ?_; refine QU ?_; refine zR1 (c := Qv5 (h := s.h) hh hS fd) (h := ?_); rintro v1 w1 ⟨c2, hle3, hk2, hS⟩; have hS := St.weak hS hle3; have hS := St.weak hS hle2; have hl2 := hk2.len; refine zt ?_; refine ⟨List.forall_mem_cons.2 ⟨(by (exact QG hS rfl fd rfl)), fun _ h => (List.not_mem_nil h).elim⟩, ?_⟩; refine s_cq ?_; refine zL ?_; refine zt ?_; refine s_cq ?_; refine QgS rfl rfl ?_; refine zt ?_; refine s_cf ?_)
                   all_goals (refine zE2 (c := Q3T hS) (p := by rintro v9 w9 ⟨rfl, hb, hS⟩; (repeat (first | refine Qw ?_ | refine Qz ?_ | refine fun _ => ?_)); refine QX ?_; refine .inr ⟨_, rfl, ?_⟩; exact ⟨_, by rw [Qmj ho3, Q9 har, if_pos (by have := of_decide_eq_true hb; omega)], rfl, (St.back0 hS.sp hi)⟩) (h := ?_); rintro v1 w1 ⟨rfl, hb, hS⟩; have hJ : jend j.f s e = .ok () := (by rw [Qmj ho3, Q9 har, if_neg (by have := of_decide_eq_false hb; omega)]); refine zt ?_; refine zcn ?_)
                   all_goals (refine Q1H ?_; exact .inl ⟨_, rfl, hJ, rfl, (St.back0 hS.sp hi)⟩))))
end Go.Proofs.YtanlkfeogoganaaGreat
namespace Go.Proofs.YtanlkfeogoganaaGreat
open Go.Lir
set_option maxHeartbeats 1000000
attribute [local irreducible] LC.wp Q5 Q11 Q1c retQ Q2b LO.wp QD Calls
set_option linter.unusedSimpArgs false
set_option linter.unusedVariables false
attribute [local irreducible] hasB Q1W Q1o Q1I Q3A upTo
variable {cx : Cx} {w : World} {L : List Res} {j : JP} {h : List Bool} {vl : Value} {css : List (List Value)} {i : Nat} {m : Module}
theorem Qvp {p : Nat} {n : Int} (hS : St cx w (blk p 3 [.int .i64 n] :: L)) : Defs Tryz.prog Q4o [.pointer (some ⟨p, 0, none⟩)] .returning w fun u' w' => u' = .returning ∧ St cx w' (blk p 3 [.int .i64 n] :: L) := by
  unfold Defs
  all_goals refine Q45 ?_
  all_goals (unfold judge_caught_1_ld; refine r_seq ?_; refine r_sp ?_; refine zn ?_; refine zm ?_; refine zn ?_; refine r_pl ?_; refine Q0 ?_; refine Q1 ?_; refine zm ?_; refine s_inil_f (ms := #[]) (by kernel_rfl) rfl ?_; refine zn ?_)
  all_goals refine Q4 rfl ?_
  all_goals (refine zsk ?_; refine q_endR ?_; refine Q1H ?_; exact ⟨⟨_, rfl⟩, rfl, hS.sp⟩)
theorem Qvo {p : Nat} {n e : Int} (hS : St cx w (blk p 3 [.int .i64 n] :: L)) : Defs Tryz.prog Q4o [.pointer (some ⟨p, 0, none⟩)] (.panicking [{ v := Qag e, recovered := false }]) w fun u' w' => u' = .panicking [{ v := Qag e, recovered := true }] ∧ St cx w' (blk p 3 [.int .i64 e] :: L) := by
  unfold Defs
  all_goals refine Q45 ?_
  all_goals (unfold judge_caught_1_ld; refine r_seq ?_; refine r_sp ?_; refine zn ?_; refine zm ?_; refine zn ?_; refine r_pl ?_; refine Q0 ?_; refine Q1 ?_; refine zm ?_; refine s_inil_t (ms := #[]) (by kernel_rfl) rfl ?_; refine zn ?_)
  all_goals refine Q3 rfl ?_
  all_goals (refine Q0 ?_; refine Q1 ?_; refine zm ?_; refine s_assert (D := .int .i64) (by kernel_rfl) (by intro m; exact TypeDesc.noConfusion) rfl ?_; refine zm ?_; refine Q3z rfl rfl ?_; refine Q3z rfl rfl ?_; refine zm ?_; refine zm ?_; refine zn ?_; refine Q0 ?_; refine Q0 ?_; refine Q1 ?_; refine zm ?_; refine Q1O rfl ?_; refine zn ?_)
  all_goals refine Q4 rfl ?_
  all_goals (refine zsk ?_; refine Q1 ?_; refine zm ?_; refine zst hS ?_; intro w1 hS; have hS := hS.ns; refine zn ?_; refine q_endR ?_; refine Q1H ?_; exact ⟨⟨_, rfl⟩, rfl, hS.sp⟩)
theorem Qtt {f : FuncId} {cap : List Value} {X : Cx → List Res → Prop} {Y : Int → Cx → List Res → Prop} (hf : Q4H Tryz.prog f = true)
    (hc : ∀ (p : Nat) (w : World), St cx w (blk p 3 [.int .i64 0] :: L) → Fins Tryz.prog f cap w (fun _ w' => ∃ c' L', cx.Le c' ∧ St c' w' (blk p 3 [.int .i64 0] :: L') ∧ X c' L') (fun u w' => ∃ e c' L', u = Qag e ∧ cx.Le c' ∧ St c' w' (blk p 3 [.int .i64 0] :: L') ∧ Y e c' L')) (hS : St cx w L) :
    Rets Tryz.prog Qep [.func (.func f) #[] ⟨cap⟩] w fun u w' => ∃ e c' L', u = .int .i64 e ∧ cx.Le c' ∧ St c' w' L' ∧ (e = 0 ∧ X c' L' ∨ Y e c' L') := by
  all_goals refine Qhb ?_
  all_goals (unfold judge_caught_ld; refine d_seq ?_; refine d_pl ?_; refine Q1 ?_; refine Qd hS ?_; intro p2 w1 hS; refine zn ?_; refine d_seq ?_; refine d_sp ?_; refine Qus ?_; refine zn ?_; refine ⟨_, _, rfl, ?_⟩; refine zn ?_; refine d_pl ?_; refine Q0 ?_; refine Q1 ?_; refine zm ?_)
  all_goals (refine s_endsv rfl hf rfl (hc _ _ hS) (by rintro v9 w9 ⟨e, c1, L1, rfl, hle, hS, hY⟩; (repeat (first | refine Qw ?_ | refine Qz ?_)); refine q_panD ?_; refine Qps (by intro h; cases h) (by kernel_rfl) (Qvo hS) ?_; rintro u' w' ⟨rfl, hS⟩; refine Qmf ?_; refine Q1V vw (Qmk (by kernel_rfl) (hS.blkAt nth0) rfl) ?_; exact ⟨_, rfl, e, c1, L1, rfl, hle, hS.drop, .inr hY⟩) ?_; rintro v1 w1 ⟨c1, L1, hle, hS, hX⟩)
  all_goals (refine zn ?_; refine Q0 ?_; refine Q1 ?_; refine zst hS ?_; intro w1 hS; have hS := hS.ns; refine zn ?_; refine zr ?_)
  all_goals (refine q_retD ?_; refine Qps (by intro h; cases h) (by kernel_rfl) (Qvp hS) ?_; rintro u1 w1 ⟨rfl, hS⟩; refine Qmf ?_)
  all_goals (refine Q1V vw (Qmk (by kernel_rfl) (hS.blkAt fd) rfl) ?_; exact ⟨_, rfl, 0, c1, L1, rfl, hle, hS.drop, .inl ⟨rfl, hX⟩⟩)
theorem jins1_c {s : JS} {x : Ins} {cs : List Value} {p pa pb : Nat} (hm : m.Short) (hF : QF m.funcs.length x = 0) (hn : s.l.length ≤ 80) (hh : s.h.length ≤ 16) (hj : j.Fits cx m) (hx : insR.at cx cs x) (hls : tyR.ls cx css s.l)
    (hS : St cx w (blk p 3 [.int .i64 0] :: blk pb 57 cs :: blk pa 46 [.pointer (some ⟨j.sp, 0, none⟩)] :: j.res s.h vl css :: L)) :
    Fins Tryz.prog Q4A [.pointer (some ⟨pa, 0, none⟩), .pointer (some ⟨pb, 0, none⟩)] w
      (fun _ w' => ∃ c' L', cx.Le c' ∧ St c' w' (blk p 3 [.int .i64 0] :: L') ∧ ∃ s' vl' css', jins m j.f s x = .ok s' ∧ tyR.ls c' css' s'.l ∧ L' = blk pb 57 cs :: blk pa 46 [.pointer (some ⟨j.sp, 0, none⟩)] :: j.res s'.h vl' css' :: L)
      (fun u w' => ∃ e c' L', u = Qag e ∧ cx.Le c' ∧ St c' w' (blk p 3 [.int .i64 0] :: L') ∧ jins m j.f s x = .error e ∧ c' = cx ∧ L' = blk pb 57 cs :: blk pa 46 [.pointer (some ⟨j.sp, 0, none⟩)] :: j.res s.h vl css :: L) := by
  have hx' := hx
  obtain ⟨vr, va, rfl, hr, ha⟩ := Q1J hx
  unfold Fins
  all_goals refine Q7e ?_
  all_goals (unfold judge_State_Ins_1_lc; refine Q1 ?_; refine zl hS ?_; refine zv hS ?_; refine zE2 (c := jins_c hm hF hn hh hj hx' hls hS fd) (p := by rintro v9 w9 ⟨c, g1, rfl, hS⟩; (repeat (first | refine Qw ?_ | refine Qz ?_ | refine fun _ => ?_)); refine QX ?_; refine .inr ⟨_, rfl, ?_⟩; exact ⟨c, cx, _, rfl, St.refl hS, hS, g1, rfl, rfl⟩) (h := ?_); rintro v1 w1 ⟨rfl, c1, s1, vl4, cs4, hle, hr1, hls4, hS⟩; have hS := hS.ns; refine zn ?_; refine Q1H ?_; exact .inl ⟨_, rfl, c1, _, hle, hS, s1, vl4, cs4, hr1, hls4, rfl⟩)
theorem Qq3 {s : JS} {x : Ins} {cs : List Value} (hm : m.Short) (hn : s.l.length ≤ 80) (hh : s.h.length ≤ 16) (hj : j.Fits cx m) (hx : insR.at cx cs x) (hls : tyR.ls cx css s.l) (hS : St cx w L) (hi : nth L i = some (j.res s.h vl css)) :
    Rets Tryz.prog Q33 [.pointer (some ⟨j.sp, 0, none⟩), .agg ⟨cs⟩] w fun u w' => u = .int .i64 (jIns m j.f s x).1 ∧ ∃ c' vl' css', cx.Le c' ∧ tyR.ls c' css' (jIns m j.f s x).2.l ∧ St c' w' (L.set i (j.res (jIns m j.f s x).2.h vl' css')) := by
  have hS := hS.out hi
  have hx' := hx
  obtain ⟨vr, va, rfl, hr, ha⟩ := Q1J hx
  unfold jIns
  all_goals refine Q9W ?_
  all_goals (unfold judge_State_Ins_lc; refine Q0 ?_; refine Q1 ?_; refine zb hS ?_; intro p2 w1 hS; refine zb hS ?_; intro p3 w1 hS; refine zm ?_; refine zn ?_; refine Q0 ?_; refine Q0 ?_; refine zD [(0, none), (1, none), (2, none), (3, none), (4, none), (5, some none), (6, some none)] ?_; have hS := hS.drew; (first | (refine Qe hS rfl fd rfl ?_) | (refine zl hS ?_)); refine Qi rfl ?_; refine Q2 rfl ?_; refine Qg9 hS rfl fd rfl rfl ?_; (first | (refine Qg9 hS rfl fd rfl rfl ?_) | (refine zv hS ?_)); refine zR2 (c := pins_c (m := m) ⟨_, rfl, hj.m⟩ hx' hS) (h := ?_); rintro v1 w1 ⟨rfl, hS⟩; refine zm ?_; refine zn ?_; refine Q0 ?_; refine Q1 ?_; refine zm ?_)
  all_goals (first | (refine QZ ?_) | (refine Q10 ?_) | (refine Qp rfl rfl (fun hc => ?_) (fun hc => ?_)))
  all_goals (refine zn ?_)
  all_goals
    first
    | (refine Q3 rfl ?_ -- Q33 c0
       all_goals (refine Q0 ?_; refine Q1 ?_; refine zm ?_; refine zm ?_; refine zn ?_; refine zr ?_; refine zf ?_)
       all_goals (exact ⟨_, rfl, by rw [if_pos (by omega)], cx, vl, css, St.refl hS, by rw [if_pos (by omega)]; exact hls, by rw [if_pos (by omega)]; exact (St.back hS.sp hi)⟩))
    | (refine Q4 rfl ?_ -- Q33 c0
       all_goals refine zsk ?_)
  all_goals (refine Q0 ?_; refine Q1 ?_; refine Qus ?_)
  all_goals (refine zR1 (c := Qtt (by kernel_rfl) (fun p w hS => jins1_c (s := s) hm (by omega) hn hh hj hx' hls hS) hS.sp) (h := ?_); rintro v1 w1 ⟨e, c1, L1, rfl, hle, hS, ⟨rfl, s1, vl4, cs4, hr1, hls4, rfl⟩ | ⟨hr1, rfl, rfl⟩⟩)
  all_goals (refine zm ?_; refine zn ?_; refine zr ?_; refine zf ?_; (first | (exact ⟨_, rfl, by rw [if_pos (by omega)], cx, vl, css, St.refl hS, by rw [if_pos (by omega)]; exact hls, by rw [if_pos (by omega)]; exact (St.back hS.sp hi)⟩) | (exact ⟨_, rfl, by rw [if_neg (by omega), hr1], c1, vl4, cs4, hle, by rw [if_neg (by omega), hr1]; exact hls4, by rw [if_neg (by omega), hr1]; exact (St.back hS.sp hi)⟩) | (exact ⟨_, rfl, by rw [if_neg (by omega), hr1], _, vl, css, St.refl hS, by rw [if_neg (by omega), hr1]; exact hls, by rw [if_neg (by omega), hr1]; exact (St.back hS.sp hi)⟩)))
theorem jend1_c {s : JS} {x : Tail} {cs : List Value} {p pa pb : Nat} (hsf : j.f.Short) (hF : Q1K j.f.blocks.length x = 0) (hfb : ∀ b ∈ j.f.blocks, j.f.regs ≤ b.regs) (hfr : j.f.regs ≤ 100000) (hh : s.h.length ≤ 16) (hj : j.Fits cx m) (hx : endR.at cx cs x) (hls : tyR.ls cx css s.l)
    (hS : St cx w (blk p 3 [.int .i64 0] :: blk pb 45 cs :: blk pa 46 [.pointer (some ⟨j.sp, 0, none⟩)] :: j.res s.h vl css :: L)) :
    Fins Tryz.prog Q4B [.pointer (some ⟨pa, 0, none⟩), .pointer (some ⟨pb, 0, none⟩)] w
      (fun _ w' => ∃ c' L', cx.Le c' ∧ St c' w' (blk p 3 [.int .i64 0] :: L') ∧ jend j.f s x = .ok () ∧ c' = cx ∧ L' = blk pb 45 cs :: blk pa 46 [.pointer (some ⟨j.sp, 0, none⟩)] :: j.res s.h vl css :: L)
      (fun u w' => ∃ e c' L', u = Qag e ∧ cx.Le c' ∧ St c' w' (blk p 3 [.int .i64 0] :: L') ∧ jend j.f s x = .error e ∧ c' = cx ∧ L' = blk pb 45 cs :: blk pa 46 [.pointer (some ⟨j.sp, 0, none⟩)] :: j.res s.h vl css :: L) := by
  have hx' := hx
  obtain ⟨u1, u2, u3, u4, u5, rfl, h1, h2, h3, h4, h5⟩ := Q47 hx
  unfold Fins
  all_goals refine Q7g ?_
  all_goals (unfold judge_State_End_1_lc; refine Q1 ?_; refine zl hS ?_; refine zv hS ?_; refine zE2 (c := jend_c hsf hF hfb hfr hh hj hx' hls hS fd) (p := by rintro v9 w9 ⟨c, g1, rfl, hS⟩; (repeat (first | refine Qw ?_ | refine Qz ?_ | refine fun _ => ?_)); refine QX ?_; refine .inr ⟨_, rfl, ?_⟩; exact ⟨c, cx, _, rfl, St.refl hS, hS, g1, rfl, rfl⟩) (h := ?_); rintro v1 w1 ⟨hr1, rfl, hS⟩; refine zn ?_; refine Q1H ?_; exact .inl ⟨_, rfl, cx, _, St.refl hS, hS, hr1, rfl, rfl⟩)
theorem jEnd_c {s : JS} {x : Tail} {cs : List Value} (hsf : j.f.Short) (hfb : ∀ b ∈ j.f.blocks, j.f.regs ≤ b.regs) (hfr : j.f.regs ≤ 100000) (hh : s.h.length ≤ 16) (hj : j.Fits cx m) (hx : endR.at cx cs x) (hls : tyR.ls cx css s.l) (hS : St cx w L) (hi : nth L i = some (j.res s.h vl css)) :
    Rets Tryz.prog Q34 [.pointer (some ⟨j.sp, 0, none⟩), .agg ⟨cs⟩] w fun u w' => u = .int .i64 (jEnd j.f s x) ∧ St cx w' L := by
  have hS := hS.out hi
  have hx' := hx
  obtain ⟨u1, u2, u3, u4, u5, rfl, h1, h2, h3, h4, h5⟩ := Q47 hx
  unfold jEnd
  all_goals refine Qa3 ?_
  all_goals (unfold judge_State_End_lc; refine Q0 ?_; refine Q1 ?_; refine zb hS ?_; intro p2 w1 hS; refine zb hS ?_; intro p3 w1 hS; refine zm ?_; refine zn ?_; refine Q0 ?_; refine Q0 ?_; refine zD [(0, none), (1, none), (2, none), (3, none), (4, none), (5, some none), (6, some none)] ?_; have hS := hS.drew; (first | (refine Qe hS rfl fd rfl ?_) | (refine zl hS ?_)); refine Qi rfl ?_; refine Q2 rfl ?_; refine Qg9 hS rfl fd rfl rfl ?_; (first | (refine Qg9 hS rfl fd rfl rfl ?_) | (refine zv hS ?_)); refine zR2 (c := pend_c (x := j.f) ⟨_, _, _, rfl, hj.p, hj.r, hj.b⟩ hx' hS) (h := ?_); rintro v1 w1 ⟨rfl, hS⟩; refine zm ?_; refine zn ?_; refine Q0 ?_; refine Q1 ?_; refine zm ?_)
  all_goals (first | (refine QZ ?_) | (refine Q10 ?_) | (refine Qp rfl rfl (fun hc => ?_) (fun hc => ?_)))
  all_goals (refine zn ?_)
  all_goals
    first
    | (refine Q3 rfl ?_ -- Q34 c0
       all_goals (refine Q0 ?_; refine Q1 ?_; refine zm ?_; refine zm ?_; refine zn ?_; refine zr ?_; refine zf ?_)
       all_goals (exact ⟨_, rfl, by rw [if_pos (by omega)], (St.back0 hS.sp hi)⟩))
    | (refine Q4 rfl ?_ -- Q34 c0
       all_goals refine zsk ?_)
  all_goals (refine Q0 ?_; refine Q1 ?_; refine Qus ?_)
  all_goals (refine zR1 (c := Qtt (by kernel_rfl) (fun p w hS => jend1_c (s := s) hsf (by omega) hfb hfr hh hj hx' hls hS) hS.sp) (h := ?_); rintro v1 w1 ⟨e, c1, L1, rfl, hle, hS, ⟨rfl, hr1, rfl, rfl⟩ | ⟨hr1, rfl, rfl⟩⟩)
  all_goals (refine zm ?_; refine zn ?_; refine zr ?_; refine zf ?_; (first | (exact ⟨_, rfl, by rw [if_pos (by omega)], (St.back0 hS.sp hi)⟩) | (exact ⟨_, rfl, by rw [if_neg (by omega), hr1], (St.back0 hS.sp hi)⟩)))
end Go.Proofs.YtanlkfeogoganaaGreat
namespace Go.Proofs.YtanlkfeogoganaaGreat
open Go.Lir
set_option maxHeartbeats 1000000
attribute [local irreducible] LC.wp Q5 Q11 Q1c retQ Q2b LO.wp QD Calls
set_option linter.unusedSimpArgs false
set_option linter.unusedVariables false
theorem QuV {x : Module} (hsm : x.Short) {cx : Cx} {w : World} {L : List Res} {cs : List Value} (hx : modR.at cx cs x) (hS : St cx w L) : Rets Tryz.prog Qtq [.agg ⟨cs⟩] w fun u w' => ∃ c' ds, u = .agg ⟨ds⟩ ∧ cx.Le c' ∧ modR.at c' ds x ∧ St c' w' L := by
  obtain ⟨vf, rfl, hf⟩ := Q31 hx
  obtain ⟨l⟩ := x
  have hf : funcR.sl cx vf l := hf
  have hsl : l.length ≤ 100000 := hsm.1
  have hsm : ∀ f ∈ l, f.Short := hsm.2
  have hle := St.refl hS
  all_goals refine Qsm ?_
  all_goals (unfold code_Own_lc; refine Q0 ?_; refine Q1 ?_; refine zb hS ?_; intro p1 w1 hS; refine Qd hS ?_; intro p2 w1 hS; refine zn ?_; refine Q0 ?_; refine Q1 ?_; refine Qd hS ?_; intro p3 w1 hS; refine zn ?_; refine Q0 ?_; refine Q0 ?_; refine Q1 ?_; refine Q2 rfl ?_; refine zl hS ?_; refine zL ?_; refine zm ?_; refine zn ?_; refine Qa ?_)
  refine zo [2, 3, 13, 14] (fun A ρ' w' => ∃ (k0 : Cx) (j : Nat) (u : Value) (css : List (List Value)), Has ρ' A ∧ Has ρ' [(15, .int .i64 j)] ∧ (cx.Le k0) ∧ (j ≤ l.length) ∧ (funcR.ls k0 css (l.take j)) ∧ (oneC u = true) ∧ St k0 w' (sl 53 4 u css :: blk p3 24 [u] :: blk p2 24 [.slice none 0 0] :: blk p1 24 [vf] :: L)) (fun ρ' _ => (l.length - iv (ρ' 15)).toNat) ?_ ?_
  · exact ⟨cx, 0, .slice none 0 0, [], zh, zh, St.refl hS, (by omega), Rep.LR.nil _ _ _, rfl, by have hS := hS.nil (T := 53) (es := 4); exact hS⟩
  rintro ρ w1 ⟨k0, j, u, css, hA, hρ, hle2, hj, hls, hu, hS⟩; obtain ⟨ρ, rfl⟩ := env2 hA hρ; have hL0 := hle2; (try have hle := hle.trans hle2); (try have hf := hf.up hle2)
  unfold QhD
  all_goals (refine Q0 ?_; refine Q1 ?_; refine Qx rfl rfl ?_; refine zn ?_; refine Q0 ?_)
  refine Qo rfl (fun hc => ?_) (fun hc => ?_)
  · skip
    all_goals (refine zsk ?_; refine Q0 ?_; refine Qa ?_; refine Q0 ?_; refine Q1 ?_; refine zi ?_; intro b1 o1 cs1 x1 hat1 hx1 he1; obtain ⟨vp1, vr1, vb1, rfl, hp1, hr1, hb1⟩ := Q1e he1; (first | (refine zv hS ?_) | (refine zvk hS ?_)); refine Qd hS ?_; intro p5 w1 hS; refine zsn hS ?_; intro w1 hS; have hS := hS.ns; refine zn ?_; have hsh := hsm x1 (List.mem_of_getElem? hx1); have hlb := hsh.2.2.1)
    have hJ6 := St.refl hS
    refine zML hS [2, 3, 5, 13, 14, 15] (fun A LL ρ' w' => ∃ (k6 : Cx) (a1 a2 : Option Addr) (n1 n2 p6 : Nat), Has ρ' A ∧ Has ρ' [(6, .pointer (some ⟨p6, 0, none⟩))] ∧ (k0.Le k6) ∧ (tyR.sl k6 (.slice a1 x1.params.length n1) x1.params) ∧ (tyR.sl k6 (.slice a2 x1.results.length n2) x1.results) ∧ St k6 w' (blk p6 53 [.int .i64 x1.regs, .slice a1 x1.params.length n1, .slice a2 x1.results.length n2, .slice none 0 0] :: LL)) ?_ ?_
    · skip
      refine Q7z 4 9 (by kernel_rfl) ?_ ?_
      · skip
        refine Q7z 7 9 (by kernel_rfl) ?_ ?_
        · skip
          all_goals (refine zC [(0, none), (1, none), (2, none), (3, none), (5, none), (6, none), (4, some (some [1, 6])), (7, some (some [1])), (8, none), (9, some (some [1])), (10, some none)] ?_; have hS := hS.drew; refine s_cq ?_; refine Q2 rfl ?_; refine zt ?_; refine s_cq ?_; refine zl hS ?_; refine zt ?_; refine s_cq ?_; refine Q2 rfl ?_; refine zt ?_; refine s_cq ?_; refine zl hS ?_; refine zt ?_; refine s_cq ?_; refine Q2 rfl ?_; refine zt ?_; refine s_cq ?_; refine zl hS ?_; refine zt ?_; refine QU ?_)
          all_goals (refine zR1 (c := Q5I hsh.1.1 hsh.1.2 hp1 hS) (h := ?_); rintro v1 w1 ⟨c1, hle2, hk1, hS⟩; obtain ⟨a1, n1, rfl⟩ := Rep.SR.shape hk1; (try have hle := hle.trans hle2); (try have hL0 := hL0.trans hle2); (try have hJ6 := hJ6.trans hle2); (try have hf := hf.up hle2); (try have hp1 := hp1.up hle2); (try have hr1 := hr1.up hle2); (try have hb1 := hb1.up hle2); (try have he1 := he1.up hle2); (try have hls := hls.up hle2))
          all_goals (refine zt ?_; refine zy ?_; refine QU ?_)
          all_goals (refine zR1 (c := Q5I hsh.2.1.1 hsh.2.1.2 hr1 hS) (h := ?_); rintro v1 w1 ⟨c2, hle2, hk2, hS⟩; obtain ⟨a2, n2, rfl⟩ := Rep.SR.shape hk2; (try have hle := hle.trans hle2); (try have hL0 := hL0.trans hle2); (try have hJ6 := hJ6.trans hle2); (try have hf := hf.up hle2); (try have hk1 := hk1.up hle2); (try have hp1 := hp1.up hle2); (try have hr1 := hr1.up hle2); (try have hb1 := hb1.up hle2); (try have he1 := he1.up hle2); (try have hls := hls.up hle2))
          all_goals (refine zt ?_; refine zy ?_; refine s_cq ?_; refine zb3 [_, _, _, _] ?_; refine zt ?_; refine QU ?_; refine Qd hS ?_; intro p6 w1 hS; refine zt ?_; refine zy ?_; refine s_cf ?_; refine zsn hS ?_; intro w1 hS; have hS := hS.ns; refine zt ?_; refine zcn ?_; exact ⟨_, a1, a2, n1, n2, p6, zh, zh, hJ6, by assumption, by assumption, hS.sp⟩)
        · skip
          all_goals (refine zC [(0, none), (1, none), (2, none), (3, none), (5, none), (6, none), (4, some (some [1, 6])), (9, some (some [1, 6])), (7, some (some [1])), (8, none), (10, some none)] ?_; have hS := hS.drew; refine s_cq ?_; refine Q2 rfl ?_; refine zt ?_; refine s_cq ?_; refine zl hS ?_; refine zt ?_; refine s_cq ?_; refine Q2 rfl ?_; refine zt ?_; refine s_cq ?_; refine zl hS ?_; refine zt ?_; refine s_cq ?_; refine Q2 rfl ?_; refine zt ?_; refine s_cq ?_; refine zl hS ?_; refine zt ?_; refine QU ?_)
          all_goals (refine zR1 (c := Q5I hsh.1.1 hsh.1.2 hp1 hS) (h := ?_); rintro v1 w1 ⟨c1, hle2, hk1, hS⟩; obtain ⟨a1, n1, rfl⟩ := Rep.SR.shape hk1; (try have hle := hle.trans hle2); (try have hL0 := hL0.trans hle2); (try have hJ6 := hJ6.trans hle2); (try have hf := hf.up hle2); (try have hp1 := hp1.up hle2); (try have hr1 := hr1.up hle2); (try have hb1 := hb1.up hle2); (try have he1 := he1.up hle2); (try have hls := hls.up hle2))
          all_goals (refine zt ?_; refine zy ?_; refine QU ?_; refine Qd hS ?_; intro p6 w1 hS; refine zt ?_; refine zy ?_; refine QU ?_)
          all_goals (refine zR1 (c := Q5I hsh.2.1.1 hsh.2.1.2 hr1 hS) (h := ?_); rintro v1 w1 ⟨c2, hle2, hk2, hS⟩; obtain ⟨a2, n2, rfl⟩ := Rep.SR.shape hk2; (try have hle := hle.trans hle2); (try have hL0 := hL0.trans hle2); (try have hJ6 := hJ6.trans hle2); (try have hf := hf.up hle2); (try have hk1 := hk1.up hle2); (try have hp1 := hp1.up hle2); (try have hr1 := hr1.up hle2); (try have hb1 := hb1.up hle2); (try have he1 := he1.up hle2); (try have hls := hls.up hle2))
          all_goals (refine zt ?_; refine zy ?_; refine s_cq ?_; refine zb3 [_, _, _, _] ?_; refine zt ?_; refine s_cf ?_; refine zsn hS ?_; intro w1 hS; have hS := hS.ns; refine zt ?_; refine zcn ?_; exact ⟨_, a1, a2, n1, n2, p6, zh, zh, hJ6, by assumption, by assumption, hS.sp⟩)
      · skip
        all_goals (refine zC [(0, none), (1, none), (2, none), (3, none), (5, none), (6, none), (9, some (some [1, 3, 6])), (4, some (some [1, 6])), (7, some (some [1])), (8, none), (10, some none)] ?_; have hS := hS.drew; refine s_cq ?_; refine Q2 rfl ?_; refine zt ?_; refine s_cq ?_; refine zl hS ?_; refine zt ?_; refine s_cq ?_; refine Q2 rfl ?_; refine zt ?_; refine s_cq ?_; refine zl hS ?_; refine zt ?_; refine s_cq ?_; refine Q2 rfl ?_; refine zt ?_; refine s_cq ?_; refine zl hS ?_; refine zt ?_; refine QU ?_; refine Qd hS ?_; intro p6 w1 hS; refine zt ?_; refine zy ?_; refine QU ?_)
        all_goals (refine zR1 (c := Q5I hsh.1.1 hsh.1.2 hp1 hS) (h := ?_); rintro v1 w1 ⟨c1, hle2, hk1, hS⟩; obtain ⟨a1, n1, rfl⟩ := Rep.SR.shape hk1; (try have hle := hle.trans hle2); (try have hL0 := hL0.trans hle2); (try have hJ6 := hJ6.trans hle2); (try have hf := hf.up hle2); (try have hp1 := hp1.up hle2); (try have hr1 := hr1.up hle2); (try have hb1 := hb1.up hle2); (try have he1 := he1.up hle2); (try have hls := hls.up hle2))
        all_goals (refine zt ?_; refine zy ?_; refine QU ?_)
        all_goals (refine zR1 (c := Q5I hsh.2.1.1 hsh.2.1.2 hr1 hS) (h := ?_); rintro v1 w1 ⟨c2, hle2, hk2, hS⟩; obtain ⟨a2, n2, rfl⟩ := Rep.SR.shape hk2; (try have hle := hle.trans hle2); (try have hL0 := hL0.trans hle2); (try have hJ6 := hJ6.trans hle2); (try have hf := hf.up hle2); (try have hk1 := hk1.up hle2); (try have hp1 := hp1.up hle2); (try have hr1 := hr1.up hle2); (try have hb1 := hb1.up hle2); (try have he1 := he1.up hle2); (try have hls := hls.up hle2))
        all_goals (refine zt ?_; refine zy ?_; refine s_cq ?_; refine zb3 [_, _, _, _] ?_; refine zt ?_; refine s_cf ?_; refine zsn hS ?_; intro w1 hS; have hS := hS.ns; refine zt ?_; refine zcn ?_; exact ⟨_, a1, a2, n1, n2, p6, zh, zh, hJ6, by assumption, by assumption, hS.sp⟩)
    rintro ρ w1 ⟨k6, a1, a2, n1, n2, p6, hA, hρ, hle2, hk1, hk2, hS⟩; obtain ⟨ρ, rfl⟩ := env2 hA hρ; (try have hle := hle.trans hle2); (try have hL0 := hL0.trans hle2); (try have hJ6 := hJ6.trans hle2); (try have hf := hf.up hle2); (try have hp1 := hp1.up hle2); (try have hr1 := hr1.up hle2); (try have hb1 := hb1.up hle2); (try have he1 := he1.up hle2); (try have hls := hls.up hle2)
    all_goals (refine Q0 ?_; refine Q0 ?_; refine Q1 ?_; refine Q2 rfl ?_; refine zl hS ?_; refine zL ?_; refine zm ?_; refine zn ?_; refine Qa ?_)
    refine zo [2, 3, 6, 13, 14, 15, 29, 30] (fun A ρ' w' => ∃ (k1 : Cx) (i : Nat) (ub : Value) (cssB : List (List Value)), Has ρ' A ∧ Has ρ' [(31, .int .i64 i)] ∧ (k6.Le k1) ∧ (i ≤ x1.blocks.length) ∧ (blockR.ls k1 cssB (x1.blocks.take i)) ∧ (oneC ub = true) ∧ St k1 w' (sl 79 12 ub cssB :: blk p6 53 [.int .i64 x1.regs, .slice a1 x1.params.length n1, .slice a2 x1.results.length n2, ub] :: blk p5 53 [.int .i64 x1.regs, vp1, vr1, vb1] :: sl 53 4 u css :: blk p3 24 [u] :: blk p2 24 [.slice none 0 0] :: blk p1 24 [vf] :: L)) (fun ρ' _ => (x1.blocks.length - iv (ρ' 31)).toNat) ?_ ?_
    · exact ⟨k6, 0, .slice none 0 0, [], zh, zh, St.refl hS, (by omega), Rep.LR.nil _ _ _, rfl, by have hS := hS.nil (T := 79) (es := 12); exact hS.sp⟩
    rintro ρ w1 ⟨k1, i, ub, cssB, hA, hρ, hle2, hi, hlsB, hub, hS⟩; obtain ⟨ρ, rfl⟩ := env2 hA hρ; have hL1 := hle2; (try have hle := hle.trans hle2); (try have hL0 := hL0.trans hle2); (try have hJ6 := hJ6.trans hle2); (try have hf := hf.up hle2); (try have hk1 := hk1.up hle2); (try have hk2 := hk2.up hle2); (try have hp1 := hp1.up hle2); (try have hr1 := hr1.up hle2); (try have hb1 := hb1.up hle2); (try have he1 := he1.up hle2); (try have hls := hls.up hle2)
    unfold QhC
    all_goals (refine Q0 ?_; refine Q1 ?_; refine Qx rfl rfl ?_; refine zn ?_; refine Q0 ?_)
    refine Qo rfl (fun hc => ?_) (fun hc => ?_)
    · skip
      all_goals (refine zsk ?_; refine Q0 ?_; refine Qa ?_; refine Q0 ?_; refine Q1 ?_; refine zi ?_; intro b2 o2 cs2 x2 hat2 hx2 he2; obtain ⟨vp2, vc2, ve21, ve22, ve23, ve24, ve25, rfl, hp2, hc2, he21, he22, he23, he24, he25⟩ := Q2N he2; (first | (refine zv hS ?_) | (refine zvk hS ?_)); refine Qd hS ?_; intro p8 w1 hS; refine zsn hS ?_; intro w1 hS; have hS := hS.ns; refine zn ?_; have hsb := hsh.2.2.2 x2 (List.mem_of_getElem? hx2); have hlc := hsb.2.1)
      have hJ10 := St.refl hS
      refine zML hS [2, 3, 6, 8, 13, 14, 15, 29, 30, 31] (fun A LL ρ' w' => ∃ (k10 : Cx) (a3 : Option Addr) (n3 p9 : Nat), Has ρ' A ∧ Has ρ' [(9, .pointer (some ⟨p9, 0, none⟩))] ∧ (k1.Le k10) ∧ (tyR.sl k10 (.slice a3 x2.params.length n3) x2.params) ∧ St k10 w' (blk p9 79 [.int .i64 x2.regs, .slice a3 x2.params.length n3, .slice none 0 0, .int .i64 x2.fin.op, .int .i64 x2.fin.a, .int .i64 x2.fin.yes.block, ve21, ve22, .int .i64 x2.fin.no.block, ve23, ve24, ve25] :: LL)) ?_ ?_
      · skip
        all_goals (obtain ⟨q1, m1, rfl⟩ := Rep.SR.shape he21; obtain ⟨q2, m2, rfl⟩ := Rep.SR.shape he22; obtain ⟨q3, m3, rfl⟩ := Rep.SR.shape he23; obtain ⟨q4, m4, rfl⟩ := Rep.SR.shape he24; obtain ⟨q5, m5, rfl⟩ := Rep.SR.shape he25)
        refine Q7z 4 8 (by kernel_rfl) ?_ ?_
        · skip
          all_goals (refine zC [(0, none), (1, none), (2, none), (3, none), (5, none), (6, none), (4, some (some [1, 6])), (7, none), (8, some (some [1, 6])), (9, some none)] ?_; have hS := hS.drew; refine s_cq ?_; refine Q2 rfl ?_; refine zt ?_; refine s_cq ?_; refine zl hS ?_; refine zt ?_; refine s_cq ?_; refine Q2 rfl ?_; refine zt ?_; refine s_cq ?_; refine zl hS ?_; refine zt ?_; refine s_cq ?_; refine Q2 rfl ?_; refine zt ?_; refine s_cq ?_; refine zv hS ?_; refine zt ?_; refine QU ?_)
          all_goals (refine zR1 (c := Q5I hsb.1.1 hsb.1.2 hp2 hS) (h := ?_); rintro v1 w1 ⟨c3, hle2, hk3, hS⟩; obtain ⟨a3, n3, rfl⟩ := Rep.SR.shape hk3; (try have hle := hle.trans hle2); (try have hL0 := hL0.trans hle2); (try have hL1 := hL1.trans hle2); (try have hJ6 := hJ6.trans hle2); (try have hJ10 := hJ10.trans hle2); (try have hf := hf.up hle2); (try have hk1 := hk1.up hle2); (try have hk2 := hk2.up hle2); (try have hp1 := hp1.up hle2); (try have hr1 := hr1.up hle2); (try have hb1 := hb1.up hle2); (try have hp2 := hp2.up hle2); (try have hc2 := hc2.up hle2); (try have he21 := he21.up hle2); (try have he22 := he22.up hle2); (try have he23 := he23.up hle2); (try have he24 := he24.up hle2); (try have he25 := he25.up hle2); (try have he1 := he1.up hle2); (try have he2 := he2.up hle2); (try have hls := hls.up hle2); (try have hlsB := hlsB.up hle2))
          all_goals (refine zt ?_; refine zy ?_; refine s_cq ?_; refine zb3 [_, _, _, _, _, _, _, _, _, _, _, _] ?_; refine zt ?_; refine QU ?_; refine Qd hS ?_; intro p9 w1 hS; refine zt ?_; refine zy ?_; refine s_cf ?_; refine zsn hS ?_; intro w1 hS; have hS := hS.ns; refine zt ?_; refine zcn ?_; exact ⟨_, a3, n3, p9, zh, zh, hJ10, by assumption, hS.sp⟩)
        · skip
          all_goals (refine zC [(0, none), (1, none), (2, none), (3, none), (5, none), (6, none), (8, some (some [1, 3, 6])), (4, some (some [1, 6])), (7, none), (9, some none)] ?_; have hS := hS.drew; refine s_cq ?_; refine Q2 rfl ?_; refine zt ?_; refine s_cq ?_; refine zl hS ?_; refine zt ?_; refine s_cq ?_; refine Q2 rfl ?_; refine zt ?_; refine s_cq ?_; refine zl hS ?_; refine zt ?_; refine s_cq ?_; refine Q2 rfl ?_; refine zt ?_; refine s_cq ?_; refine zv hS ?_; refine zt ?_; refine QU ?_; refine Qd hS ?_; intro p9 w1 hS; refine zt ?_; refine zy ?_; refine QU ?_)
          all_goals (refine zR1 (c := Q5I hsb.1.1 hsb.1.2 hp2 hS) (h := ?_); rintro v1 w1 ⟨c3, hle2, hk3, hS⟩; obtain ⟨a3, n3, rfl⟩ := Rep.SR.shape hk3; (try have hle := hle.trans hle2); (try have hL0 := hL0.trans hle2); (try have hL1 := hL1.trans hle2); (try have hJ6 := hJ6.trans hle2); (try have hJ10 := hJ10.trans hle2); (try have hf := hf.up hle2); (try have hk1 := hk1.up hle2); (try have hk2 := hk2.up hle2); (try have hp1 := hp1.up hle2); (try have hr1 := hr1.up hle2); (try have hb1 := hb1.up hle2); (try have hp2 := hp2.up hle2); (try have hc2 := hc2.up hle2); (try have he21 := he21.up hle2); (try have he22 := he22.up hle2); (try have he23 := he23.up hle2); (try have he24 := he24.up hle2); (try have he25 := he25.up hle2); (try have he1 := he1.up hle2); (try have he2 := he2.up hle2); (try have hls := hls.up hle2); (try have hlsB := hlsB.up hle2))
          all_goals (refine zt ?_; refine zy ?_; refine s_cq ?_; refine zb3 [_, _, _, _, _, _, _, _, _, _, _, _] ?_; refine zt ?_; refine s_cf ?_; refine zsn hS ?_; intro w1 hS; have hS := hS.ns; refine zt ?_; refine zcn ?_; exact ⟨_, a3, n3, p9, zh, zh, hJ10, by assumption, hS.sp⟩)
      rintro ρ w1 ⟨k10, a3, n3, p9, hA, hρ, hle2, hk3, hS⟩; obtain ⟨ρ, rfl⟩ := env2 hA hρ; (try have hle := hle.trans hle2); (try have hL0 := hL0.trans hle2); (try have hL1 := hL1.trans hle2); (try have hJ6 := hJ6.trans hle2); (try have hJ10 := hJ10.trans hle2); (try have hf := hf.up hle2); (try have hk1 := hk1.up hle2); (try have hk2 := hk2.up hle2); (try have hp1 := hp1.up hle2); (try have hr1 := hr1.up hle2); (try have hb1 := hb1.up hle2); (try have hp2 := hp2.up hle2); (try have hc2 := hc2.up hle2); (try have he21 := he21.up hle2); (try have he22 := he22.up hle2); (try have he23 := he23.up hle2); (try have he24 := he24.up hle2); (try have he25 := he25.up hle2); (try have he1 := he1.up hle2); (try have he2 := he2.up hle2); (try have hls := hls.up hle2); (try have hlsB := hlsB.up hle2)
      all_goals (refine Q0 ?_; refine zC [(0, none), (1, none), (2, none), (4, none), (5, none), (6, none), (8, none), (9, none), (10, none), (3, some (some [6, 10])), (12, none), (13, none), (7, some (some [10])), (11, some (some [])), (14, some none), (15, none), (16, none), (17, some none), (18, none), (19, none), (20, some none)] ?_; have hS := hS.drew; refine s_cq ?_; refine Q2 rfl ?_; refine zt ?_; refine s_cq ?_; (first | refine Q2 rfl ?_ | refine Q1d rfl ?_); refine zt ?_; refine s_cq ?_; refine zv hS ?_; refine zt ?_; refine s_cq ?_; refine Q2 rfl ?_; refine zt ?_; refine s_cq ?_; (first | refine Q2 rfl ?_ | refine Q1d rfl ?_); refine zt ?_; refine s_cq ?_; refine zv hS ?_; refine zt ?_; refine s_cq ?_; refine Q2 rfl ?_; refine zt ?_; refine s_cq ?_; (first | refine Q2 rfl ?_ | refine Q1d rfl ?_); refine zt ?_; refine s_cq ?_; refine zl hS ?_; refine zt ?_; refine QU ?_)
      all_goals (refine zR1 (c := Qte (x := x2.fin.yes) (by have := hsb.2.2.2.1.1; omega) (by have := hsb.2.2.2.1.2; omega) ⟨_, _, rfl, he21, he22⟩ hS) (h := ?_); rintro v1 w1 ⟨c7, ds, rfl, hle2, hk7, hS⟩; obtain ⟨y1, y2, rfl, hy1, hy2⟩ := Q7x hk7; obtain ⟨a7, n7, rfl⟩ := Rep.SR.shape hy1; obtain ⟨a8, n8, rfl⟩ := Rep.SR.shape hy2; (try have hle := hle.trans hle2); (try have hL0 := hL0.trans hle2); (try have hL1 := hL1.trans hle2); (try have hJ6 := hJ6.trans hle2); (try have hJ10 := hJ10.trans hle2); (try have hf := hf.up hle2); (try have hk1 := hk1.up hle2); (try have hk2 := hk2.up hle2); (try have hk3 := hk3.up hle2); (try have hp1 := hp1.up hle2); (try have hr1 := hr1.up hle2); (try have hb1 := hb1.up hle2); (try have hp2 := hp2.up hle2); (try have hc2 := hc2.up hle2); (try have he21 := he21.up hle2); (try have he22 := he22.up hle2); (try have he23 := he23.up hle2); (try have he24 := he24.up hle2); (try have he25 := he25.up hle2); (try have he1 := he1.up hle2); (try have he2 := he2.up hle2); (try have hls := hls.up hle2); (try have hlsB := hlsB.up hle2))
      all_goals (refine zt ?_; refine zy ?_; refine s_cq ?_; refine Q2 rfl ?_; refine zt ?_; refine s_cq ?_; (first | refine Q2 rfl ?_ | refine Q1d rfl ?_); refine zt ?_; refine QU ?_)
      all_goals (refine zR1 (c := Qte (x := x2.fin.no) (by have := hsb.2.2.2.2.1.1; omega) (by have := hsb.2.2.2.2.1.2; omega) ⟨_, _, rfl, he23, he24⟩ hS) (h := ?_); rintro v1 w1 ⟨c8, ds, rfl, hle2, hk8, hS⟩; obtain ⟨z1, z2, rfl, hz1, hz2⟩ := Q7x hk8; obtain ⟨a9, n9, rfl⟩ := Rep.SR.shape hz1; obtain ⟨a10, n10, rfl⟩ := Rep.SR.shape hz2; (try have hle := hle.trans hle2); (try have hL0 := hL0.trans hle2); (try have hL1 := hL1.trans hle2); (try have hJ6 := hJ6.trans hle2); (try have hJ10 := hJ10.trans hle2); (try have hf := hf.up hle2); (try have hk1 := hk1.up hle2); (try have hk2 := hk2.up hle2); (try have hk3 := hk3.up hle2); (try have hk7 := hk7.up hle2); (try have hp1 := hp1.up hle2); (try have hr1 := hr1.up hle2); (try have hb1 := hb1.up hle2); (try have hp2 := hp2.up hle2); (try have hc2 := hc2.up hle2); (try have he21 := he21.up hle2); (try have he22 := he22.up hle2); (try have he23 := he23.up hle2); (try have he24 := he24.up hle2); (try have he25 := he25.up hle2); (try have he1 := he1.up hle2); (try have he2 := he2.up hle2); (try have hls := hls.up hle2); (try have hy1 := hy1.up hle2); (try have hy2 := hy2.up hle2); (try have hlsB := hlsB.up hle2))
      all_goals (refine zt ?_; refine zy ?_; refine QU ?_)
      all_goals (refine zR1 (c := Q9g (by have := hsb.2.2.2.2.2; omega) he25 hS) (h := ?_); rintro v1 w1 ⟨c9, hle2, hw1, hS⟩; obtain ⟨a11, n11, rfl⟩ := Rep.SR.shape hw1; (try have hle := hle.trans hle2); (try have hL0 := hL0.trans hle2); (try have hL1 := hL1.trans hle2); (try have hJ6 := hJ6.trans hle2); (try have hJ10 := hJ10.trans hle2); (try have hf := hf.up hle2); (try have hk1 := hk1.up hle2); (try have hk2 := hk2.up hle2); (try have hk3 := hk3.up hle2); (try have hk7 := hk7.up hle2); (try have hk8 := hk8.up hle2); (try have hp1 := hp1.up hle2); (try have hr1 := hr1.up hle2); (try have hb1 := hb1.up hle2); (try have hp2 := hp2.up hle2); (try have hc2 := hc2.up hle2); (try have he21 := he21.up hle2); (try have he22 := he22.up hle2); (try have he23 := he23.up hle2); (try have he24 := he24.up hle2); (try have he25 := he25.up hle2); (try have he1 := he1.up hle2); (try have he2 := he2.up hle2); (try have hls := hls.up hle2); (try have hy1 := hy1.up hle2); (try have hy2 := hy2.up hle2); (try have hz1 := hz1.up hle2); (try have hz2 := hz2.up hle2); (try have hlsB := hlsB.up hle2))
      all_goals (refine zt ?_; refine zy ?_; refine s_cf ?_; (first | (refine zsn hS ?_; intro w1 hS; have hS := hS.ns) | (refine zsm hS ?_; intro w1 hS; have hS := hS.ns)); refine zt ?_; refine s_cq ?_; refine Q2 rfl ?_; refine zt ?_; refine s_cq ?_; (first | refine Q2 rfl ?_ | refine Q1d rfl ?_); refine zt ?_; refine s_cf ?_; (first | (refine zsn hS ?_; intro w1 hS; have hS := hS.ns) | (refine zsm hS ?_; intro w1 hS; have hS := hS.ns)); refine zt ?_; refine s_cq ?_; refine Q2 rfl ?_; refine zt ?_; refine s_cq ?_; (first | refine Q2 rfl ?_ | refine Q1d rfl ?_); refine zt ?_; refine s_cf ?_; refine zst hS ?_; intro w1 hS; have hS := hS.ns; refine zt ?_; refine zcn ?_; refine Q0 ?_; refine Q0 ?_; refine Q1 ?_; refine Q2 rfl ?_; refine zl hS ?_; refine zL ?_; refine zm ?_; refine zn ?_; refine Qa ?_)
      refine zo [2, 3, 6, 9, 13, 14, 15, 29, 30, 31, 62, 63] (fun A ρ' w' => ∃ (k2 : Cx) (k : Nat) (uc : Value) (cssC : List (List Value)), Has ρ' A ∧ Has ρ' [(64, .int .i64 k)] ∧ (c9.Le k2) ∧ (k ≤ x2.code.length) ∧ (insR.ls k2 cssC (x2.code.take k)) ∧ (oneC uc = true) ∧ St k2 w' (sl 57 8 uc cssC :: blk p9 79 [.int .i64 x2.regs, .slice a3 x2.params.length n3, uc, .int .i64 x2.fin.op, .int .i64 x2.fin.a, .int .i64 x2.fin.yes.block, .slice a7 x2.fin.yes.regs.length n7, .slice a8 x2.fin.yes.args.length n8, .int .i64 x2.fin.no.block, .slice a9 x2.fin.no.regs.length n9, .slice a10 x2.fin.no.args.length n10, .slice a11 x2.fin.args.length n11] :: blk p8 79 [.int .i64 x2.regs, vp2, vc2, .int .i64 x2.fin.op, .int .i64 x2.fin.a, .int .i64 x2.fin.yes.block, ve21, ve22, .int .i64 x2.fin.no.block, ve23, ve24, ve25] :: sl 79 12 ub cssB :: blk p6 53 [.int .i64 x1.regs, .slice a1 x1.params.length n1, .slice a2 x1.results.length n2, ub] :: blk p5 53 [.int .i64 x1.regs, vp1, vr1, vb1] :: sl 53 4 u css :: blk p3 24 [u] :: blk p2 24 [.slice none 0 0] :: blk p1 24 [vf] :: L)) (fun ρ' _ => (x2.code.length - iv (ρ' 64)).toNat) ?_ ?_
      · exact ⟨c9, 0, .slice none 0 0, [], zh, zh, St.refl hS, (by omega), Rep.LR.nil _ _ _, rfl, by have hS := hS.nil (T := 57) (es := 8); exact hS.sp⟩
      rintro ρ w1 ⟨k2, k, uc, cssC, hA, hρ, hle2, hkk, hlsC, huc, hS⟩; obtain ⟨ρ, rfl⟩ := env2 hA hρ; have hL2 := hle2; (try have hle := hle.trans hle2); (try have hL0 := hL0.trans hle2); (try have hL1 := hL1.trans hle2); (try have hJ6 := hJ6.trans hle2); (try have hJ10 := hJ10.trans hle2); (try have hf := hf.up hle2); (try have hk1 := hk1.up hle2); (try have hk2 := hk2.up hle2); (try have hk3 := hk3.up hle2); (try have hk7 := hk7.up hle2); (try have hk8 := hk8.up hle2); (try have hp1 := hp1.up hle2); (try have hr1 := hr1.up hle2); (try have hb1 := hb1.up hle2); (try have hp2 := hp2.up hle2); (try have hc2 := hc2.up hle2); (try have he21 := he21.up hle2); (try have he22 := he22.up hle2); (try have he23 := he23.up hle2); (try have he24 := he24.up hle2); (try have he25 := he25.up hle2); (try have he1 := he1.up hle2); (try have he2 := he2.up hle2); (try have hls := hls.up hle2); (try have hy1 := hy1.up hle2); (try have hy2 := hy2.up hle2); (try have hz1 := hz1.up hle2); (try have hz2 := hz2.up hle2); (try have hw1 := hw1.up hle2); (try have hlsB := hlsB.up hle2)
      unfold Qev
      all_goals (refine Q0 ?_; refine Q1 ?_; refine Qx rfl rfl ?_; refine zn ?_; refine Q0 ?_)
      refine Qo rfl (fun hc => ?_) (fun hc => ?_)
      · skip
        all_goals (refine zsk ?_; refine Q0 ?_; refine Qa ?_; refine Q0 ?_; refine Q1 ?_; refine zi ?_; intro b3 o3 cs3 x3 hat3 hx3 he3; obtain ⟨vr3, va3, rfl, hr3, ha3⟩ := Q1J he3; (first | (refine zv hS ?_) | (refine zvk hS ?_)); refine Qd hS ?_; intro p11 w1 hS; refine zsn hS ?_; intro w1 hS; have hS := hS.ns; refine zn ?_; refine Q0 ?_; have hsi := hsb.2.2.1 x3 (List.mem_of_getElem? hx3); refine zC [(0, none), (1, none), (3, none), (4, none), (2, some (some [4])), (6, none), (5, some (some [])), (7, some none), (8, none), (9, some none)] ?_; have hS := hS.drew; refine s_cq ?_; refine Q2 rfl ?_; refine zt ?_; refine s_cq ?_; refine zl hS ?_; refine zt ?_; refine s_cq ?_; refine Q2 rfl ?_; refine zt ?_; refine s_cq ?_; refine zl hS ?_; refine zt ?_; refine QU ?_)
        all_goals (refine zR1 (c := Q9g (by have := hsi.1; omega) hr3 hS) (h := ?_); rintro v1 w1 ⟨c4, hle2, hk4, hS⟩; obtain ⟨a4, n4, rfl⟩ := Rep.SR.shape hk4; (try have hle := hle.trans hle2); (try have hL0 := hL0.trans hle2); (try have hL1 := hL1.trans hle2); (try have hL2 := hL2.trans hle2); (try have hJ6 := hJ6.trans hle2); (try have hJ10 := hJ10.trans hle2); (try have hf := hf.up hle2); (try have hk1 := hk1.up hle2); (try have hk2 := hk2.up hle2); (try have hk3 := hk3.up hle2); (try have hk7 := hk7.up hle2); (try have hk8 := hk8.up hle2); (try have hp1 := hp1.up hle2); (try have hr1 := hr1.up hle2); (try have hb1 := hb1.up hle2); (try have hp2 := hp2.up hle2); (try have hc2 := hc2.up hle2); (try have he21 := he21.up hle2); (try have he22 := he22.up hle2); (try have he23 := he23.up hle2); (try have he24 := he24.up hle2); (try have he25 := he25.up hle2); (try have hr3 := hr3.up hle2); (try have ha3 := ha3.up hle2); (try have he1 := he1.up hle2); (try have he2 := he2.up hle2); (try have he3 := he3.up hle2); (try have hls := hls.up hle2); (try have hy1 := hy1.up hle2); (try have hy2 := hy2.up hle2); (try have hz1 := hz1.up hle2); (try have hz2 := hz2.up hle2); (try have hw1 := hw1.up hle2); (try have hlsB := hlsB.up hle2); (try have hlsC := hlsC.up hle2))
        all_goals (refine zt ?_; refine zy ?_; refine s_cq ?_; refine Q2 rfl ?_; refine zt ?_; refine QU ?_)
        all_goals (refine zR1 (c := Q9g (by have := hsi.2; omega) ha3 hS) (h := ?_); rintro v1 w1 ⟨c5, hle2, hk5, hS⟩; obtain ⟨a5, n5, rfl⟩ := Rep.SR.shape hk5; (try have hle := hle.trans hle2); (try have hL0 := hL0.trans hle2); (try have hL1 := hL1.trans hle2); (try have hL2 := hL2.trans hle2); (try have hJ6 := hJ6.trans hle2); (try have hJ10 := hJ10.trans hle2); (try have hf := hf.up hle2); (try have hk1 := hk1.up hle2); (try have hk2 := hk2.up hle2); (try have hk3 := hk3.up hle2); (try have hk4 := hk4.up hle2); (try have hk7 := hk7.up hle2); (try have hk8 := hk8.up hle2); (try have hp1 := hp1.up hle2); (try have hr1 := hr1.up hle2); (try have hb1 := hb1.up hle2); (try have hp2 := hp2.up hle2); (try have hc2 := hc2.up hle2); (try have he21 := he21.up hle2); (try have he22 := he22.up hle2); (try have he23 := he23.up hle2); (try have he24 := he24.up hle2); (try have he25 := he25.up hle2); (try have hr3 := hr3.up hle2); (try have ha3 := ha3.up hle2); (try have he1 := he1.up hle2); (try have he2 := he2.up hle2); (try have he3 := he3.up hle2); (try have hls := hls.up hle2); (try have hy1 := hy1.up hle2); (try have hy2 := hy2.up hle2); (try have hz1 := hz1.up hle2); (try have hz2 := hz2.up hle2); (try have hw1 := hw1.up hle2); (try have hlsB := hlsB.up hle2); (try have hlsC := hlsC.up hle2))
        all_goals (refine zt ?_; refine zy ?_; refine s_cf ?_; refine zst hS ?_; intro w1 hS; have hS := hS.ns; refine zt ?_; refine s_cq ?_; refine Q2 rfl ?_; refine zt ?_; refine s_cf ?_; refine zst hS ?_; intro w1 hS; have hS := hS.ns; refine zt ?_; refine zcn ?_; have hk9 : insR.at c5 _ x3 := ⟨_, _, rfl, hk4, hk5⟩; refine Q1 ?_; refine Q2 rfl ?_; refine zl hS ?_; refine zv hS ?_; refine zB1 hS [_, _, _, _, _, _, _, _] ?_; intro b1 w1 hS; refine za el_T40 u_T40 hS ?_; intro vp1 w1 css1 hls1 hv1 hS; have hS := hS.ns; refine Q2 rfl ?_; refine zst hS ?_; intro w1 hS; have hS := hS.ns; refine zn ?_; refine Q1 ?_; refine zad ?_; refine zm ?_; refine zn ?_; exact ⟨⟨_, k + 1, _, _, zh, zh, hL2, (by omega), by rw [Q1E hx3]; assumption, by assumption, hS.sp⟩, Qr (by omega)⟩)
      · skip
        all_goals (refine zex ?_)
        all_goals (obtain ⟨c6, hle2, hS, hk6⟩ := St.freezeL (r := insR) (l := x2.code) hS (by rw [List.take_of_length_le (by omega)] at hlsC; exact hlsC) rfl (by have := hsb.2.1; omega); obtain ⟨a6, n6, rfl⟩ := Rep.SR.shape hk6; (try have hle := hle.trans hle2); (try have hL0 := hL0.trans hle2); (try have hL1 := hL1.trans hle2); (try have hL2 := hL2.trans hle2); (try have hJ6 := hJ6.trans hle2); (try have hJ10 := hJ10.trans hle2); (try have hf := hf.up hle2); (try have hk1 := hk1.up hle2); (try have hk2 := hk2.up hle2); (try have hk3 := hk3.up hle2); (try have hk7 := hk7.up hle2); (try have hk8 := hk8.up hle2); (try have hp1 := hp1.up hle2); (try have hr1 := hr1.up hle2); (try have hb1 := hb1.up hle2); (try have hp2 := hp2.up hle2); (try have hc2 := hc2.up hle2); (try have he21 := he21.up hle2); (try have he22 := he22.up hle2); (try have he23 := he23.up hle2); (try have he24 := he24.up hle2); (try have he25 := he25.up hle2); (try have he1 := he1.up hle2); (try have he2 := he2.up hle2); (try have hls := hls.up hle2); (try have hy1 := hy1.up hle2); (try have hy2 := hy2.up hle2); (try have hz1 := hz1.up hle2); (try have hz2 := hz2.up hle2); (try have hw1 := hw1.up hle2); (try have hlsB := hlsB.up hle2); (try have hlsC := hlsC.up hle2))
        all_goals (have hk9 : blockR.at c6 _ x2 := Qqx (x := x2) hk3 hk6 hy1 hy2 hz1 hz2 hw1; refine Q1 ?_; refine Q2 rfl ?_; refine zl hS ?_; refine zv hS ?_; refine zB1 hS [_, _, _, _, _, _, _, _, _, _, _, _] ?_; intro b1 w1 hS; refine za el_T51 u_T51 hS ?_; intro vp2 w2 css2 hls2 hv2 hS; have hS := hS.ns; refine Q2 rfl ?_; refine zst hS ?_; intro w1 hS; have hS := hS.ns; refine zn ?_; refine Q1 ?_; refine zad ?_; refine zm ?_; refine zn ?_; exact ⟨⟨_, i + 1, _, _, zh, zh, hL1, (by omega), by rw [Q1E hx2]; assumption, by assumption, hS.sp⟩, Qr (by omega)⟩)
    · skip
      all_goals (refine zex ?_)
      all_goals (obtain ⟨c10, hle2, hS, hk6⟩ := St.freezeL (r := blockR) (l := x1.blocks) hS (by rw [List.take_of_length_le (by omega)] at hlsB; exact hlsB) rfl (by have := hsh.2.2.1; omega); obtain ⟨a6, n6, rfl⟩ := Rep.SR.shape hk6; (try have hle := hle.trans hle2); (try have hL0 := hL0.trans hle2); (try have hL1 := hL1.trans hle2); (try have hJ6 := hJ6.trans hle2); (try have hf := hf.up hle2); (try have hk1 := hk1.up hle2); (try have hk2 := hk2.up hle2); (try have hp1 := hp1.up hle2); (try have hr1 := hr1.up hle2); (try have hb1 := hb1.up hle2); (try have he1 := he1.up hle2); (try have hls := hls.up hle2); (try have hlsB := hlsB.up hle2))
      all_goals (have hk9 : funcR.at c10 _ x1 := ⟨_, _, _, rfl, hk1, hk2, hk6⟩; refine Q1 ?_; refine Q2 rfl ?_; refine zl hS ?_; refine zv hS ?_; refine zB1 hS [_, _, _, _] ?_; intro b1 w1 hS; refine za el_T22 u_T22 hS ?_; intro vp3 w3 css3 hls3 hv3 hS; have hS := hS.ns; refine Q2 rfl ?_; refine zst hS ?_; intro w1 hS; have hS := hS.ns; refine zn ?_; refine Q1 ?_; refine zad ?_; refine zm ?_; refine zn ?_; exact ⟨⟨_, j + 1, _, _, zh, zh, hL0, (by omega), by rw [Q1E hx1]; assumption, by assumption, hS.sp⟩, Qr (by omega)⟩)
  · skip
    all_goals (refine zex ?_)
    all_goals (obtain ⟨c11, hle2, hS, hk6⟩ := St.freezeL (r := funcR) (l := l) hS (by rw [List.take_of_length_le (by omega)] at hls; exact hls) rfl (by omega); obtain ⟨a6, n6, rfl⟩ := Rep.SR.shape hk6; (try have hle := hle.trans hle2); (try have hL0 := hL0.trans hle2); (try have hf := hf.up hle2); (try have hls := hls.up hle2))
    all_goals (refine Q0 ?_; refine Q1 ?_; refine zv hS ?_; refine zsn hS ?_; intro w1 hS; have hS := hS.ns; refine zn ?_; refine zr ?_; refine Q1V vw (Qj (n := 1) (by kernel_rfl) (by kernel_rfl) (hS.blkAt fd) (by rfl) (by rfl)) ?_; exact ⟨_, rfl, c11, _, rfl, hle, ⟨_, rfl, hk6⟩, hS.sp⟩)
end Go.Proofs.YtanlkfeogoganaaGreat
namespace Go.Proofs.YtanlkfeogoganaaGreat
open Go.Lir
set_option maxHeartbeats 1000000
attribute [local irreducible] LC.wp Q5 Q11 Q1c retQ Q2b LO.wp QD Calls
set_option linter.unusedSimpArgs false
set_option linter.unusedVariables false
attribute [local irreducible] hasB Q1W Q1o Q1I Q3A upTo Module.fault
variable {cx : Cx} {w : World} {L : List Res} {j : JP} {h : List Bool} {vl : Value} {css : List (List Value)} {i : Nat} {m : Module}
theorem jown_c : ∀ (t : Ty), t.Short → ∀ {cx : Cx} {w : World} {L : List Res} {cs : List Value}, tyR.at cx cs t → St cx w L →
    Rets Tryz.prog QpE [.agg ⟨cs⟩] w fun u w' => ∃ c' ds, u = .agg ⟨ds⟩ ∧ cx.Le c' ∧ tyR.at c' ds t ∧ St c' w' L := by
  intro t
  induction t using Ty.ind with
  | h k r l ih =>
    intro hs cx w L cs ht hS
    obtain ⟨v, rfl, hl⟩ := Qf ht
    simp only [Ty.kind, Ty.r, Ty.l] at hl ht ⊢
    obtain ⟨hlen, hsub⟩ := hs.parts
    have hle := St.refl hS
    all_goals refine QpC ?_
    all_goals (unfold judge_own_lc; refine Q0 ?_; refine Q1 ?_; refine zb hS ?_; intro p1 w1 hS; refine Qd hS ?_; intro p2 w1 hS; refine zn ?_; refine Q0 ?_; refine Q1 ?_; refine Q2 rfl ?_; refine zl hS ?_; refine Q2 rfl ?_; refine zl hS ?_; refine zb2 [_, _, _] ?_; refine Qd hS ?_; intro p3 w1 hS; refine zsn hS ?_; intro w1 hS; have hS := hS.ns; refine zn ?_; refine Q0 ?_; refine Q0 ?_; refine Q1 ?_; refine Q2 rfl ?_; refine zl hS ?_; refine zL ?_; refine zm ?_; refine zn ?_; refine Qa ?_)
    refine zo [2, 3, 12, 13] (fun A ρ' w' => ∃ (k0 : Cx) (j : Nat) (u : Value) (css : List (List Value)), Has ρ' A ∧ Has ρ' [(14, .int .i64 j)] ∧ (cx.Le k0) ∧ (j ≤ l.length) ∧ (tyR.ls k0 css (l.take j)) ∧ (oneC u = true) ∧ St k0 w' (sl 112 3 u css :: blk p3 112 [.int .i64 k, .int .i64 r, u] :: blk p2 112 [.int .i64 0, .int .i64 0, .slice none 0 0] :: blk p1 112 [.int .i64 k, .int .i64 r, v] :: L)) (fun ρ' _ => (l.length - iv (ρ' 14)).toNat) ?_ ?_
    · exact ⟨cx, 0, .slice none 0 0, [], zh, zh, St.refl hS, (by omega), Rep.LR.nil _ _ _, rfl, by have hS := hS.nil (T := 112) (es := 3); exact hS.sp⟩
    rintro ρ w1 ⟨k0, j, u, css, hA, hρ, hle2, hj, hls, hu, hS⟩; obtain ⟨ρ, rfl⟩ := env2 hA hρ; have hL0 := hle2; (try have hle := hle.trans hle2); (try have hl := hl.up hle2)
    unfold Qeo
    all_goals (refine Q0 ?_; refine Q1 ?_; refine Qx rfl rfl ?_; refine zn ?_; refine Q0 ?_)
    refine Qo rfl (fun hc => ?_) (fun hc => ?_)
    · skip
      all_goals (refine zsk ?_; refine Q0 ?_; refine Qa ?_; refine Q0 ?_; refine Q1 ?_; refine zi ?_; intro b1 o1 cs1 x1 hat1 hx1 he1; obtain ⟨vl1, rfl, hl1⟩ := Qf he1; (first | (refine zv hS ?_) | (refine zvk hS ?_)); refine Qd hS ?_; intro p5 w1 hS; refine zsn hS ?_; intro w1 hS; have hS := hS.ns; refine zn ?_; refine zC [(0, none), (1, none), (2, none), (3, some (some [1])), (4, some (some [1])), (5, some none), (6, none), (7, some none)] ?_; have hS := hS.drew; refine s_cq ?_; refine Q2 rfl ?_; refine zt ?_; refine s_cq ?_; refine zl hS ?_; refine zt ?_; refine s_cq ?_; refine zv hS ?_; refine zt ?_; refine QU ?_)
      all_goals (refine zR1 (c := ih _ (List.mem_of_getElem? hx1) (hsub _ (List.mem_of_getElem? hx1)) he1 hS) (h := ?_); rintro v1 w1 ⟨c1, ds, rfl, hle2, hd1, hS⟩; have hd1' := hd1; obtain ⟨v7, rfl, hv7⟩ := Qf hd1; (try have hle := hle.trans hle2); (try have hL0 := hL0.trans hle2); (try have hl := hl.up hle2); (try have hl1 := hl1.up hle2); (try have he1 := he1.up hle2); (try have hls := hls.up hle2))
      all_goals (refine zt ?_; refine zy ?_; refine QU ?_; refine zB1 hS [_, _, _] ?_; intro b1 w1 hS; refine zt ?_; refine zy ?_; refine s_cf ?_; refine za Q38 Q5x hS ?_; intro vp1 w1 css1 hls1 hv1 hS; have hS := hS.ns; refine zt ?_; refine s_cq ?_; refine Q2 rfl ?_; refine zt ?_; refine s_cf ?_; refine zst hS ?_; intro w1 hS; have hS := hS.ns; refine zt ?_; refine zcn ?_; refine Q1 ?_; refine zad ?_; refine zm ?_; refine zn ?_; exact ⟨⟨_, j + 1, _, _, zh, zh, hL0, (by omega), by rw [Q1E hx1]; assumption, by assumption, hS.sp⟩, Qr (by omega)⟩)
    · skip
      all_goals (refine zex ?_; refine Q0 ?_; refine Q1 ?_; refine zv hS ?_; refine zsn hS ?_; intro w1 hS; have hS := hS.ns; refine zn ?_; refine zr ?_; refine Q1V vw (Qj (n := 3) (by kernel_rfl) (by kernel_rfl) (hS.blkAt fd) (by rfl) (by rfl)) ?_; obtain ⟨c3, hle3, hS, hl3⟩ := St.freezeL (r := tyR) (l := l) (T := 112) (es := 3) (v := u) (css := css) (L := L) hS.sp (by rw [List.take_of_length_le (by omega)] at hls; exact hls) rfl (by omega); exact ⟨_, rfl, c3, _, rfl, hle.trans hle3, Q1N hl3, hS⟩)
theorem Qn3 {s : JS} (hsh : ∀ t ∈ s.l, t.Short) (hn : s.l.length ≤ 80) (hls : tyR.ls cx css s.l) (hS : St cx w L) (hi : nth L i = some (j.res h vl css)) :
    Rets Tryz.prog Q4z [.pointer (some ⟨j.sp, 0, none⟩)] w fun u w' => ∃ c', cx.Le c' ∧ tyR.sl c' u s.l ∧ St c' w' L := by
  have hlc := hls.1
  have hS := JP.opn hS hi
  have hle := St.refl hS
  have hls0 := hls
  all_goals refine Q7c ?_
  all_goals (unfold judge_State_Types_lc; refine Q0 ?_; refine Q1 ?_; refine zm ?_; refine zn ?_; refine Q0 ?_; refine Q1 ?_; refine zm ?_; refine zn ?_; refine Q0 ?_; refine Q0 ?_; refine Q1 ?_; refine zm ?_; refine Qi rfl ?_; refine Q2 rfl ?_; refine zl hS ?_; refine Q1P hS vw fd hlc ?_; refine zm ?_; refine zn ?_; refine Qa ?_)
  refine zo [9, 10] (fun A ρ' w' => ∃ (k0 : Cx) (q : Nat) (u : Value) (co : List (List Value)), Has ρ' A ∧ Has ρ' [(11, .int .i64 q), (3, u)] ∧ (cx.Le k0) ∧ (q ≤ s.l.length) ∧ (tyR.ls k0 co (s.l.take q)) ∧ (oneC u = true) ∧ St k0 w' (sl 112 3 u co :: blk j.sp 68 (j.cells vl) :: Qho j.hp h :: sl 112 3 vl css :: L.eraseIdx i)) (fun ρ' _ => (s.l.length - iv (ρ' 11)).toNat) ?_ ?_
  · exact ⟨cx, 0, .slice none 0 0, [], zh, zh, St.refl hS, (by omega), Rep.LR.nil _ _ _, rfl, by have hS := hS.nil (T := 112) (es := 3); exact hS.sp⟩
  rintro ρ w1 ⟨k0, q, u, co, hA, hρ, hle2, hq, hls, hu, hS⟩; obtain ⟨ρ, rfl⟩ := env2 hA hρ; have hL0 := hle2; (try have hle := hle.trans hle2)
  unfold Q3v
  all_goals (refine Q0 ?_; refine Q1 ?_; refine Qx rfl rfl ?_; refine zn ?_; refine Q0 ?_)
  refine Qo rfl (fun hc => ?_) (fun hc => ?_)
  · skip
    all_goals (refine zsk ?_; refine Q0 ?_; refine Qa ?_; refine Q0 ?_; obtain ⟨t, ht⟩ : ∃ t, s.l[q]? = some t := ⟨_, List.getElem?_eq_getElem (by omega)⟩; obtain ⟨d, hd, hrd⟩ := hls0.2 _ _ ht; have hrd := Rep.R.up hrd hle; have hrd' := hrd; obtain ⟨vd, rfl, hld⟩ := Qf hrd; refine Q1 ?_; refine Qta hS vw rfl (i := 3) rfl (by omega) ?_; intro b1 o1 hel1; refine Q6o hS hel1 rfl fd rfl hd ?_; refine Qd hS ?_; intro p5 w1 hS; refine zsn hS ?_; intro w1 hS; have hS := hS.ns; refine zn ?_; refine Q1 ?_; refine zm ?_; (first | (refine Q6o hS hel1 rfl fd rfl hd ?_) | (refine zv hS ?_)))
    all_goals (refine zR1 (c := jown_c t (hsh t (List.mem_of_getElem? ht)) hrd' hS) (h := ?_); rintro v1 w1 ⟨c1, ds, rfl, hle2, hd1, hS⟩; have hd1' := hd1; obtain ⟨v7, rfl, hv7⟩ := Qf hd1; (try have hle := hle.trans hle2); (try have hL0 := hL0.trans hle2); (try have hls := hls.up hle2))
    all_goals (refine zB1 hS [_, _, _] ?_; intro b1 w1 hS; refine za Q38 Q5x hS ?_; intro vp1 w1 css1 hls1 hv1 hS; have hS := hS.ns; refine zm ?_; refine zn ?_; refine Q1 ?_; refine zad ?_; refine zm ?_; refine zn ?_; exact ⟨⟨_, q + 1, _, _, zh, zh, hL0, (by omega), by rw [Q1E ht]; assumption, by assumption, hS.sp⟩, Qr (by omega)⟩)
  · skip
    all_goals (refine zex ?_; refine Q0 ?_; refine Q1 ?_; refine zm ?_; refine zm ?_; refine zn ?_; refine zr ?_; refine zf ?_; obtain ⟨c3, hle3, hS, hl3⟩ := St.freezeL (r := tyR) (l := s.l) (T := 112) (es := 3) (v := u) (css := co) (L := blk j.sp 68 (j.cells vl) :: Qho j.hp h :: sl 112 3 vl css :: L.eraseIdx i) hS.sp (by rw [List.take_of_length_le (by omega)] at hls; exact hls) rfl (by omega); exact ⟨_, rfl, c3, hL0.trans hle3, hl3, JP.cls0 hi hS⟩)
theorem clonet_c {l : List Ty} {v : Value} (hl : tyR.sl cx v l) (hb : l.length ≤ 1000000) (hS : St cx w L) : Rets Tryz.prog Q1j [v] w fun u w' => oneC u = true ∧ ∃ css, tyR.ls cx css l ∧ St cx w' (sl 112 3 u css :: L) := by
  obtain ⟨a, c, hv⟩ := Rep.SR.shape hl
  cases a with
  | none =>
    have hl0 := Rep.SR.nil_of hl hv
    subst hl0
    subst hv
    all_goals refine Q1U ?_
    all_goals (unfold slices_Clone_api_Type_api_Type_lc; refine Q0 ?_; refine Q1 ?_; refine zm ?_; refine zn ?_; refine Q0 ?_; refine Q0 ?_; refine Q1 ?_; refine zm ?_; refine QmL (e := 112) (by kernel_rfl) rfl rfl ?_; refine zn ?_)
    all_goals
      first
      | (refine Q3 rfl ?_ -- Q1j c0
         all_goals (refine Q0 ?_; refine Q1 ?_; refine zm ?_; refine zn ?_; refine zr ?_; refine zf ?_)
         all_goals (exact ⟨_, rfl, rfl, [], Rep.LR.nil _ _ _, hS.nil⟩))
    all_goals (refine Q0 ?_; refine Q1 ?_; fail "no law for buildSlice"; refine zm ?_; refine za Q38 Q5x hS ?_; intro vp1 w1 css1 hls1 hv1 hS; have hS := hS.ns; refine zm ?_; refine zn ?_; refine zr ?_; refine zf ?_; exact ⟨_, rfl, rfl, [], Rep.LR.nil _ _ _, hS.nil⟩)
  | some a =>
    have hn : tyR.ls cx [] [] := Rep.LR.nil _ _ _
    all_goals refine Q1U ?_
    all_goals (unfold slices_Clone_api_Type_api_Type_lc; refine Q0 ?_; refine Q1 ?_; refine zm ?_; refine zn ?_; refine Q0 ?_; refine Q0 ?_; refine Q1 ?_; refine zm ?_; refine QmL (e := 112) (by kernel_rfl) hv rfl ?_; refine zn ?_)
    all_goals refine Q4 rfl ?_
    all_goals (refine zsk ?_; refine Q0 ?_; refine Q1 ?_; refine Qur Q38 ?_; intro v1 w1 hf1 hs1 hz1; have hS := hS.new (r := sl 112 3 v1 []) hs1 hf1 (fun b hb => Nat.le_of_eq hb.symm); refine zm ?_; (first | (refine za Q38 Q5x hS ?_; intro vp1 w1 css1 hls1 hv1 hS; have hS := hS.ns) | (refine zak Q38 Q5x hS ?_; intro vp1 w1 css1 hls1 hv1 hS; have hS := hS.ns)); refine zm ?_; refine zn ?_; refine zr ?_; refine zf ?_; exact ⟨_, rfl, by assumption, _, hls1, hS.sp⟩)
theorem JP.shut {v : Value} (hS : St cx w (blk j.sp 68 (j.cells vl) :: blk j.hp 124 [v] :: sl 4 1 v (h.map QK) :: sl 112 3 vl css :: L)) : St cx w (j.res h vl css :: L) := by
  have h1 : St cx w (Qho j.hp h :: sl 112 3 vl css :: blk j.sp 68 (j.cells vl) :: L) := Q3U (hS.perm (by
    refine List.Perm.trans (List.Perm.swap _ _ _) (List.Perm.cons _ ?_)
    refine List.Perm.trans (List.Perm.swap _ _ _) (List.Perm.cons _ ?_)
    exact List.Perm.swap _ _ _))
  exact St.star' (St.mv1 (St.star' h1))
theorem jNew_c {f b : Int} {cs : List Value} (hm : m.Short) (hx : modR.at cx cs m) (hS : St cx w L) :
    Rets Tryz.prog Q4C [.agg ⟨cs⟩, .int .i64 f, .int .i64 b] w fun u w' =>
      (m.fault.1 ≠ 0 ∧ u = .tuple #[.pointer none, fltV m.fault] ∧ St cx w' L) ∨
      (m.fault.1 = 0 ∧ ((f < 0 ∨ m.funcs.length ≤ f) ∨ ∃ fn, m.funcs[f.toNat]? = some fn ∧ (b < 0 ∨ fn.blocks.length ≤ b)) ∧ u = .tuple #[.pointer none, fltV (1, -1)] ∧ St cx w' L) ∨
      (∃ (fn : Fun) (y : Block) (j : JP) (c' : Cx) (vl : Value) (css : List (List Value)), m.fault.1 = 0 ∧ 0 ≤ f ∧ 0 ≤ b ∧ m.funcs[f.toNat]? = some fn ∧ fn.blocks[b.toNat]? = some y ∧ u = .tuple #[.pointer (some ⟨j.sp, 0, none⟩), fltV (0, 0)] ∧ cx.Le c' ∧ j.Fits c' m ∧ j.f = fn ∧ tyR.ls c' css y.params ∧ St c' w' (j.res (Q62 y).h vl css :: L)) := by
  obtain ⟨vf, rfl, hf⟩ := Q31 hx
  obtain ⟨a0, n0, rfl⟩ := Rep.SR.shape hf
  have hlf := hf.len
  all_goals refine QpP ?_
  all_goals (unfold judge_New_lc; refine Q0 ?_; refine Q1 ?_; refine zb hS ?_; intro p3 w1 hS; refine zm ?_; refine Qd hS ?_; intro p7 w1 hS; refine zn ?_; refine Q0 ?_; refine Q0 ?_; refine Q1 ?_; refine zv hS ?_; refine zR1 (c := pcheck_c hm hx hS) (h := ?_); rintro v1 w1 ⟨rfl, hS⟩; unfold fltV; refine Qd hS ?_; intro p8 w1 hS; refine zsn hS ?_; intro w1 hS; have hS := hS.ns; refine zn ?_; refine Q0 ?_; refine Q1 ?_; refine Q2 rfl ?_; refine zl hS ?_)
  all_goals (first | (refine QZ ?_) | (refine Q10 ?_) | (refine Qp rfl rfl (fun hc => ?_) (fun hc => ?_)))
  all_goals (refine zn ?_)
  all_goals
    first
    | (refine Q3 rfl ?_ -- Q4C c0
       all_goals (refine Q0 ?_; refine zD [(0, none), (1, none), (2, some none)] ?_; have hS := hS.drew; refine zv hS ?_; refine zm ?_; refine zsn hS ?_; intro w1 hS; have hS := hS.ns; refine zn ?_; refine zr ?_; refine QrI vw vw (Qj (n := 2) (by kernel_rfl) (by kernel_rfl) (hS.blkAt fd) (by rfl) (by rfl)) ?_)
       all_goals (exact ⟨_, rfl, .inl ⟨by omega, rfl, hS.sp⟩⟩))
    | (refine Q4 rfl ?_ -- Q4C c0
       all_goals refine zsk ?_)
  refine zML hS [1, 2, 3, 7] (fun A LL ρ' w' => Has ρ' A ∧ Has ρ' [] ∧ (m.fault.1 = 0) ∧ (0 ≤ f ∧ f < m.funcs.length ∧ ∃ fn, m.funcs[f.toNat]? = some fn ∧ 0 ≤ b ∧ b < fn.blocks.length) ∧ St cx w' (LL)) ?_ ?_
  · skip
    all_goals (refine Q0 ?_; refine Q1 ?_; refine zm ?_)
    all_goals (first | (refine Q1L ?_) | (refine Q1M ?_) | (refine QE rfl rfl (fun hc => ?_) (fun hc => ?_)))
    all_goals (refine zm ?_; (first | refine s_gn rfl rfl ?_ | (refine s_gy rfl ?_; refine zm ?_)); (first | refine s_gn rfl rfl ?_ | (refine s_gy rfl ?_; refine Q2 rfl ?_)); (first | refine s_gn rfl rfl ?_ | (refine s_gy rfl ?_; refine zl hS ?_)); (first | refine s_gn rfl rfl ?_ | (refine s_gy rfl ?_; refine zL ?_)))
    all_goals (first | refine s_gn rfl rfl ?_ | (refine s_gy rfl ?_; (first | (refine Q3f ?_) | (refine Q3g ?_) | (refine Q1A rfl rfl (fun hc => ?_) (fun hc => ?_)))))
    all_goals ((first | (refine zpt ?_) | (refine zpf ?_)); refine zm ?_; (first | refine s_gn rfl rfl ?_ | (refine s_gy rfl ?_; refine zm ?_)))
    all_goals (first | refine s_gn rfl rfl ?_ | (refine s_gy rfl ?_; (first | (refine Q1L ?_) | (refine Q1M ?_) | (refine QE rfl rfl (fun hc => ?_) (fun hc => ?_)))))
    all_goals ((first | (refine zpt ?_) | (refine zpf ?_)); refine zm ?_; (first | refine s_gn rfl rfl ?_ | (refine s_gy rfl ?_; refine zm ?_)); (first | refine s_gn rfl rfl ?_ | (refine s_gy rfl ?_; refine Q2 rfl ?_)); (first | refine s_gn rfl rfl ?_ | (refine s_gy rfl ?_; refine zl hS ?_)); (first | refine s_gn rfl rfl ?_ | (refine s_gy rfl ?_; refine zm ?_)); (first | refine s_gn rfl rfl ?_ | (refine s_gy rfl ?_; ((first | refine zi ?_ | refine zj ?_); intro b1 o1 cs1 x1 hat1 hx1 he1; obtain ⟨vp1, vr1, vb1, rfl, hp1, hr1, hb1⟩ := Q1e he1))); (first | refine s_gn rfl rfl ?_ | (refine s_gy rfl ?_; (first | refine Q2 rfl ?_ | refine Q1d rfl ?_))); (first | refine s_gn rfl rfl ?_ | (refine s_gy rfl ?_; (first | (refine zl hS ?_) | (refine zlk hS ?_) | (refine zlj hS ?_)))); (first | refine s_gn rfl rfl ?_ | (refine s_gy rfl ?_; refine zL ?_)))
    all_goals (first | refine s_gn rfl rfl ?_ | (refine s_gy rfl ?_; (first | (refine Q3f ?_) | (refine Q3g ?_) | (refine Q1A rfl rfl (fun hc => ?_) (fun hc => ?_)))))
    all_goals ((first | (refine zpt ?_) | (refine zpf ?_)); refine zn ?_; skip)
    all_goals
      first
      | (refine Q4 rfl ?_ -- Q4C c1
         all_goals refine zsk ?_)
      | (refine Q3 rfl ?_ -- Q4C c1
         all_goals (refine Q0 ?_; refine Q1 ?_; refine zb2 [_, _] ?_; refine zm ?_; refine zsn hS ?_; intro w1 hS; have hS := hS.ns; refine zn ?_; refine zr ?_; refine QrI vw vw (Qj (n := 2) (by kernel_rfl) (by kernel_rfl) (hS.blkAt fd) (by rfl) (by rfl)) ?_)
         all_goals (first | (exact ⟨_, rfl, .inl ⟨by omega, rfl, hS.sp⟩⟩) | (exact ⟨_, rfl, .inr (.inl ⟨by omega, .inl (.inl (by omega)), rfl, hS.sp⟩)⟩) | (exact ⟨_, rfl, .inr (.inl ⟨by omega, .inl (.inr (by omega)), rfl, hS.sp⟩)⟩) | (exact ⟨_, rfl, .inr (.inl ⟨by omega, .inr ⟨_, List.getElem?_eq_getElem (i := f.toNat) (by omega), .inl (by omega)⟩, rfl, hS.sp⟩)⟩) | (exact ⟨_, rfl, .inr (.inl ⟨by omega, .inr ⟨x1, hx1, .inr (by omega)⟩, rfl, hS.sp⟩)⟩)))
    all_goals (exact ⟨zh, zh, by omega, by refine ⟨by omega, by omega, x1, hx1, by omega, by omega⟩, hS.sp⟩)
  rintro ρ w1 ⟨hA, hρ, hz, hb, hS⟩; obtain ⟨ρ, rfl⟩ := env2 hA hρ
  all_goals (refine Q0 ?_; refine Q1 ?_; refine zv hS ?_; refine zR1 (c := QuV hm hx hS) (h := ?_); rintro v1 w1 ⟨c1, ds, rfl, hle, hm2, hS⟩; obtain ⟨vm, rfl, hf2⟩ := Q31 hm2; obtain ⟨hb1, hb2, fn, hfn, hb3, hb4⟩ := hb; refine zb1 [_, _, _, _, _, _, _] ?_; refine zb hS ?_; intro p45 w1 hS; refine zm ?_; refine zn ?_; skip; refine Q0 ?_; refine Q1 ?_; refine zm ?_; refine zm ?_; refine Qi rfl ?_; refine Q2 rfl ?_; (first | refine Q2 rfl ?_ | refine Q1d rfl ?_); refine zl hS ?_; refine zm ?_; (first | refine zi ?_ | refine zj ?_); intro b2 o2 cs2 x2 hat2 hx2 he2; obtain ⟨vp2, vr2, vb2, rfl, hp2, hr2, hb2⟩ := Q1e he2; (first | (refine zv hS ?_) | (refine zvk hS ?_)); refine Qi rfl ?_; refine Q2 rfl ?_; (first | (refine zsn hS ?_; intro w1 hS; have hS := hS.ns) | (refine zsm hS ?_; intro w1 hS; have hS := hS.ns)); refine zn ?_; obtain rfl : fn = x2 := Option.some.inj (hfn.symm.trans hx2); have hsf := hm.2 fn (List.mem_of_getElem? hfn); refine Q0 ?_; refine Q1 ?_; refine zm ?_; refine Qi rfl ?_; refine Q2 rfl ?_; (first | refine Q2 rfl ?_ | refine Q1d rfl ?_); refine zl hS ?_; refine zm ?_; (first | refine zi ?_ | refine zj ?_); intro b3 o3 cs3 x3 hat3 hx3 he3; obtain ⟨vp3, vc3, ve31, ve32, ve33, ve34, ve35, rfl, hp3, hc3, he31, he32, he33, he34, he35⟩ := Q2N he3)
  all_goals ((first | (refine zv hS ?_) | (refine zvk hS ?_)); refine Qd hS ?_; intro p10 w1 hS; refine zsn hS ?_; intro w1 hS; have hS := hS.ns; refine zn ?_; refine Q0 ?_; refine Q1 ?_; refine zm ?_; refine Q2 rfl ?_; refine zl hS ?_; refine zR1 (c := new_u hS) (h := ?_); rintro v1 w1 ⟨hp, vh, rfl, hS⟩; refine Qi rfl ?_; refine Q2 rfl ?_; refine zst hS ?_; intro w1 hS; have hS := hS.ns; refine zn ?_; refine Q0 ?_; refine Q1 ?_; refine zm ?_; refine Q2 rfl ?_; refine zl hS ?_; refine zR1 (c := clonet_c hp3 (by have := (hsf.2.2.2 x3 (List.mem_of_getElem? hx3)).1.1; omega) hS) (h := ?_); rintro v1 w1 ⟨hvl, css4, hls4, hS⟩; refine Qi rfl ?_; refine Q2 rfl ?_; refine zst hS ?_; intro w1 hS; have hS := hS.ns; refine zn ?_; refine Q0 ?_; refine Q1 ?_; refine zm ?_; refine zb0 [_, _] ?_; refine zm ?_; refine zsn hS ?_; intro w1 hS; have hS := hS.ns; refine zn ?_; refine zr ?_; refine QrI vw vw (Qj (n := 2) (by kernel_rfl) (by kernel_rfl) (hS.blkAt fd) (by rfl) (by rfl)) ?_)
  all_goals ((first | (exact ⟨_, rfl, .inl ⟨by omega, rfl, hS.sp⟩⟩) | (exact ⟨_, rfl, .inr (.inl ⟨by omega, .inl (.inl (by omega)), rfl, hS.sp⟩)⟩) | (exact ⟨_, rfl, .inr (.inl ⟨by omega, .inl (.inr (by omega)), rfl, hS.sp⟩)⟩) | (exact ⟨_, rfl, .inr (.inl ⟨by omega, .inr ⟨_, List.getElem?_eq_getElem (i := f.toNat) (by omega), .inl (by omega)⟩, rfl, hS.sp⟩)⟩) | (exact ⟨_, rfl, .inr (.inl ⟨by omega, .inr ⟨x1, hx1, .inr (by omega)⟩, rfl, hS.sp⟩)⟩) | (exact ⟨_, rfl, .inr (.inr ⟨fn, x3, ⟨p45, hp, fn, vm, vp2, vr2, vb2⟩, c1, _, css4, hz, by omega, by omega, hfn, hx3, rfl, hle, ⟨hf2, hp2, hr2, hb2⟩, rfl, hls4, JP.shut (v := vh) hS.sp⟩)⟩)))
end Go.Proofs.YtanlkfeogoganaaGreat
namespace Go.Proofs.YtanlkfeogoganaaGreat
open Go.Lir
set_option maxHeartbeats 1000000
attribute [local irreducible] LC.wp Q5 Q11 Q1c retQ Q2b LO.wp QD Calls
set_option linter.unusedSimpArgs false
set_option linter.unusedVariables false
end Go.Proofs.YtanlkfeogoganaaGreat
namespace Go.Proofs.YtanlkfeogoganaaGreat
open Go.Lir
set_option maxHeartbeats 1000000
attribute [local irreducible] LC.wp Q5 Q11 Q1c retQ Q2b LO.wp QD Calls
set_option linter.unusedSimpArgs false
set_option linter.unusedVariables false
variable {cx : Cx} {w : World} {L : List Res} {i : Nat}
def Qpt : Block := ⟨0, [], [], ⟨3, 0, ⟨0, [], []⟩, ⟨0, [], []⟩, []⟩⟩
def leastM : Module := ⟨[⟨0, [], [], [Qpt]⟩]⟩
abbrev Qmg (vc : Value) : List Value := [.int .i64 0, .slice none 0 0, vc, .int .i64 3, .int .i64 0, .int .i64 0, .slice none 0 0, .slice none 0 0, .int .i64 0, .slice none 0 0, .slice none 0 0, .slice none 0 0]
theorem Qah : Int2 Tryz.prog 30 := int2_of (by kernel_rfl)
theorem least_c (hS : St cx w L) : Rets Tryz.prog Qrr [] w fun u w' => ∃ a b, u = .agg ⟨[.slice (some ⟨a, 0, none⟩) 1 1]⟩ ∧ St cx w' (blk a 53 [.int .i64 0, .slice none 0 0, .slice none 0 0, .slice (some ⟨b, 0, none⟩) 1 1] :: blk b 79 (Qmg (.slice none 0 0)) :: L) := by
  all_goals refine Qrq ?_
  all_goals (unfold Law_least_lc; refine Q0 ?_; refine Q1 ?_; refine Qd hS ?_; intro p0 w1 hS; refine zn ?_; refine Q0 ?_; refine Q1 ?_; refine zb1 [_, _, _, _, _, _, _, _, _] ?_; refine zb1 [_, _, _, _, _, _, _, _, _, _, _, _] ?_; refine Q3l (cs := [_, _, _, _, _, _, _, _, _, _, _, _]) vw (by rfl) ?_; intro q1 w1 hb1 hf1 _ hk1; have hS := hS.laid hb1 hf1 hk1; refine zb1 [_, _, _, _] ?_; refine Q3l (cs := [_, _, _, _]) vw (by rfl) ?_; intro q2 w1 hb1 hf1 _ hk1; have hS := hS.laid hb1 hf1 hk1; refine zb1 [_] ?_; refine zsn hS ?_; intro w1 hS; have hS := hS.ns; refine zn ?_; refine zr ?_; refine Q1V vw (Qj (n := 1) (by kernel_rfl) (by kernel_rfl) (hS.blkAt fd) (by rfl) (by rfl)) ?_; exact ⟨_, rfl, q2, q1, rfl, hS.sp⟩)
/-- Such a module, from now on only read. -/
theorem least_fz {a b : Nat} {code : List Ins} {vc : Value} (hk : insR.sl cx vc code) (hS : St cx w (blk a 53 [.int .i64 0, .slice none 0 0, .slice none 0 0, .slice (some ⟨b, 0, none⟩) 1 1] :: blk b 79 (Qmg vc) :: L)) :
    ∃ c', cx.Le c' ∧ St c' w L ∧ modR.at c' [.slice (some ⟨a, 0, none⟩) 1 1] ⟨[⟨0, [], [], [⟨0, [], code, ⟨3, 0, ⟨0, [], []⟩, ⟨0, [], []⟩, []⟩⟩]⟩]⟩ := by
  have n1 : ∀ c : Cx, intR.sl c (.slice none 0 0) [] := fun c => Rep.SR.nil _ _ _
  have n2 : ∀ c : Cx, tyR.sl c (.slice none 0 0) [] := fun c => Rep.SR.nil _ _ _
  obtain ⟨c1, hle1, hS, h1⟩ := St.freeze1 (r := blockR) (x := ⟨0, [], code, ⟨3, 0, ⟨0, [], []⟩, ⟨0, [], []⟩, []⟩⟩) hS.mv1 (Qqx (x := ⟨0, [], code, ⟨3, 0, ⟨0, [], []⟩, ⟨0, [], []⟩, []⟩⟩) (n2 _) hk (n1 _) (n1 _) (n1 _) (n1 _) (n1 _))
  obtain ⟨c2, hle2, hS, h2⟩ := St.freeze1 (r := funcR) (x := ⟨0, [], [], [⟨0, [], code, ⟨3, 0, ⟨0, [], []⟩, ⟨0, [], []⟩, []⟩⟩]⟩) hS ⟨_, _, _, rfl, n2 _, n2 _, h1⟩
  exact ⟨c2, hle1.trans hle2, hS, _, rfl, h2⟩
end Go.Proofs.YtanlkfeogoganaaGreat
namespace Go.Proofs.YtanlkfeogoganaaGreat
open Go.Lir
set_option maxHeartbeats 1000000
attribute [local irreducible] LC.wp Q5 Q11 Q1c retQ Q2b LO.wp QD Calls
set_option linter.unusedSimpArgs false
set_option linter.unusedVariables false
attribute [local irreducible] hasB Q1W Q1o Q1I Q3A upTo Module.fault jIns jEnd
variable {cx : Cx} {w : World} {L : List Res} {j : JP} {h : List Bool} {vl : Value} {css : List (List Value)} {i : Nat} {m : Module}
def Q3n : Fun := ⟨0, [], [], [Qpt]⟩
theorem leastM_short : leastM.Short := by
  refine ⟨by decide, fun f hf => ?_⟩
  simp [leastM] at hf; subst hf
  refine ⟨⟨by decide, by simp⟩, ⟨by decide, by simp⟩, by decide, fun b hb => ?_⟩
  simp [Qpt] at hb; subst hb
  exact ⟨⟨by decide, by simp⟩, by decide, by simp, ⟨by decide, by decide⟩, ⟨by decide, by decide⟩, by decide⟩
@[reducible] def insK (op : Int) : Ins := ⟨op, 0, 0, 0, 0, 0, [], []⟩
theorem Qn4 (c : Cx) (op : Int) : insR.at c [.int .i64 op, .int .i64 0, .int .i64 0, .int .i64 0, .int .i64 0, .int .i64 0, .slice none 0 0, .slice none 0 0] (insK op) := ⟨_, _, rfl, Rep.SR.nil _ _ _, Rep.SR.nil _ _ _⟩
theorem endK_at (c : Cx) (op : Int) : endR.at c [.int .i64 op, .int .i64 0, .int .i64 0, .slice none 0 0, .slice none 0 0, .int .i64 0, .slice none 0 0, .slice none 0 0, .slice none 0 0] ⟨op, 0, ⟨0, [], []⟩, ⟨0, [], []⟩, []⟩ :=
  ⟨_, _, _, _, _, rfl, Rep.SR.nil _ _ _, Rep.SR.nil _ _ _, Rep.SR.nil _ _ _, Rep.SR.nil _ _ _, Rep.SR.nil _ _ _⟩
theorem QpR (hS : St cx w L) : Rets Tryz.prog Q3k [] w fun u w' => u = .bool true ∧ St cx w' L := by
  have e1 : leastM.fault = (0, 0) := by decide +kernel
  have i1 : jIns leastM Q3n ⟨[], []⟩ (insK 3) = (0, ⟨[true], [.mk 2 0 []]⟩) := by decide +kernel
  have i2 : jIns leastM Q3n ⟨[true], [.mk 2 0 []]⟩ (insK 11) = (9, ⟨[true], [.mk 2 0 []]⟩) := by decide +kernel
  have i3 : jIns leastM Q3n ⟨[true], [.mk 2 0 []]⟩ (insK 4) = (0, ⟨[false], [.mk 2 0 []]⟩) := by decide +kernel
  have i4 : jIns leastM Q3n ⟨[false], [.mk 2 0 []]⟩ (insK 4) = (10, ⟨[false], [.mk 2 0 []]⟩) := by decide +kernel
  have i1a : (jIns leastM Q3n ⟨[], []⟩ (insK 3)).1 = 0 := by rw [i1]
  have i1b : (jIns leastM Q3n ⟨[], []⟩ (insK 3)).2 = ⟨[true], [.mk 2 0 []]⟩ := by rw [i1]
  have i2a : (jIns leastM Q3n ⟨[true], [.mk 2 0 []]⟩ (insK 11)).1 = 9 := by rw [i2]
  have i2b : (jIns leastM Q3n ⟨[true], [.mk 2 0 []]⟩ (insK 11)).2 = ⟨[true], [.mk 2 0 []]⟩ := by rw [i2]
  have i3a : (jIns leastM Q3n ⟨[true], [.mk 2 0 []]⟩ (insK 4)).1 = 0 := by rw [i3]
  have i3b : (jIns leastM Q3n ⟨[true], [.mk 2 0 []]⟩ (insK 4)).2 = ⟨[false], [.mk 2 0 []]⟩ := by rw [i3]
  have i4a : (jIns leastM Q3n ⟨[false], [.mk 2 0 []]⟩ (insK 4)).1 = 10 := by rw [i4]
  have i4b : (jIns leastM Q3n ⟨[false], [.mk 2 0 []]⟩ (insK 4)).2 = ⟨[false], [.mk 2 0 []]⟩ := by rw [i4]
  have i5 : jEnd Q3n ⟨[false], [.mk 2 0 []]⟩ ⟨3, 0, ⟨0, [], []⟩, ⟨0, [], []⟩, []⟩ = 0 := by decide +kernel
  have n0 : ∀ c : Cx, insR.sl c (.slice none 0 0) [] := fun c => Rep.SR.nil _ _ _
  all_goals refine Qe5 ?_
  all_goals (unfold Law_judgeBegun_lc; refine Q0 ?_; refine Q1 ?_; refine zm ?_; refine zn ?_; refine Q0 ?_; refine Q1 ?_; refine zR0 (c := least_c hS) (h := ?_); rintro v1 w1 ⟨la, lb, rfl, hS⟩; obtain ⟨c1, hle1, hS, hm1⟩ := least_fz (n0 _) hS)
  all_goals (refine zR3 (c := jNew_c (m := leastM) leastM_short hm1 hS) (h := ?_); rintro v1 w1 (⟨h0, rfl, hS⟩ | ⟨h0, h9, rfl, hS⟩ | ⟨fn, y, j, c2, vl, css, h0, -, -, hfn, hy, rfl, hle2, hj, jf, hls, hS⟩); exact absurd (by rw [e1]) h0; (exfalso; revert h9; simp [leastM]); obtain rfl : Q3n = fn := Option.some.inj hfn; obtain rfl : Qpt = y := Option.some.inj hy; have hS : St c2 _ (j.res [] vl css :: L) := hS)
  all_goals (refine zm ?_; refine Q3z rfl rfl ?_; refine Q3z rfl rfl ?_; refine Qd hS ?_; intro p2 w1 hS; refine zm ?_; refine zsn hS ?_; intro w1 hS; have hS := hS.ns; refine zn ?_; refine Q0 ?_; refine Q0 ?_; refine Q1 ?_; refine Q2 rfl ?_; refine zl hS ?_)
  all_goals (first | (refine QZ ?_) | (refine Q10 ?_))
  all_goals (refine zn ?_)
  all_goals
    first
    | (refine Q3 rfl ?_ -- Q3k c0
       all_goals (refine Q0 ?_; refine Q1 ?_; refine zm ?_; refine zn ?_; refine zr ?_; refine zf ?_)
       all_goals (exact ⟨_, rfl, rfl, St.weak hS.sp (hle1.trans (hle2.trans (hle3.trans (hle4.trans (hle5.trans (hle6.trans hle7))))))⟩))
    | (refine Q4 rfl ?_ -- Q3k c0
       all_goals refine zsk ?_)
  all_goals (refine Q0 ?_; refine Q1 ?_; refine zm ?_; refine zb1 [_, _, _, _, _, _, _, _] ?_; refine zR2 (c := Qq3 (m := leastM) (s := ⟨[], []⟩) (x := insK 3) leastM_short (by decide) (by decide) hj (Qn4 _ _) hls hS fd) (h := ?_); rintro v1 w1 ⟨rfl, c3, vl3, css3, hle3, hls, hS⟩; rw [jf, i1b] at hls hS; rw [jf, i1a]; have hS := hS.ns; have hj := hj.up hle3)
  all_goals (refine Qv ?_)
  all_goals (refine zm ?_; (first | refine s_gn rfl rfl ?_ | (refine s_gy rfl ?_; refine zm ?_)); (first | refine s_gn rfl rfl ?_ | (refine s_gy rfl ?_; refine zb1 [_, _, _, _, _, _, _, _] ?_)); (first | (refine s_gn rfl rfl ?_) | (refine s_gy rfl ?_; refine zR2 (c := Qq3 (m := leastM) (s := ⟨[true], [.mk 2 0 []]⟩) (x := insK 11) leastM_short (by decide) (by decide) hj (Qn4 _ _) hls hS fd) (h := ?_); rintro v1 w1 ⟨rfl, c4, vl4, css4, hle4, hls, hS⟩; rw [jf, i2b] at hls hS; rw [jf, i2a]; have hS := hS.ns; have hj := hj.up hle4)))
  all_goals (first | refine s_gn rfl rfl ?_ | (refine s_gy rfl ?_; refine Qv ?_))
  all_goals (refine zpt ?_; refine zm ?_; (first | refine s_gn rfl rfl ?_ | (refine s_gy rfl ?_; refine zm ?_)); (first | refine s_gn rfl rfl ?_ | (refine s_gy rfl ?_; refine zb1 [_, _, _, _, _, _, _, _] ?_)); (first | (refine s_gn rfl rfl ?_) | (refine s_gy rfl ?_; refine zR2 (c := Qq3 (m := leastM) (s := ⟨[true], [.mk 2 0 []]⟩) (x := insK 4) leastM_short (by decide) (by decide) hj (Qn4 _ _) hls hS fd) (h := ?_); rintro v1 w1 ⟨rfl, c5, vl5, css5, hle5, hls, hS⟩; rw [jf, i3b] at hls hS; rw [jf, i3a]; have hS := hS.ns; have hj := hj.up hle5)))
  all_goals (first | refine s_gn rfl rfl ?_ | (refine s_gy rfl ?_; refine Qv ?_))
  all_goals (refine zpt ?_; refine zm ?_; (first | refine s_gn rfl rfl ?_ | (refine s_gy rfl ?_; refine zm ?_)); (first | refine s_gn rfl rfl ?_ | (refine s_gy rfl ?_; refine zb1 [_, _, _, _, _, _, _, _] ?_)); (first | (refine s_gn rfl rfl ?_) | (refine s_gy rfl ?_; refine zR2 (c := Qq3 (m := leastM) (s := ⟨[false], [.mk 2 0 []]⟩) (x := insK 4) leastM_short (by decide) (by decide) hj (Qn4 _ _) hls hS fd) (h := ?_); rintro v1 w1 ⟨rfl, c6, vl6, css6, hle6, hls, hS⟩; rw [jf, i4b] at hls hS; rw [jf, i4a]; have hS := hS.ns; have hj := hj.up hle6)))
  all_goals (first | refine s_gn rfl rfl ?_ | (refine s_gy rfl ?_; refine Qv ?_))
  all_goals (refine zpt ?_; refine zm ?_; (first | refine s_gn rfl rfl ?_ | (refine s_gy rfl ?_; refine zm ?_)); (first | (refine s_gn rfl rfl ?_) | (refine s_gy rfl ?_; refine zR1 (c := Qn3 (s := ⟨[false], [.mk 2 0 []]⟩) (by intro t ht; simp at ht; subst ht; exact .mk (by decide) (by simp)) (by decide) hls hS fd) (h := ?_); rintro v1 w1 ⟨c7, hle7, hk7, hS⟩; have hj := hj.up hle7; have hls := hls.up hle7)); (first | refine s_gn rfl rfl ?_ | (refine s_gy rfl ?_; refine zL ?_)); (first | (refine s_gn rfl rfl ?_) | (refine s_gy rfl ?_; refine Qux rfl rfl (by decide) ?_)); refine zpt ?_; refine zm ?_; (first | refine s_gn rfl rfl ?_ | (refine s_gy rfl ?_; refine zm ?_)); (first | refine s_gn rfl rfl ?_ | (refine s_gy rfl ?_; refine zb1 [_, _, _, _, _, _, _, _, _] ?_)); (first | (refine s_gn rfl rfl ?_) | (refine s_gy rfl ?_; refine zR2 (c := jEnd_c (m := leastM) (s := ⟨[false], [.mk 2 0 []]⟩) (x := ⟨3, 0, ⟨0, [], []⟩, ⟨0, [], []⟩, []⟩) (by rw [jf]; exact leastM_short.2 _ (by simp [leastM, Q3n])) (by rw [jf]; intro b hb; simp [Q3n] at hb; subst hb; simp [Q3n, Qpt]) (by rw [jf]; decide) (by decide) hj (endK_at _ _) hls hS fd) (h := ?_); rintro v1 w1 ⟨rfl, hS⟩; rw [jf, i5])))
  all_goals (first | refine s_gn rfl rfl ?_ | (refine s_gy rfl ?_; refine Qv ?_))
  all_goals (refine zpt ?_; refine zm ?_; refine zn ?_; refine zr ?_; refine zf ?_; exact ⟨_, rfl, rfl, St.weak hS.sp (hle1.trans (hle2.trans (hle3.trans (hle4.trans (hle5.trans (hle6.trans hle7))))))⟩)
end Go.Proofs.YtanlkfeogoganaaGreat
namespace Go.Lir
set_option linter.unusedVariables false
/-! ### A module of the right form -/
theorem Q9i {a b : Flt} (h : (orF a b).1 = 0) : a.1 = 0 ∧ b.1 = 0 := by
  unfold orF at h
  split at h
  · rename_i hc; exact absurd h hc.2
  · rename_i hc
    refine ⟨h, ?_⟩
    exact Classical.byContradiction fun hb => hc ⟨h, hb⟩
theorem QaD {n f b : Nat} : ∀ {l : List Ins} {i : Nat}, (Q17 n f b i l).1 = 0 → ∀ x ∈ l, QF n x = 0
  | [], _, _, x, hx => by cases hx
  | y :: l, i, h, x, hx => by
    rw [Q17] at h
    obtain ⟨h1, h2⟩ := Q9i h
    rw [Q2h] at h1
    rcases List.mem_cons.1 hx with rfl | hx
    · exact h1
    · exact QaD h2 x hx
theorem Q6a {n f : Nat} {x : Fun} : ∀ {l : List Block} {b0 : Nat}, (QV n f x b0 l).1 = 0 → ∀ (b : Nat) (y : Block), l[b]? = some y → (QR n f x (b0 + b) y).1 = 0
  | [], _, _, b, y, hy => by cases hy
  | z :: l, b0, h, b, y, hy => by
    rw [QV] at h
    obtain ⟨h1, h2⟩ := Q9i h
    cases b with
    | zero => rw [List.getElem?_cons_zero] at hy; cases hy; exact h1
    | succ b => rw [List.getElem?_cons_succ] at hy; rw [show b0 + (b + 1) = b0 + 1 + b by omega]; exact Q6a h2 b y hy
theorem Q5g {n : Nat} : ∀ {l : List Fun} {f0 : Nat}, (Q1l n f0 l).1 = 0 → ∀ (f : Nat) (x : Fun), l[f]? = some x → (Q25 n (f0 + f) x).1 = 0
  | [], _, _, b, y, hy => by cases hy
  | z :: l, b0, h, b, y, hy => by
    rw [Q1l] at h
    obtain ⟨h1, h2⟩ := Q9i h
    cases b with
    | zero => rw [List.getElem?_cons_zero] at hy; cases hy; exact h1
    | succ b => rw [List.getElem?_cons_succ] at hy; rw [show b0 + (b + 1) = b0 + 1 + b by omega]; exact Q5g h2 b y hy
theorem Qht {m : Module} (h : m.fault.1 = 0) {f : Nat} {x : Fun} (hx : m.funcs[f]? = some x) : QC f x = 0 := by
  have h1 := Q5g (Q9i h).2 f x hx
  rw [Nat.zero_add] at h1
  have h2 := (Q9i h1).1
  rwa [Q2h] at h2
theorem Q8T {m : Module} (h : m.fault.1 = 0) {f b : Nat} {x : Fun} {y : Block} (hx : m.funcs[f]? = some x) (hy : x.blocks[b]? = some y) : Qy x b y = 0 ∧ (∀ i ∈ y.code, QF m.funcs.length i = 0) ∧ Q1K x.blocks.length y.fin = 0 := by
  have h1 := Q5g (Q9i h).2 f x hx
  have h2 := Q6a (Q9i h1).2 b y hy
  obtain ⟨h3, h4⟩ := Q9i h2
  obtain ⟨h5, h6⟩ := Q9i h4
  rw [Q2h] at h3 h6
  rw [Nat.zero_add] at h3
  exact ⟨h3, QaD h5, h6⟩
theorem Q99 {x : Fun} {b : Nat} {y : Block} (h : Qy x b y = 0) : x.regs ≤ y.regs ∧ y.regs ≤ 16 ∧ Qu y.params y.regs = 0 ∧ (b = 0 → y.regs = x.regs ∧ y.params = x.params) ∧ y.code.length ≤ 40 := by
  unfold Qy at h
  split at h
  · cases h
  · rename_i h1
    split at h
    · rename_i h2; exact absurd h h2
    · rename_i h2
      split at h
      · cases h
      · rename_i h3
        split at h
        · cases h
        · refine ⟨by omega, by omega, Classical.not_not.1 h2, fun hb => ?_, by omega⟩
          refine ⟨Classical.byContradiction fun hr => h3 ⟨hb, .inl hr⟩, Classical.byContradiction fun hr => h3 ⟨hb, .inr hr⟩⟩
theorem Q8S {f : Nat} {x : Fun} (h : QC f x = 0) : 0 ≤ x.regs ∧ x.regs ≤ 6 ∧ Qu x.params x.regs = 0 ∧ Qu x.results x.regs = 0 ∧ 1 ≤ x.blocks.length ∧ x.blocks.length ≤ 12 := by
  unfold QC at h
  split at h
  · cases h
  · rename_i h1
    split at h
    · rename_i h2; exact absurd h h2
    · rename_i h2
      split at h
      · rename_i h3; exact absurd h h3
      · rename_i h3
        split at h
        · cases h
        · exact ⟨by omega, by omega, Classical.not_not.1 h2, Classical.not_not.1 h3, by omega, by omega⟩
theorem Qpq {l : List Ty} {r : Int} (h : Qu l r = 0) : l.length ≤ 8 := by
  unfold Qu at h
  split at h
  · cases h
  · omega
theorem orC_z {a b : Int} (h : orC a b = 0) : a = 0 ∧ b = 0 := by
  unfold orC at h
  split at h
  · rename_i h1; exact absurd h h1
  · rename_i h1; exact ⟨Classical.not_not.1 h1, h⟩
theorem Qgm {r : Int} : ∀ {l : List Ty}, Q2G r l = 0 → ∀ t ∈ l, t.fault r = 0
  | [], _, t, ht => by cases ht
  | x :: l, h, t, ht => by
    rw [Q2G] at h
    obtain ⟨h1, h2⟩ := orC_z h
    rcases List.mem_cons.1 ht with rfl | ht
    · exact h1
    · exact Qgm h2 t ht
theorem Qen {l : List Ty} {r : Int} (h : Qu l r = 0) : ∀ t ∈ l, t.fault r = 0 := by
  unfold Qu at h
  split at h
  · cases h
  · exact Qgm h
/-! ### What is renamed is short -/
theorem Ty.ren_short : ∀ (t : Ty) {to : List Int} {u : Ty}, t.Short → t.ren to = some u → u.Short := by
  intro t
  induction t using Ty.ind with
  | h k r l ih =>
    intro to u hs h
    obtain ⟨hl, hp⟩ := hs.parts
    rw [Ty.ren] at h
    split at h
    · cases h
    · split at h
      · cases h
      · rename_i m hm
        cases h
        have key : ∀ (l : List Ty) (m : List Ty), (∀ x ∈ l, x.Short ∧ ∀ {u : Ty}, x.Short → x.ren to = some u → u.Short) → Tys.ren l to = some m → m.length = l.length ∧ ∀ y ∈ m, y.Short := by
          intro l
          induction l with
          | nil => intro m _ h; rw [Tys.ren] at h; cases h; exact ⟨rfl, by simp⟩
          | cons x l ihl =>
            intro m hx h
            rw [Tys.ren] at h
            cases h1 : x.ren to with
            | none => rw [h1] at h; cases h
            | some y =>
              rw [h1] at h
              cases h2 : Tys.ren l to with
              | none => rw [h2] at h; cases h
              | some m2 =>
                rw [h2] at h
                simp only [Option.some.injEq] at h
                subst h
                obtain ⟨h3, h4⟩ := ihl m2 (fun z hz => hx z (List.mem_cons_of_mem _ hz)) h2
                refine ⟨by simp [h3], fun z hz => ?_⟩
                rcases List.mem_cons.1 hz with rfl | hz
                · obtain ⟨h5, h6⟩ := hx x (List.mem_cons_self ..); exact h6 h5 h1
                · exact h4 z hz
        obtain ⟨h3, h4⟩ := key l m (fun x hx => ⟨hp x hx, fun hs h => ih x hx hs h⟩) hm
        exact .mk (by omega) h4
theorem Ty.Short.part {t : Ty} (h : t.Short) : ∀ u ∈ t.l, u.Short := by
  obtain ⟨k, r, l⟩ := t
  exact h.parts.2
theorem QtD {t : Ty} {to : List Int} (h : t.Short) : (renT to t).Short := by
  unfold renT
  cases hn : t.ren to with
  | none => exact .mk (by decide) (by simp)
  | some u => exact Ty.ren_short t h hn
/-! ### What stays so -/
structure JGood (s : JS) : Prop where
  n : s.l.length ≤ 80
  h : s.h.length ≤ 16
  s : ∀ t ∈ s.l, t.Short
theorem JGood.get {s : JS} (hg : JGood s) {k : Int} {t : Ty} (h : jval s k = .ok t) : t.Short := hg.s t (List.mem_of_getElem? (QrQ h).2)
theorem JGood.put {s s' : JS} {t : Ty} (hg : JGood s) (ht : t.Short) (h : jput s t = .ok s') : JGood s' := by
  obtain ⟨h1, h2, h3⟩ := QrT h
  refine ⟨by rw [h3, List.length_append]; have := hg.n; simp only [List.length_cons, List.length_nil]; omega, by rw [h2]; exact hg.h, fun u hu => ?_⟩
  rw [h3] at hu
  rcases List.mem_append.1 hu with hu | hu
  · exact hg.s u hu
  · simp at hu; subst hu; exact ht
theorem QgR {k r : Int} : (Ty.mk k r []).Short := .mk (by decide) (by simp)
theorem Q60 {s : JS} (hg : JGood s) : ∀ {l : List Int} {ts : List Ty}, jfields s l = .ok ts → ts.length = l.length ∧ ∀ t ∈ ts, t.Short
  | [], ts, h => by rw [jfields] at h; cases h; exact ⟨rfl, by simp⟩
  | k :: l, ts, h => by
    rw [jfields] at h
    obtain ⟨t, h1, h⟩ := Qh h
    obtain ⟨us, h2, h⟩ := Qh h
    cases h
    obtain ⟨h3, h4⟩ := Q60 hg h2
    refine ⟨by simp [h3], fun u hu => ?_⟩
    rcases List.mem_cons.1 hu with rfl | hu
    · exact hg.get h1
    · exact h4 u hu
theorem jat_val {s : JS} {k kd : Int} {t : Ty} (h : jat s k kd = .ok t) : jval s k = .ok t := by have := Qer h; exact Q44 this.1 this.2.1
theorem QpZ {t u : Ty} {k : Int} (h : Q35 t k = .ok u) : t.l[k.toNat]? = some u := by
  unfold Q35 at h
  split at h
  · cases h
  · rename_i v hv; cases h; exact hv
theorem Qv8 {m : Module} {f : Fun} {s s' : JS} {x : Ins} (hm : m.Short) (hg : JGood s) (hF : QF m.funcs.length x = 0) (h : jins m f s x = .ok s') : JGood s' := by
  have hop := Q4D hF
  have hst := Qv7 hop h
  have hn : s'.l.length ≤ 80 := hst.len hg.n
  by_cases h3 : x.op = 3
  · rw [QpV h3] at h
    split at h
    · cases h
    · rename_i hc
      cases h
      refine ⟨hn, by have := hg.h; simp only [List.length_append, List.length_cons, List.length_nil]; omega, fun u hu => ?_⟩
      rcases List.mem_append.1 hu with hu | hu
      · exact hg.s u hu
      · simp at hu; subst hu; exact QgR
  by_cases h4 : x.op = 4
  · rw [Qmh h4] at h
    obtain ⟨t, h1, h⟩ := Qh h
    split at h
    · cases h
    · cases h; exact ⟨hn, by rw [List.length_set]; exact hg.h, hg.s⟩
  rcases op_cases (op := x.op) (by omega) (by omega) with e | e | e | e | e | e | e | e | e | e | e | e | e | e
  · rw [Qeq (by omega)] at h; exact hg.put QgR h
  · rw [Qhf (by omega)] at h; obtain ⟨_, _, h⟩ := Qh h; obtain ⟨_, _, h⟩ := Qh h; exact hg.put QgR h
  · exact absurd e h3
  · exact absurd e h4
  · rw [QpU (by omega)] at h
    unfold Q7s at h
    obtain ⟨t, _, h⟩ := Qh h; obtain ⟨ts, h2, h⟩ := Qh h
    split at h
    · cases h
    · obtain ⟨h5, h6⟩ := Q60 hg h2
      have hal : x.args.length ≤ 8 := by
        unfold QF Q1R at hF
        simp [e] at hF; omega
      exact hg.put (.mk (by omega) h6) h
  · rw [Qhe (by omega)] at h; obtain ⟨t, h1, h⟩ := Qh h; obtain ⟨u, h2, h⟩ := Qh h
    exact hg.put (Ty.Short.part (hg.get (jat_val h1)) u (List.mem_of_getElem? (QpZ h2))) h
  · rw [Q3c (by omega)] at h; obtain ⟨_, _, h⟩ := Qh h; obtain ⟨_, _, h⟩ := Qh h; obtain ⟨_, _, h⟩ := Qh h
    split at h
    · cases h
    · cases h; exact hg
  · rw [Qhd (by omega)] at h; obtain ⟨_, _, h⟩ := Qh h; obtain ⟨_, _, h⟩ := Qh h; exact hg.put QgR h
  · rw [Qhc (by omega)] at h; obtain ⟨_, _, h⟩ := Qh h; obtain ⟨_, _, h⟩ := Qh h; exact hg.put QgR h
  · rw [Q8P (by omega)] at h; obtain ⟨_, _, h⟩ := Qh h; obtain ⟨_, _, h⟩ := Qh h; obtain ⟨_, _, h⟩ := Qh h; cases h; exact hg
  · rw [Qbo (by omega)] at h; obtain ⟨_, _, h⟩ := Qh h; exact hg.put QgR h
  · rw [Qeq (by omega)] at h; exact hg.put QgR h
  · rw [Qhh (by omega)] at h; obtain ⟨_, _, h⟩ := Qh h; cases h; exact hg
  · rw [Qhg (by omega)] at h
    unfold QeI at h
    split at h
    · cases h
    · rename_i g hgf
      split at h
      · cases h
      · obtain ⟨_, _, h⟩ := Qh h; obtain ⟨_, _, h⟩ := Qh h
        split at h
        · cases h
        · cases h
          refine ⟨hn, hg.h, fun u hu => ?_⟩
          rcases List.mem_append.1 hu with hu | hu
          · exact hg.s u hu
          · obtain ⟨t, ht, rfl⟩ := List.mem_map.1 hu
            exact QtD ((hm.2 g (List.mem_of_getElem? hgf)).2.1.2 t ht)
theorem QrV {m : Module} (hm : m.Short) (hF : m.fault.1 = 0) {f b : Nat} {x : Fun} {y : Block} (hx : m.funcs[f]? = some x) (hy : x.blocks[b]? = some y) : JGood (Q62 y) := by
  have h1 := Q99 (Q8T hF hx hy).1
  have h2 := Qpq h1.2.2.1
  refine ⟨by unfold Q62; simp only; omega, by unfold Q62; simp only [List.length_replicate]; omega, ?_⟩
  exact ((hm.2 x (List.mem_of_getElem? hx)).2.2.2 y (List.mem_of_getElem? hy)).1.2
/-! ### What was freed -/
theorem QpS {h : List Bool} : ∀ {l p : List Int}, Q2I h p l = .ok () → ∀ r ∈ l, hasB h r = true
  | [], _, _, r, hr => by cases hr
  | x :: l, p, hd, r, hr => by
    rw [Q2I] at hd
    split at hd
    · cases hd
    · rename_i h1
      split at hd
      · cases hd
      · rcases List.mem_cons.1 hr with rfl | hr
        · simpa using h1
        · exact QpS hd r hr
theorem jat_gone {s : JS} {k kd : Int} {t : Ty} (h0 : 0 ≤ k) (h : s.l[k.toNat]? = some t) (hk : t.kind = kd) (hh : hasB s.h t.r = false) : jat s k kd = .error 10 := by
  unfold jat jkind
  rw [Q9 (Q44 h0 h), if_neg (fun h => h hk), Q9 rfl, if_pos hh]
/-! ### What is held, as a list -/
end Go.Lir
namespace Go.Lir
set_option linter.unusedVariables false
def QL {α : Type} (x : Except Int α) : Int := match x with
  | .error c => c
  | .ok _ => 0
theorem Qgg {α : Type} {x : Except Int α} (hn : NZ x) (h : QL x = 0) : ∃ a, x = .ok a := by
  cases x with
  | error c => exact absurd h (hn c rfl)
  | ok a => exact ⟨a, rfl⟩
section
variable {α : Type} {x : Except Int α} {v : Value}
theorem Q2z {c : Int} {p : α → Prop} (h : x = .error c) : ∀ a, x = .ok a → p a := fun a ha => by rw [h] at ha; cases ha
theorem Q1g {b : α} {p : α → Prop} (h : x = .ok b) (hp : p b) : ∀ a, x = .ok a → p a := fun a ha => by rw [h] at ha; cases ha; exact hp
theorem Q6b {b : α} {p : α → Prop} (h : ∀ a, x = .ok a → a = b) (hp : p b) : ∀ a, x = .ok a → p a := fun a ha => by rw [h a ha]; exact hp
theorem cd_e {c : Int} (h : x = .error c) : (Value.tuple #[v, .int .i64 c]) = .tuple #[v, .int .i64 (QL x)] := by rw [h]; rfl
theorem cd_o {b : α} (h : x = .ok b) : (Value.tuple #[v, .int .i64 0]) = .tuple #[v, .int .i64 (QL x)] := by rw [h]; rfl
theorem cd_w {b : α} {c : Int} (h : x = .ok b) (hc : c = 0) : (Value.tuple #[v, .int .i64 c]) = .tuple #[v, .int .i64 (QL x)] := by rw [h, hc]; rfl
theorem cd_c {c : Int} (h : QL x = c) : (Value.tuple #[v, .int .i64 c]) = .tuple #[v, .int .i64 (QL x)] := by rw [h]
end
def Q1b (s : JS) (k kd : Int) (held : Bool) : Int := QL (if held then jat s k kd else jkind s k kd)
section
variable {s : JS} {k kd : Int} {held : Bool} {t : Ty}
theorem Qt5 (h : k < 0 ∨ (s.l.length : Int) ≤ k) : Q1b s k kd held = 1 := by
  unfold Q1b
  cases held
  · simp only [Bool.false_eq_true, if_false, jkind, Qt (Q5R h)]; rfl
  · simp only [if_true, jat, jkind, Qt (Q5R h)]; rfl
theorem Qua (h0 : 0 ≤ k) (ht : s.l[k.toNat]? = some t) (hk : t.kind ≠ kd) : Q1b s k kd held = 9 := by
  have h1 : jkind s k kd = .error 9 := by unfold jkind; rw [Q9 (Q44 h0 ht)]; exact if_pos hk
  unfold Q1b
  cases held
  · simp only [Bool.false_eq_true, if_false, h1]; rfl
  · simp only [if_true, jat, Qt h1]; rfl
theorem Qub (h0 : 0 ≤ k) (ht : s.l[k.toNat]? = some t) (hk : t.kind = kd) (hh : hasB s.h t.r = false) : Q1b s k kd true = 10 := by
  unfold Q1b; simp only [if_true, jat_gone h0 ht hk hh]; rfl
theorem QpT (h0 : 0 ≤ k) (ht : s.l[k.toNat]? = some t) (hk : t.kind = kd) : jkind s k kd = .ok t := by
  unfold jkind; rw [Q9 (Q44 h0 ht)]; exact if_neg (fun h => h hk)
theorem jat_yes (h0 : 0 ≤ k) (ht : s.l[k.toNat]? = some t) (hk : t.kind = kd) (hh : hasB s.h t.r = true) : jat s k kd = .ok t := by
  unfold jat; rw [Q9 (QpT h0 ht hk)]; exact if_neg (by rw [hh]; decide)
theorem want_0 (h0 : 0 ≤ k) (ht : s.l[k.toNat]? = some t) (hk : t.kind = kd) (hh : held = true → hasB s.h t.r = true) : Q1b s k kd held = 0 := by
  unfold Q1b
  cases held
  · simp only [Bool.false_eq_true, if_false, QpT h0 ht hk]; rfl
  · simp only [if_true, jat_yes h0 ht hk (hh rfl)]; rfl
theorem want_at (h : Q1b s k kd true = 0) : ∃ t, jat s k kd = .ok t := Qgg (Qhj s k kd) (by unfold Q1b at h; simpa using h)
theorem Qu9 (h : Q1b s k kd false = 0) : ∃ t, jkind s k kd = .ok t := Qgg (Q3j s k kd) (by unfold Q1b at h; simpa using h)
theorem Qgk (h : Q1b s k kd true ≠ 0) : jat s k kd = .error (Q1b s k kd true) := by
  unfold Q1b at h ⊢
  simp only [if_true] at h ⊢
  cases hj : jat s k kd with
  | error c => rfl
  | ok a => rw [hj] at h; exact absurd rfl h
theorem Qrt (h : Q1b s k kd false ≠ 0) : jkind s k kd = .error (Q1b s k kd false) := by
  unfold Q1b at h ⊢
  simp only [Bool.false_eq_true, if_false] at h ⊢
  cases hj : jkind s k kd with
  | error c => rfl
  | ok a => rw [hj] at h; exact absurd rfl h
end
def Q1Z : List Int → Int
  | [] => 0
  | x :: l => if x ≠ 0 then x else Q1Z l
/-- What a call makes. -/
def QuS (m : Module) (s : JS) (x : Ins) : Except Int (List Ty) := match m.funcs[x.k.toNat]? with
  | none => .error 1
  | some g => if (x.regs.length : Int) ≠ g.regs then .error 2 else ebind (Q2I s.h [] x.regs) fun _ => ebind (Q61 s x.args g.params x.regs) fun _ => .ok (g.results.map (renT x.regs))
/-- What an instruction makes. -/
def rmk (m : Module) (f : Fun) (s : JS) (x : Ins) : Except Int (List Ty) :=
  if x.op = 1 ∨ x.op = 12 then (.ok [number])
  else if x.op = 2 then (ebind (jkind s x.a 1) fun _ => ebind (jkind s x.b 1) fun _ => .ok [number])
  else if x.op = 3 then (if s.h.length = 16 then .error 2 else .ok [.mk 2 s.h.length []])
  else if x.op = 4 then (ebind (jat s x.a 2) fun t => if t.r < f.regs then .error 11 else .ok [])
  else if x.op = 5 then (ebind (jat s x.a 2) fun t => ebind (jfields s x.args) fun ts => if 4 < (Ty.mk 3 t.r ts).depth 4 then .error 19 else .ok [.mk 3 t.r ts])
  else if x.op = 6 then (ebind (jat s x.a 3) fun t => ebind (Q35 t x.k) fun u => .ok [u])
  else if x.op = 7 then (ebind (jat s x.a 3) fun t => ebind (Q35 t x.k) fun u => ebind (jval s x.b) fun v => if u ≠ v then .error 9 else .ok [])
  else if x.op = 8 then (ebind (jat s x.a 2) fun t => ebind (jkind s x.b 1) fun _ => .ok [.mk 4 t.r []])
  else if x.op = 9 then (ebind (jat s x.a 4) fun _ => ebind (jkind s x.b 1) fun _ => .ok [number])
  else if x.op = 10 then (ebind (jat s x.a 4) fun _ => ebind (jkind s x.b 1) fun _ => ebind (jkind s x.c 1) fun _ => .ok [])
  else if x.op = 11 then (ebind (jat s x.a 4) fun _ => .ok [number])
  else if x.op = 13 then (ebind (jkind s x.a 1) fun _ => .ok [])
  else QuS m s x
section
variable {m : Module} {f : Fun} {s : JS} {x : Ins}
theorem rmk_1 (h : x.op = 1 ∨ x.op = 12) : rmk m f s x = (.ok [number]) := by
  unfold rmk; rw [if_pos (by omega)]
theorem rmk_2 (h : x.op = 2) : rmk m f s x = (ebind (jkind s x.a 1) fun _ => ebind (jkind s x.b 1) fun _ => .ok [number]) := by
  unfold rmk; rw [if_neg (by omega), if_pos (by omega)]
theorem rmk_3 (h : x.op = 3) : rmk m f s x = (if s.h.length = 16 then .error 2 else .ok [.mk 2 s.h.length []]) := by
  unfold rmk; rw [if_neg (by omega), if_neg (by omega), if_pos (by omega)]
theorem QrE (h : x.op = 4) : rmk m f s x = (ebind (jat s x.a 2) fun t => if t.r < f.regs then .error 11 else .ok []) := by
  unfold rmk; rw [if_neg (by omega), if_neg (by omega), if_neg (by omega), if_pos (by omega)]
theorem QuI (h : x.op = 5) : rmk m f s x = (ebind (jat s x.a 2) fun t => ebind (jfields s x.args) fun ts => if 4 < (Ty.mk 3 t.r ts).depth 4 then .error 19 else .ok [.mk 3 t.r ts]) := by
  unfold rmk; rw [if_neg (by omega), if_neg (by omega), if_neg (by omega), if_neg (by omega), if_pos (by omega)]
theorem rmk_6 (h : x.op = 6) : rmk m f s x = (ebind (jat s x.a 3) fun t => ebind (Q35 t x.k) fun u => .ok [u]) := by
  unfold rmk; rw [if_neg (by omega), if_neg (by omega), if_neg (by omega), if_neg (by omega), if_neg (by omega), if_pos (by omega)]
theorem QtC (h : x.op = 7) : rmk m f s x = (ebind (jat s x.a 3) fun t => ebind (Q35 t x.k) fun u => ebind (jval s x.b) fun v => if u ≠ v then .error 9 else .ok []) := by
  unfold rmk; rw [if_neg (by omega), if_neg (by omega), if_neg (by omega), if_neg (by omega), if_neg (by omega), if_neg (by omega), if_pos (by omega)]
theorem rmk_8 (h : x.op = 8) : rmk m f s x = (ebind (jat s x.a 2) fun t => ebind (jkind s x.b 1) fun _ => .ok [.mk 4 t.r []]) := by
  unfold rmk; rw [if_neg (by omega), if_neg (by omega), if_neg (by omega), if_neg (by omega), if_neg (by omega), if_neg (by omega), if_neg (by omega), if_pos (by omega)]
theorem rmk_9 (h : x.op = 9) : rmk m f s x = (ebind (jat s x.a 4) fun _ => ebind (jkind s x.b 1) fun _ => .ok [number]) := by
  unfold rmk; rw [if_neg (by omega), if_neg (by omega), if_neg (by omega), if_neg (by omega), if_neg (by omega), if_neg (by omega), if_neg (by omega), if_neg (by omega), if_pos (by omega)]
theorem QuL (h : x.op = 10) : rmk m f s x = (ebind (jat s x.a 4) fun _ => ebind (jkind s x.b 1) fun _ => ebind (jkind s x.c 1) fun _ => .ok []) := by
  unfold rmk; rw [if_neg (by omega), if_neg (by omega), if_neg (by omega), if_neg (by omega), if_neg (by omega), if_neg (by omega), if_neg (by omega), if_neg (by omega), if_neg (by omega), if_pos (by omega)]
theorem QuK (h : x.op = 11) : rmk m f s x = (ebind (jat s x.a 4) fun _ => .ok [number]) := by
  unfold rmk; rw [if_neg (by omega), if_neg (by omega), if_neg (by omega), if_neg (by omega), if_neg (by omega), if_neg (by omega), if_neg (by omega), if_neg (by omega), if_neg (by omega), if_neg (by omega), if_pos (by omega)]
theorem QuJ (h : x.op = 13) : rmk m f s x = (ebind (jkind s x.a 1) fun _ => .ok []) := by
  unfold rmk; rw [if_neg (by omega), if_neg (by omega), if_neg (by omega), if_neg (by omega), if_neg (by omega), if_neg (by omega), if_neg (by omega), if_neg (by omega), if_neg (by omega), if_neg (by omega), if_neg (by omega), if_pos (by omega)]
theorem rmk_14 (h : x.op = 14) : rmk m f s x = (QuS m s x) := by
  unfold rmk; rw [if_neg (by omega), if_neg (by omega), if_neg (by omega), if_neg (by omega), if_neg (by omega), if_neg (by omega), if_neg (by omega), if_neg (by omega), if_neg (by omega), if_neg (by omega), if_neg (by omega), if_neg (by omega)]
end
section
variable {α β γ δ : Type} {x : Except Int α} {y : Except Int β} {z : Except Int γ}
theorem Qai {c : Int} {l : List Int} (h : c ≠ 0) : Q1Z (c :: l) = c := if_pos h
theorem Qtm (l : List Int) : Q1Z (0 :: l) = Q1Z l := if_neg (fun h => h rfl)
theorem Qto (hx : NZ x) (h : Q1Z [QL x, QL y] ≠ 0) (g : α → β → Except Int δ) : ebind x (fun a => ebind y (g a)) = .error (Q1Z [QL x, QL y]) := by
  cases x with
  | error c => rw [show QL (.error c : Except Int α) = c from rfl, Qai (hx c rfl)]; rfl
  | ok a =>
    rw [show QL (.ok a : Except Int α) = 0 from rfl, Qtm] at h ⊢
    cases y with
    | error c =>
      rw [show QL (.error c : Except Int β) = c from rfl] at h ⊢
      by_cases hc : c = 0
      · subst hc; exact absurd rfl h
      · rw [Qai hc]; rfl
    | ok b => exact absurd rfl h
theorem Qtn (hx : NZ x) (hy : NZ y) (h : Q1Z [QL x, QL y] = 0) : ∃ a b, x = .ok a ∧ y = .ok b := by
  cases x with
  | error c => rw [show QL (.error c : Except Int α) = c from rfl, Qai (hx c rfl)] at h; exact absurd h (hx c rfl)
  | ok a =>
    rw [show QL (.ok a : Except Int α) = 0 from rfl, Qtm] at h
    cases y with
    | error c => rw [show QL (.error c : Except Int β) = c from rfl, Qai (hy c rfl)] at h; exact absurd h (hy c rfl)
    | ok b => exact ⟨a, b, rfl, rfl⟩
theorem Qn7 (hx : NZ x) (hy : NZ y) (d : δ) : QL (ebind x fun _ => ebind y fun _ => (.ok d : Except Int δ)) = Q1Z [QL x, QL y] := by
  by_cases h : Q1Z [QL x, QL y] = 0
  · obtain ⟨a, b, h1, h2⟩ := Qtn hx hy h
    rw [h, Q9 h1, Q9 h2]; rfl
  · rw [Qto hx h]; rfl
theorem first3_c (hx : NZ x) (hy : NZ y) (hz : NZ z) (d : δ) : QL (ebind x fun _ => ebind y fun _ => ebind z fun _ => (.ok d : Except Int δ)) = Q1Z [QL x, QL y, QL z] := by
  cases x with
  | error c => rw [show QL (.error c : Except Int α) = c from rfl, Qai (hx c rfl)]; rfl
  | ok a =>
    have : Q1Z [QL (.ok a : Except Int α), QL y, QL z] = Q1Z [QL y, QL z] := rfl
    rw [this, ← Qn7 hy hz d]; rfl
theorem ok1 {x : Except Int α} {f : α → Except Int β} {b : β} (h : ebind x f = .ok b) {p : Prop} (hp : ∀ a, f a = .ok b → p) : p := by
  obtain ⟨a, _, h2⟩ := Qh h; exact hp a h2
end
section
variable {s : JS} {k kd : Int}
theorem QaO : Q1b s k kd true = QL (jat s k kd) := rfl
theorem Q4P : Q1b s k kd false = QL (jkind s k kd) := rfl
end
section
variable {s : JS} {k kd : Int} {m : Module} {f : Fun} {x : Ins}
theorem Qmw (h : Q1b s k kd true = 0) : ∃ t, 0 ≤ k ∧ k < s.l.length ∧ s.l[k.toNat]? = some t ∧ t.kind = kd ∧ hasB s.h t.r = true ∧ jat s k kd = .ok t := by
  obtain ⟨t, ht⟩ := want_at h
  obtain ⟨h1, h2, h3, h4⟩ := Qer ht
  have := (List.getElem?_eq_some_iff.1 h2).1
  exact ⟨t, h1, by omega, h2, h3, h4, ht⟩
theorem Qgh {α : Type} {y : Except Int α} (h : QL y ≠ 0) : y = .error (QL y) := by
  cases y with
  | error c => rfl
  | ok a => exact absurd rfl h
theorem Qnx {y : Except Int Unit} (hn : NZ y) (h : QL y = 0) : y = .ok () := by
  obtain ⟨_, h⟩ := Qgg hn h; exact h
theorem rmk_67e {c : Int} (h : x.op = 6 ∨ x.op = 7) (hj : jat s x.a 3 = .error c) : rmk m f s x = .error c := by
  rcases h with h | h
  · rw [rmk_6 h, Qt hj]
  · rw [QtC h, Qt hj]
theorem rmk_67f {t : Ty} (h : x.op = 6 ∨ x.op = 7) (hj : jat s x.a 3 = .ok t) (hf : t.l[x.k.toNat]? = none) : rmk m f s x = .error 9 := by
  have h1 : Q35 t x.k = .error 9 := by unfold Q35; rw [hf]
  rcases h with h | h
  · rw [rmk_6 h, Q9 hj, Qt h1]
  · rw [QtC h, Q9 hj, Qt h1]
theorem QtM {t u : Ty} {k : Int} (h : t.l[k.toNat]? = some u) : Q35 t k = .ok u := by unfold Q35; rw [h]
theorem rcall_k {g : Fun} (h : x.op = 14) (hg : m.funcs[x.k.toNat]? = some g) : rmk m f s x = (if (x.regs.length : Int) ≠ g.regs then .error 2 else ebind (Q2I s.h [] x.regs) fun _ => ebind (Q61 s x.args g.params x.regs) fun _ => .ok (g.results.map (renT x.regs))) := by
  rw [rmk_14 h]; unfold QuS; rw [hg]
end
theorem Qes {n : Nat} {x : Ins} (hF : QF n x = 0) (e : x.op = 5) : x.args.length ≤ 8 := by
  unfold QF Q1R at hF
  simp [e] at hF; omega
end Go.Lir
namespace Go.Lir
set_option linter.unusedVariables false
theorem Tys.wrong_all {n : Int} {fields : Nat} : ∀ {l : List Ty}, Tys.wrong fields l n = 0 ↔ ∀ t ∈ l, t.wrong fields n = 0
  | [] => by simp [Tys.wrong]
  | x :: l => by
    rw [Tys.wrong]
    constructor
    · intro h
      split at h
      · rename_i h1; exact absurd h h1
      · rename_i h1
        intro t ht
        rcases List.mem_cons.1 ht with rfl | ht
        · exact Classical.not_not.1 h1
        · exact Tys.wrong_all.1 h t ht
    · intro h
      rw [if_neg (fun hn => hn (h x (List.mem_cons_self ..)))]
      exact Tys.wrong_all.2 fun t ht => h t (List.mem_cons_of_mem _ ht)
theorem Ty.wrong_iff {k r n : Int} {l : List Ty} {fields : Nat} : (Ty.mk k r l).wrong fields n = 0 ↔ (1 ≤ k ∧ k ≤ 4) ∧ (k = 1 → r = 0) ∧ (k ≠ 3 → l.length = 0) ∧ l.length ≤ fields ∧ (k ≠ 1 → 0 ≤ r ∧ r < n) ∧ ∀ t ∈ l, t.wrong fields n = 0 := by
  rw [Ty.wrong]
  constructor
  · intro h
    split at h
    · cases h
    · rename_i h1
      split at h
      · cases h
      · rename_i h2
        split at h
        · cases h
        · rename_i h3
          split at h
          · cases h
          · exact ⟨by omega, by omega, by omega, by omega, by omega, Tys.wrong_all.1 h⟩
  · rintro ⟨h1, h2, h3, h4, h5, h6⟩
    rw [if_neg (by omega), if_neg (by omega), if_neg (by omega), if_neg (by omega)]
    exact Tys.wrong_all.2 h6
theorem Ty.wrong_up {fields : Nat} {n n' : Int} (hn : n ≤ n') : ∀ t : Ty, t.wrong fields n = 0 → t.wrong fields n' = 0 := by
  intro t
  induction t using Ty.ind with
  | h k r l ih =>
    intro h
    obtain ⟨h1, h2, h3, h4, h5, h6⟩ := Ty.wrong_iff.1 h
    exact Ty.wrong_iff.2 ⟨h1, h2, h3, h4, fun hk => by have := h5 hk; omega, fun t ht => ih t ht (h6 t ht)⟩
mutual
/-- What is renamed to numbers below n is right below n. -/
theorem Ty.ren_right {fields : Nat} {f : List Int} {n : Int} (hf : ∀ i : Nat, i < f.length → 0 ≤ f.getD i 0 ∧ f.getD i 0 < n) : ∀ (t : Ty), t.wrong fields f.length = 0 → ∃ u, t.ren f = some u ∧ u.wrong fields n = 0
  | .mk k r l, ht => by
    obtain ⟨h1, h2, h3, h4, h5, h6⟩ := Ty.wrong_iff.1 ht
    obtain ⟨m, hm, hml, hmw⟩ := Tys.ren_right hf l h6
    have hr : k ≠ 1 → 0 ≤ f.getD r.toNat 0 ∧ f.getD r.toNat 0 < n := fun hk => hf r.toNat (by have := h5 hk; omega)
    refine ⟨.mk k (if k ≠ 1 then f.getD r.toNat 0 else r) m, ?_, ?_⟩
    · rw [Ty.ren, if_neg (by rintro ⟨hk, hb⟩; have := h5 hk; have := hr hk; omega), hm]
    · refine Ty.wrong_iff.2 ⟨h1, fun hk => by rw [if_neg (by omega)]; exact h2 hk, fun hk => by rw [hml]; exact h3 hk, by omega, fun hk => by rw [if_pos hk]; exact hr hk, hmw⟩
theorem Tys.ren_right {fields : Nat} {f : List Int} {n : Int} (hf : ∀ i : Nat, i < f.length → 0 ≤ f.getD i 0 ∧ f.getD i 0 < n) : ∀ (l : List Ty), (∀ t ∈ l, t.wrong fields f.length = 0) → ∃ m, Tys.ren l f = some m ∧ m.length = l.length ∧ ∀ u ∈ m, u.wrong fields n = 0
  | [], _ => ⟨[], by rw [Tys.ren], rfl, by simp⟩
  | x :: l, h => by
    obtain ⟨y, h1, h2⟩ := Ty.ren_right hf x (h x (List.mem_cons_self ..))
    obtain ⟨m, h3, h4, h5⟩ := Tys.ren_right hf l (fun t ht => h t (List.mem_cons_of_mem _ ht))
    refine ⟨y :: m, by rw [Tys.ren, h1, h3], by simp [h4], fun u hu => ?_⟩
    rcases List.mem_cons.1 hu with rfl | hu
    · exact h2
    · exact h5 u hu
end
/-- What stays true of what is known. -/
structure JInv (m : Module) (f : Fun) (z : JS) : Prop extends JGood z where
  wf : ∀ t ∈ z.l, t.wrong 8 z.h.length = 0
  keep : ∀ r : Int, 0 ≤ r → r < f.regs → hasB z.h r = true
theorem Qgf {h : List Bool} {r : Int} (hr : hasB h r = true) : 0 ≤ r ∧ r < h.length := by have := Q6t hr; omega
theorem Ty.fault_wrong {t : Ty} {n : Int} (h : t.fault n = 0) : t.wrong 8 n = 0 := by
  unfold Ty.fault at h
  split at h
  · cases h
  · exact h
theorem Qmi {s : JS} {n : Int} (hw : ∀ t ∈ s.l, t.wrong 8 n = 0) : ∀ {l : List Int} {ts : List Ty}, jfields s l = .ok ts → ∀ t ∈ ts, t.wrong 8 n = 0
  | [], ts, h => by rw [jfields] at h; cases h; simp
  | k :: l, ts, h => by
    rw [jfields] at h
    obtain ⟨t, h1, h⟩ := Qh h
    obtain ⟨us, h2, h⟩ := Qh h
    cases h
    intro u hu
    rcases List.mem_cons.1 hu with rfl | hu
    · exact hw _ (List.mem_of_getElem? (QrQ h1).2)
    · exact Qmi hw h2 u hu
theorem JInv.at {m : Module} {f : Fun} {s : JS} (hg : JInv m f s) {k kd : Int} {t : Ty} (h : jat s k kd = .ok t) : t.wrong 8 s.h.length = 0 ∧ 0 ≤ t.r ∧ t.r < s.h.length ∧ t ∈ s.l := by
  have h1 := Qer h
  have h2 := Qgf h1.2.2.2
  exact ⟨hg.wf _ (List.mem_of_getElem? h1.2.1), h2.1, h2.2, List.mem_of_getElem? h1.2.1⟩
theorem QgO {m : Module} {f : Fun} {s : JS} {x : Ins} {t : Ty} {ts : List Ty} (hF : QF m.funcs.length x = 0) (e : x.op = 5) (hg : JInv m f s) (h1 : jat s x.a 2 = .ok t) (h2 : jfields s x.args = .ok ts) :
    (Ty.mk 3 t.r ts).wrong 8 s.h.length = 0 ∧ ((Ty.mk 3 t.r ts).fault s.h.length ≠ 0 ↔ 4 < (Ty.mk 3 t.r ts).depth 4) := by
  have h3 := hg.at h1
  have h4 := (Q60 hg.toJGood h2).1
  have h5 := Qes hF e
  have hw : (Ty.mk 3 t.r ts).wrong 8 s.h.length = 0 := Ty.wrong_iff.2 ⟨by omega, by omega, by omega, by omega, fun _ => by omega, Qmi hg.wf h2⟩
  refine ⟨hw, ?_⟩
  have hd := Ty.depth_iff (Ty.mk 3 t.r ts) (most := 4) (by omega)
  unfold Ty.fault
  rw [hw]
  constructor
  · intro h
    split at h
    · rename_i hb
      exact Classical.byContradiction fun hn => by rw [hd.1 (by omega)] at hb; cases hb
    · exact absurd rfl h
  · intro h
    rw [if_pos]
    · decide
    · cases hb : (Ty.mk 3 t.r ts).deepB 4 with
      | false => rfl
      | true => have := hd.2 hb; omega
/-- What comes behind what an instruction makes. -/
def vAdd (s : JS) (x : Ins) (ts : List Ty) : Except Int JS := if 80 < s.l.length + ts.length then .error 2 else
  .ok ⟨if x.op = 3 then s.h ++ [true] else if x.op = 4 then (match s.l[x.a.toNat]? with | some t => s.h.set t.r.toNat false | none => s.h) else s.h, s.l ++ ts⟩
theorem Q41 {s : JS} {x : Ins} {t : Ty} (hn : s.l.length ≤ 80) (h3 : x.op ≠ 3) (h4 : x.op ≠ 4) : vAdd s x [t] = jput s t := by
  unfold vAdd jput
  rw [if_neg h3, if_neg h4]
  by_cases h : s.l.length = 80
  · rw [if_pos h, if_pos (by simp; omega)]
  · rw [if_neg h, if_neg (by simp; omega)]
theorem Qru {s : JS} {x : Ins} (hn : s.l.length ≤ 80) (h3 : x.op ≠ 3) (h4 : x.op ≠ 4) : vAdd s x [] = .ok s := by
  unfold vAdd
  rw [if_neg h3, if_neg h4, if_neg (by simp; omega), List.append_nil]
theorem QI {α β γ : Type} (x : Except Int α) (f : α → Except Int β) (g : β → Except Int γ) : ebind (ebind x f) g = ebind x fun a => ebind (f a) g := by cases x <;> rfl
theorem QH {α β : Type} {x : Except Int α} {f g : α → Except Int β} (h : ∀ a, x = .ok a → f a = g a) : ebind x f = ebind x g := by
  cases x with
  | error e => rfl
  | ok a => exact h a rfl
theorem jins_rmk {m : Module} {f : Fun} {s : JS} {x : Ins} (hF : QF m.funcs.length x = 0) (hg : JInv m f s) : jins m f s x = ebind (rmk m f s x) (vAdd s x) := by
  have hop := Q4D hF
  have hn := hg.n
  rcases op_cases (op := x.op) (by omega) (by omega) with e | e | e | e | e | e | e | e | e | e | e | e | e | e
  · rw [Qeq (by omega), rmk_1 (by omega), Q9 rfl, Q41 hn (by omega) (by omega)]
  · rw [Qhf e, rmk_2 e, QI]; refine QH fun _ _ => ?_; rw [QI]; refine QH fun _ _ => ?_; rw [Q9 rfl, Q41 hn (by omega) (by omega)]
  · rw [QpV e, rmk_3 e]
    by_cases h : s.h.length = 16
    · rw [if_pos (.inl h), if_pos h, Qt rfl]
    · rw [if_neg h, Q9 rfl]
      unfold vAdd
      rw [if_pos e]
      by_cases h8 : s.l.length = 80
      · rw [if_pos (.inr h8), if_pos (by simp; omega)]
      · rw [if_neg (by omega), if_neg (by simp; omega)]
  · rw [Qmh e, QrE e, QI]
    refine QH fun t ht => ?_
    by_cases h : t.r < f.regs
    · rw [if_pos h, if_pos h, Qt rfl]
    · rw [if_neg h, if_neg h, Q9 rfl]
      unfold vAdd
      rw [if_neg (show ¬ x.op = 3 by omega), if_pos e, if_neg (by simp; omega), (Qer ht).2.1, List.append_nil]
  · rw [QpU e, QuI e, QI]; unfold Q7s
    refine QH fun t ht => ?_
    rw [QI]
    refine QH fun ts hts => ?_
    have := (QgO hF e hg ht hts).2
    by_cases h : 4 < (Ty.mk 3 t.r ts).depth 4
    · rw [if_pos (this.2 h), if_pos h, Qt rfl]
    · rw [if_neg (fun hh => h (this.1 hh)), if_neg h, Q9 rfl, Q41 hn (by omega) (by omega)]
  · rw [Qhe e, rmk_6 e, QI]; refine QH fun _ _ => ?_; rw [QI]; refine QH fun _ _ => ?_; rw [Q9 rfl, Q41 hn (by omega) (by omega)]
  · rw [Q3c e, QtC e, QI]; refine QH fun _ _ => ?_; rw [QI]; refine QH fun u _ => ?_; rw [QI]; refine QH fun v _ => ?_
    by_cases h : u ≠ v
    · rw [if_pos h, if_pos h, Qt rfl]
    · rw [if_neg h, if_neg h, Q9 rfl, Qru hn (by omega) (by omega)]
  · rw [Qhd e, rmk_8 e, QI]; refine QH fun _ _ => ?_; rw [QI]; refine QH fun _ _ => ?_; rw [Q9 rfl, Q41 hn (by omega) (by omega)]
  · rw [Qhc e, rmk_9 e, QI]; refine QH fun _ _ => ?_; rw [QI]; refine QH fun _ _ => ?_; rw [Q9 rfl, Q41 hn (by omega) (by omega)]
  · rw [Q8P e, QuL e, QI]; refine QH fun _ _ => ?_; rw [QI]; refine QH fun _ _ => ?_; rw [QI]; refine QH fun _ _ => ?_; rw [Q9 rfl, Qru hn (by omega) (by omega)]
  · rw [Qbo e, QuK e, QI]; refine QH fun _ _ => ?_; rw [Q9 rfl, Q41 hn (by omega) (by omega)]
  · rw [Qeq (by omega), rmk_1 (by omega), Q9 rfl, Q41 hn (by omega) (by omega)]
  · rw [Qhh e, QuJ e, QI]; refine QH fun _ _ => ?_; rw [Q9 rfl, Qru hn (by omega) (by omega)]
  · rw [Qhg e, rmk_14 e]; unfold QeI QuS
    cases hgf : m.funcs[x.k.toNat]? with
    | none => rfl
    | some g =>
      dsimp only
      by_cases hr : (x.regs.length : Int) ≠ g.regs
      · rw [if_pos hr, if_pos hr]; rfl
      · rw [if_neg hr, if_neg hr, QI]; refine QH fun _ _ => ?_; rw [QI]; refine QH fun _ _ => ?_; rw [Q9 rfl]
        unfold vAdd
        rw [if_neg (show ¬ x.op = 3 by omega), if_neg (show ¬ x.op = 4 by omega), List.length_map]
theorem Q5Z {s s' : JS} {t : Ty} {f : Fun} (hw : ∀ t ∈ s.l, t.wrong 8 s.h.length = 0) (hk : ∀ r : Int, 0 ≤ r → r < f.regs → hasB s.h r = true) (ht : t.wrong 8 s.h.length = 0) (h : jput s t = .ok s') :
    (∀ t ∈ s'.l, t.wrong 8 s'.h.length = 0) ∧ (∀ r : Int, 0 ≤ r → r < f.regs → hasB s'.h r = true) := by
  obtain ⟨h1, h2, h3⟩ := QrT h
  refine ⟨fun u hu => ?_, fun r => by rw [h2]; exact hk r⟩
  rw [h3] at hu
  rw [h2]
  rcases List.mem_append.1 hu with hu | hu
  · exact hw u hu
  · simp at hu; subst hu; exact ht
theorem Qpn (n : Int) : number.wrong 8 n = 0 := by unfold number; exact Ty.wrong_iff.2 ⟨by omega, by omega, by simp, by simp, by omega, by simp⟩
theorem hasB_app {h : List Bool} {r : Int} (hr : hasB h r = true) : hasB (h ++ [true]) r = true := by
  obtain ⟨h1, h2, h3⟩ := Q6t hr
  unfold hasB
  rw [List.getD_eq_getElem?_getD] at h3 ⊢
  rw [List.getElem?_append_left (by omega), h3, List.length_append]
  simp; omega
theorem Qs6 {h : List Bool} {r k : Int} (hr : hasB h r = true) (hk : 0 ≤ k) (hne : k ≠ r) : hasB (h.set k.toNat false) r = true := by
  obtain ⟨h1, h2, h3⟩ := Q6t hr
  unfold hasB
  rw [List.getD_eq_getElem?_getD] at h3 ⊢
  rw [List.getElem?_set_ne (by omega), h3, List.length_set]
  simp; omega
theorem jins_inv {m : Module} {f : Fun} {s s' : JS} {x : Ins} (hM : m.fault.1 = 0) (hm : m.Short) (hg : JInv m f s) (hF : QF m.funcs.length x = 0) (h : jins m f s x = .ok s') : JInv m f s' := by
  have hG := Qv8 hm hg.toJGood hF h
  suffices hh : (∀ t ∈ s'.l, t.wrong 8 s'.h.length = 0) ∧ (∀ r : Int, 0 ≤ r → r < f.regs → hasB s'.h r = true) from ⟨hG, hh.1, hh.2⟩
  have hop := Q4D hF
  have hw := hg.wf
  have hk := hg.keep
  rcases op_cases (op := x.op) (by omega) (by omega) with e | e | e | e | e | e | e | e | e | e | e | e | e | e
  · rw [Qeq (by omega)] at h; exact Q5Z hw hk (Qpn _) h
  · rw [Qhf e] at h; obtain ⟨_, _, h⟩ := Qh h; obtain ⟨_, _, h⟩ := Qh h; exact Q5Z hw hk (Qpn _) h
  · rw [QpV e] at h
    split at h
    · cases h
    · cases h
      refine ⟨fun u hu => ?_, fun r h0 h1 => hasB_app (hk r h0 h1)⟩
      rw [List.length_append]
      rcases List.mem_append.1 hu with hu | hu
      · exact Ty.wrong_up (by simp; omega) u (hw u hu)
      · simp at hu; subst hu
        exact Ty.wrong_iff.2 ⟨by omega, by omega, by simp, by simp, fun _ => by simp; omega, by simp⟩
  · rw [Qmh e] at h
    obtain ⟨t, h1, h⟩ := Qh h
    split at h
    · cases h
    · rename_i hlt
      cases h
      have := hg.at h1
      refine ⟨fun u hu => by rw [List.length_set]; exact hw u hu, fun r h0 h1 => Qs6 (hk r h0 h1) (by omega) (by omega)⟩
  · rw [QpU e] at h; unfold Q7s at h
    obtain ⟨t, h1, h⟩ := Qh h; obtain ⟨ts, h2, h⟩ := Qh h
    split at h
    · cases h
    · exact Q5Z hw hk (QgO hF e hg h1 h2).1 h
  · rw [Qhe e] at h; obtain ⟨t, h1, h9⟩ := Qh h; obtain ⟨u, h2, h8⟩ := Qh h9
    have h3 := (hg.at h1).1
    clear h h9
    obtain ⟨k, r, l⟩ := t
    exact Q5Z hw hk ((Ty.wrong_iff.1 h3).2.2.2.2.2 u (List.mem_of_getElem? (QpZ h2))) h8
  · rw [Q3c e] at h; obtain ⟨_, _, h⟩ := Qh h; obtain ⟨_, _, h⟩ := Qh h; obtain ⟨_, _, h⟩ := Qh h
    split at h
    · cases h
    · cases h; exact ⟨hw, hk⟩
  · rw [Qhd e] at h; obtain ⟨t, h1, h⟩ := Qh h; obtain ⟨_, _, h⟩ := Qh h
    have := hg.at h1
    exact Q5Z hw hk (Ty.wrong_iff.2 ⟨by omega, by omega, by simp, by simp, fun _ => by omega, by simp⟩) h
  · rw [Qhc e] at h; obtain ⟨_, _, h⟩ := Qh h; obtain ⟨_, _, h⟩ := Qh h; exact Q5Z hw hk (Qpn _) h
  · rw [Q8P e] at h; obtain ⟨_, _, h⟩ := Qh h; obtain ⟨_, _, h⟩ := Qh h; obtain ⟨_, _, h⟩ := Qh h; cases h; exact ⟨hw, hk⟩
  · rw [Qbo e] at h; obtain ⟨_, _, h⟩ := Qh h; exact Q5Z hw hk (Qpn _) h
  · rw [Qeq (by omega)] at h; exact Q5Z hw hk (Qpn _) h
  · rw [Qhh e] at h; obtain ⟨_, _, h⟩ := Qh h; cases h; exact ⟨hw, hk⟩
  · rw [Qhg e] at h
    unfold QeI at h
    split at h
    · cases h
    · rename_i g hgf
      split at h
      · cases h
      · rename_i hrl
        obtain ⟨_, h1, h⟩ := Qh h; obtain ⟨_, _, h⟩ := Qh h
        split at h
        · cases h
        · cases h
          refine ⟨fun u hu => ?_, hk⟩
          rcases List.mem_append.1 hu with hu | hu
          · exact hw u hu
          · obtain ⟨t, ht, rfl⟩ := List.mem_map.1 hu
            have h2 := Ty.fault_wrong (Qen (Q8S (Qht hM hgf)).2.2.2.1 t ht)
            have hall := QpS h1
            rw [show g.regs = (x.regs.length : Int) by omega] at h2
            obtain ⟨v, h3, h4⟩ := Ty.ren_right (n := s.h.length) (f := x.regs) (fun i hi => by
              rw [List.getD_eq_getElem?_getD, List.getElem?_eq_getElem hi]
              exact Qgf (hall _ (List.getElem_mem hi))) t h2
            unfold renT
            rw [h3]
            exact h4
theorem jIns_inv {m : Module} {f : Fun} {s : JS} {x : Ins} (hM : m.fault.1 = 0) (hm : m.Short) (hg : JInv m f s) : JInv m f (jIns m f s x).2 := by
  by_cases h : (jIns m f s x).1 = 0
  · obtain ⟨h1, h2⟩ := jIns_ok h; exact jins_inv hM hm hg h1 h2
  · rw [jIns_no h]; exact hg
theorem QtN {m : Module} (hm : m.Short) (hF : m.fault.1 = 0) {f b : Nat} {x : Fun} {y : Block} (hx : m.funcs[f]? = some x) (hy : x.blocks[b]? = some y) : JInv m x (Q62 y) := by
  have h1 := Q99 (Q8T hF hx hy).1
  have h2 := Q8S (Qht hF hx)
  have hl : (Q62 y).h.length = y.regs.toNat := by unfold Q62; simp only [List.length_replicate]; omega
  refine ⟨QrV hm hF hx hy, fun t ht => ?_, fun r h0 hr => ?_⟩
  · rw [hl, Int.toNat_of_nonneg (by omega)]
    exact Ty.fault_wrong (Qen h1.2.2.1 t ht)
  · unfold hasB
    rw [hl]
    unfold Q62
    simp only
    rw [List.getD_eq_getElem?_getD, List.getElem?_replicate, if_pos (by omega)]
    simp; omega
/-! ### What is left held -/
theorem Qml {h : List Bool} : ∀ {n : Nat}, (∀ i : Nat, i < n → h.getD i false = true) → Q1I h n = upTo n
  | 0, _ => by unfold Q1I upTo; rfl
  | n + 1, hk => by
    rw [Q5f, if_pos (hk n (by omega)), Qml (fun i hi => hk i (by omega))]
    unfold upTo
    rw [List.range_succ, List.map_append]; rfl
theorem Qhn {h : List Bool} {n : Nat} : ∀ k : Nat, ∃ mo, Q1I h (n + k) = Q1I h n ++ mo ∧ ∀ r ∈ mo, (n : Int) ≤ r
  | 0 => ⟨[], by simp, by simp⟩
  | k + 1 => by
    obtain ⟨mo, h1, h2⟩ := Qhn (h := h) (n := n) k
    refine ⟨mo ++ (if h.getD (n + k) false = true then [((n + k : Nat) : Int)] else []), ?_, fun r hr => ?_⟩
    · rw [show n + (k + 1) = n + k + 1 by omega, Q5f, h1, List.append_assoc]
    · rcases List.mem_append.1 hr with hr | hr
      · exact h2 r hr
      · split at hr
        · simp at hr; omega
        · cases hr
theorem Qti {m : Module} {f : Fun} {s : JS} (hg : JInv m f s) (hf : 0 ≤ f.regs) : (f.regs < (Q1W s.h).length ↔ ∃ r ∈ Q1W s.h, f.regs ≤ r) := by
  have hle : f.regs ≤ s.h.length := by
    by_cases h : f.regs = 0
    · omega
    · have := Qgf (hg.keep (f.regs - 1) (by omega) (by omega)); omega
  have h1 : Q1I s.h f.regs.toNat = upTo f.regs.toNat := Qml fun i hi => (Q6t (hg.keep i (by omega) (by omega))).2.2
  obtain ⟨mo, h2, h3⟩ := Qhn (h := s.h) (n := f.regs.toNat) (s.h.length - f.regs.toNat)
  rw [show f.regs.toNat + (s.h.length - f.regs.toNat) = s.h.length by omega, h1] at h2
  have hul : (upTo f.regs.toNat).length = f.regs.toNat := by unfold upTo; simp
  unfold Q1W
  rw [h2, List.length_append, hul]
  constructor
  · intro h
    cases mo with
    | nil => simp at h; omega
    | cons r mo => exact ⟨r, by simp, by have := h3 r (by simp); omega⟩
  · rintro ⟨r, hr, h⟩
    rcases List.mem_append.1 hr with hr | hr
    · unfold upTo at hr
      obtain ⟨i, hi, rfl⟩ := List.mem_map.1 hr
      have := List.mem_range.1 hi
      simp only [Int.ofNat_eq_natCast] at h
      omega
    · have : 0 < mo.length := List.length_pos_of_mem hr
      omega
/-! ### By what it makes -/
theorem rmk_nz (m : Module) (f : Fun) (s : JS) (x : Ins) : NZ (rmk m f s x) := by
  unfold rmk QuS
  repeat' (first | exact .o _ | exact .e (by decide) | refine .bind (Q3j _ _ _) fun _ _ => ?_ | refine .bind (Qhj _ _ _) fun _ _ => ?_ | refine .bind (Qq0 _ _) fun _ _ => ?_ | refine .bind (Qh5 _ _) fun _ _ => ?_ | refine .bind (Qbp _ _) fun _ _ => ?_ | refine .bind (Qn1 _ _ _) fun _ _ => ?_ | refine .bind (Qa6 _ _ _ _) fun _ _ => ?_ | refine .ite ?_ ?_ | split)
section
variable {m : Module} {f : Fun} {s : JS} {x : Ins} {ts : List Ty}
theorem jIns_f (h : QF m.funcs.length x ≠ 0) : jIns m f s x = (QF m.funcs.length x, s) := by unfold jIns; rw [if_pos h]
theorem Qq2 (hF : QF m.funcs.length x = 0) (hg : JInv m f s) : jIns m f s x = match ebind (rmk m f s x) (vAdd s x) with
    | .error c => (c, s)
    | .ok s' => (0, s') := by
  unfold jIns
  rw [if_neg (fun h => h hF), jins_rmk hF hg]
  cases ebind (rmk m f s x) (vAdd s x) <;> rfl
theorem jIns_e (hF : QF m.funcs.length x = 0) (hg : JInv m f s) (h : QL (rmk m f s x) ≠ 0) : jIns m f s x = (QL (rmk m f s x), s) := by
  rw [Qq2 hF hg, Qt (Qgh h)]
theorem jIns_m (hF : QF m.funcs.length x = 0) (hg : JInv m f s) (h : rmk m f s x = .ok ts) (hl : 80 < s.l.length + ts.length) : jIns m f s x = (2, s) := by
  rw [Qq2 hF hg, Q9 h]; unfold vAdd; rw [if_pos hl]
theorem jIns_o3 (hF : QF m.funcs.length x = 0) (hg : JInv m f s) (h : rmk m f s x = .ok ts) (hl : ¬ 80 < s.l.length + ts.length) (h3 : x.op = 3) : jIns m f s x = (0, ⟨s.h ++ [true], s.l ++ ts⟩) := by
  rw [Qq2 hF hg, Q9 h]; unfold vAdd; rw [if_neg hl, if_pos h3]
theorem jIns_o4 (hF : QF m.funcs.length x = 0) (hg : JInv m f s) (h : rmk m f s x = .ok ts) (hl : ¬ 80 < s.l.length + ts.length) (h4 : x.op = 4) {t : Ty} (ht : s.l[x.a.toNat]? = some t) : jIns m f s x = (0, ⟨s.h.set t.r.toNat false, s.l ++ ts⟩) := by
  rw [Qq2 hF hg, Q9 h]; unfold vAdd; rw [if_neg hl, if_neg (show ¬ x.op = 3 by omega), if_pos h4, ht]
theorem jIns_o (hF : QF m.funcs.length x = 0) (hg : JInv m f s) (h : rmk m f s x = .ok ts) (hl : ¬ 80 < s.l.length + ts.length) (h3 : x.op ≠ 3) (h4 : x.op ≠ 4) : jIns m f s x = (0, ⟨s.h, s.l ++ ts⟩) := by
  rw [Qq2 hF hg, Q9 h]; unfold vAdd; rw [if_neg hl, if_neg h3, if_neg h4]
theorem rmk_3ok (h : rmk m f s x = .ok ts) (h3 : x.op = 3) : s.h.length ≠ 16 := by
  rw [rmk_3 h3] at h
  split at h
  · cases h
  · assumption
theorem rmk_4ok (h : rmk m f s x = .ok ts) (h4 : x.op = 4) : ∃ t, 0 ≤ x.a ∧ x.a < s.l.length ∧ s.l[x.a.toNat]? = some t ∧ 0 ≤ t.r ∧ t.r < s.h.length := by
  rw [QrE h4] at h
  obtain ⟨t, h1, _⟩ := Qh h
  obtain ⟨h2, h3, h5, h6⟩ := Qer h1
  have := (List.getElem?_eq_some_iff.1 h3).1
  have := Qgf h6
  exact ⟨t, h2, by omega, h3, this.1, this.2⟩
end
theorem jEnd_f {f : Fun} {s : JS} {e : Tail} (h : Q1K f.blocks.length e ≠ 0) : jEnd f s e = Q1K f.blocks.length e := by unfold jEnd; rw [if_pos h]
theorem jEnd_g {f : Fun} {s : JS} {e : Tail} (h : Q1K f.blocks.length e = 0) : jEnd f s e = QL (jend f s e) := by
  unfold jEnd QL; rw [if_neg (fun hn => hn h)]; cases jend f s e <;> rfl
/-! ### A whole module -/
theorem mod_fb {m : Module} {f : Nat} {x : Fun} (hF : m.fault.1 = 0) (hx : m.funcs[f]? = some x) : ∀ b ∈ x.blocks, x.regs ≤ b.regs := by
  intro b hb
  obtain ⟨k, hk⟩ := List.mem_iff_getElem?.1 hb
  exact (Q99 (Q8T hF hx hk).1).1
section
variable {m : Module} {f : Fun} {fi bi i b : Nat} {e : Tail} {s : JS} {x : Ins} {l : List Ins} {y : Block} {k : List Block}
end
end Go.Lir
namespace Go.Proofs.YtanlkfeogoganaaGreat
open Go.Lir
set_option maxHeartbeats 1000000
attribute [local irreducible] LC.wp Q5 Q11 Q1c retQ Q2b LO.wp QD Calls
set_option linter.unusedSimpArgs false
set_option linter.unusedVariables false
attribute [local irreducible] hasB Q1W Q1o Q1I Q3A upTo Q1b Q1Z rmk jIns jEnd Module.fault Qcm Qf7
variable {cx : Cx} {w : World} {L : List Res} {j : JP} {h : List Bool} {vl : Value} {css : List (List Value)} {i : Nat} {m : Module}
end Go.Proofs.YtanlkfeogoganaaGreat
namespace Go.Proofs.YtanlkfeogoganaaGreat
open Go.Lir
set_option maxHeartbeats 1000000
attribute [local irreducible] LC.wp Q5 Q11 Q1c retQ Q2b LO.wp QD Calls
set_option linter.unusedSimpArgs false
set_option linter.unusedVariables false
attribute [local irreducible] hasB Q1W Q1o Q4l Q1I
variable {cx : Cx} {w : World} {L : List Res}
def Q7h (hp : Nat) (h : List Bool) : Res := Res.ex fun v => star (blk hp 72 [v]) (sl 4 1 v (h.map QK))
theorem Q3o {hp : Nat} {h : List Bool} (hS : St cx w (Q7h hp h :: L)) : ∃ v, St cx w (blk hp 72 [v] :: sl 4 1 v (h.map QK) :: L) := by
  obtain ⟨v, hS⟩ := St.ex hS
  exact ⟨v, hS.star⟩
theorem Q37 {hp : Nat} {h : List Bool} {v : Value} (hS : St cx w (blk hp 72 [v] :: sl 4 1 v (h.map QK) :: L)) : St cx w (Q7h hp h :: L) := St.ex' v hS.star'
theorem rhas_u {hp : Nat} {h : List Bool} {v : Value} {r : Int} (hS : St cx w (blk hp 72 [v] :: sl 4 1 v (h.map QK) :: L)) :
    Rets Tryz.prog Q9a [.pointer (some ⟨hp, 0, none⟩), .int .i64 r] w fun u w' => u = .bool (hasB h r) ∧ St cx w' (blk hp 72 [v] :: sl 4 1 v (h.map QK) :: L) := by
  have hlen : (h.map QK).length = h.length := List.length_map _
  all_goals refine QlE ?_
  all_goals (unfold R_Holds_Has_lc; refine Q0 ?_; refine Q1 ?_; refine zm ?_; refine zn ?_; refine Q0 ?_; refine Q1 ?_; refine zm ?_)
  all_goals (first | (refine Q3f ?_) | (refine Q3g ?_) | (refine Q1A rfl rfl (fun hc => ?_) (fun hc => ?_)))
  all_goals (refine zm ?_; (first | refine s_gn rfl rfl ?_ | (refine s_gy rfl ?_; refine zm ?_)); (first | refine s_gn rfl rfl ?_ | (refine s_gy rfl ?_; refine zm ?_)); (first | refine s_gn rfl rfl ?_ | (refine s_gy rfl ?_; refine Qi rfl ?_)); (first | refine s_gn rfl rfl ?_ | (refine s_gy rfl ?_; refine Q2 rfl ?_)); (first | refine s_gn rfl rfl ?_ | (refine s_gy rfl ?_; (first | (refine Q24 hS hel1 rfl nth1 (Q2c QK h false (by omega)) rfl ?_) | (refine zl hS ?_)))); (first | refine s_gn rfl rfl ?_ | (refine s_gy rfl ?_; (first | (refine zL ?_) | (refine zLe hS ?_)))))
  all_goals (first | refine s_gn rfl rfl ?_ | (refine s_gy rfl ?_; (first | (refine Q1L ?_) | (refine Q1M ?_) | (refine QE rfl rfl (fun hc => ?_) (fun hc => ?_)))))
  all_goals ((first | (refine zpt ?_) | (refine zpf ?_)); refine zm ?_; (first | refine s_gn rfl rfl ?_ | (refine s_gy rfl ?_; refine zm ?_)); (first | refine s_gn rfl rfl ?_ | (refine s_gy rfl ?_; refine Qi rfl ?_)); (first | refine s_gn rfl rfl ?_ | (refine s_gy rfl ?_; refine Q2 rfl ?_)); (first | refine s_gn rfl rfl ?_ | (refine s_gy rfl ?_; (first | (refine Q24 hS hel1 rfl nth1 (Q2c QK h false (by omega)) rfl ?_) | (refine zl hS ?_)))); (first | refine s_gn rfl rfl ?_ | (refine s_gy rfl ?_; refine zm ?_)); (first | refine s_gn rfl rfl ?_ | (refine s_gy rfl ?_; (first | ((first | refine zi ?_ | refine zj ?_); intro b1 o1 cs1 x1 hat1 hx1 he1; obtain rfl := QJ he1) | (refine zie hS ?_; intro b1 o1 hel1) | (refine zij hS ?_; intro b1 o1 hel1)))); (first | refine s_gn rfl rfl ?_ | (refine s_gy rfl ?_; (first | (refine Q24 hS hel1 rfl nth1 (Q2c QK h false (by omega)) rfl ?_) | (refine zl hS ?_) | (refine zlk hS ?_) | (refine zlj hS ?_) | (refine zli hS ?_) | (refine zlb hS ?_)))); (first | (refine zpt ?_) | (refine zpf ?_)); refine zm ?_; refine zn ?_; refine zr ?_; refine zf ?_; (first | (refine ⟨_, rfl, ?_, hS.sp⟩; unfold hasB; simp [*]; omega; done) | (refine ⟨_, rfl, ?_, hS.sp⟩; unfold hasB; simp [*]; done)))
theorem QuM {hp : Nat} {h : List Bool} {v : Value} (hl : h.length ≤ 16) (hS : St cx w (blk hp 72 [v] :: sl 4 1 v (h.map QK) :: L)) :
    Rets Tryz.prog Q6k [.pointer (some ⟨hp, 0, none⟩)] w fun u w' => ∃ c', cx.Le c' ∧ intR.sl c' u (Q1W h) ∧ St c' w' (blk hp 72 [v] :: sl 4 1 v (h.map QK) :: L) := by
  have hlen : (h.map QK).length = h.length := List.length_map _
  all_goals refine Qjv ?_
  all_goals (unfold R_Holds_List_lc; refine Q0 ?_; refine Q1 ?_; refine zm ?_; refine zn ?_; refine Q0 ?_; refine Q1 ?_; refine zm ?_; refine zn ?_; refine Q0 ?_; refine Q0 ?_; refine Q1 ?_; refine zm ?_; refine zn ?_; refine Qa ?_; have hS := St.nil (T := 3) (es := 1) hS)
  refine zo [0] (fun A ρ' w' => ∃ (j : Nat) (vo : Value) (co : List (List Value)), Has ρ' A ∧ Has ρ' [(4, .int .i64 j), (3, vo)] ∧ (j ≤ h.length) ∧ (intR.ls cx co (Q1I h j)) ∧ St cx w' (sl 3 1 vo co :: blk hp 72 [v] :: sl 4 1 v (h.map QK) :: L)) (fun ρ' _ => (h.length - iv (ρ' 4)).toNat) ?_ ?_
  · exact ⟨0, _, [], zh, zh, (by omega), by unfold Q1I; exact Rep.LR.nil _ _ _, hS.sp⟩
  rintro ρ w1 ⟨j, vo, co, hA, hρ, hj, hls, hS⟩; obtain ⟨ρ, rfl⟩ := env2 hA hρ; have hll := Qc0 h j; have hsu := Q5f h j
  unfold Q6j
  all_goals (refine Q0 ?_; refine Q0 ?_; refine Q1 ?_; refine zm ?_; refine zm ?_; refine Qi rfl ?_; refine Q2 rfl ?_; (first | (refine Q24 hS (by assumption) rfl nth2 (Q2c QK h false (by omega)) rfl ?_) | (refine zl hS ?_)); (first | (refine zL ?_) | (refine zLe hS ?_)); refine Qx rfl rfl ?_; refine zn ?_)
  refine Qo rfl (fun hc => ?_) (fun hc => ?_)
  · skip
    all_goals (refine zsk ?_; refine Q0 ?_; refine Qa ?_; refine Q0 ?_; refine Q1 ?_; refine zm ?_; refine Qi rfl ?_; refine Q2 rfl ?_; (first | (refine Q24 hS (by assumption) rfl nth2 (Q2c QK h false (by omega)) rfl ?_) | (refine zl hS ?_)); refine zm ?_; (first | ((first | refine zi ?_ | refine zj ?_); intro b1 o1 cs1 x1 hat1 hx1 he1; obtain rfl := QJ he1) | (refine zie hS ?_; intro b1 o1 hel1)); (first | (refine Q24 hS (by assumption) rfl nth2 (Q2c QK h false (by omega)) rfl ?_) | (refine zl hS ?_) | (refine zlk hS ?_) | (refine zlj hS ?_) | (refine zli hS ?_) | (refine zlb hS ?_)); refine zn ?_)
    refine QgU rfl (fun hc => ?_) (fun hc => ?_)
    · skip
      all_goals (refine Q1 ?_; refine zm ?_; refine zm ?_; refine zB1 hS [_] ?_; intro b1 w1 hS; refine za Qeu Qrx hS ?_; intro vp1 w1 css1 hls1 hv1 hS; have hS := hS.ns; refine zm ?_; refine zn ?_; refine Q1 ?_; refine zm ?_; refine zad ?_; refine zm ?_; refine zn ?_; exact ⟨⟨j + 1, _, _, zh, zh, (by omega), by rw [hsu, if_pos (by assumption)]; exact hls1, hS.sp⟩, Qr (by omega)⟩)
    · skip
      all_goals (refine zsk ?_; refine Q1 ?_; refine zm ?_; refine zad ?_; refine zm ?_; refine zn ?_; (first | (exact ⟨⟨j + 1, _, _, zh, zh, (by omega), by rw [hsu, if_pos (by assumption)]; exact hls1, hS.sp⟩, Qr (by omega)⟩) | (exact ⟨⟨j + 1, _, _, zh, zh, (by omega), by rw [hsu, if_neg (by rw [hc]; decide), List.append_nil]; exact hls, hS.sp⟩, Qr (by omega)⟩)))
  · skip
    all_goals (refine zex ?_; refine Q0 ?_; refine Q1 ?_; refine zm ?_; refine zm ?_; refine zn ?_; refine zr ?_; refine zf ?_; refine ⟨_, rfl, ?_⟩; obtain ⟨c', hle, hS', hk⟩ := St.freezeL (r := intR) hS hls rfl (by omega); refine ⟨c', hle, ?_, hS'⟩; rw [show j = h.length by omega] at hk; unfold Q1W; exact hk)
theorem rin_c {s : List Int} {c : Int} {v : Value} (hK : intR.sl cx v s) (hS : St cx w L) : Rets Tryz.prog R_In [v, .int .i64 c] w fun u w' => u = .bool (decide (c ∈ s)) ∧ St cx w' L := by
  have hlen := hK.len
  all_goals refine R_In_in ?_
  all_goals (unfold R_In_lc; refine Q0 ?_; refine Q1 ?_; refine zm ?_; refine zn ?_; refine Q0 ?_; refine Q0 ?_; refine Q1 ?_; refine zm ?_; refine zn ?_; refine Qa ?_)
  refine zoL hS [0, 1] (fun A LL ρ' w' => ∃ (j : Nat), Has ρ' A ∧ Has ρ' [(5, .int .i64 j)] ∧ (j ≤ s.length) ∧ (c ∈ s ↔ c ∈ s.drop j) ∧ St cx w' (LL)) (fun ρ' _ => (s.length - iv (ρ' 5)).toNat) ?_ ?_
  · exact ⟨0, zh, zh, (by omega), by simp, hS.sp⟩
  rintro ρ w1 ⟨j, hA, hρ, hj, hd, hS⟩; obtain ⟨ρ, rfl⟩ := env2 hA hρ
  unfold Qvu
  all_goals (refine Q0 ?_; refine Q0 ?_; refine Q1 ?_; refine zm ?_; refine zm ?_; refine zL ?_; refine Qx rfl rfl ?_; refine zn ?_)
  refine Qo rfl (fun hc => ?_) (fun hc => ?_)
  · skip
    all_goals (refine zsk ?_; refine Q0 ?_; refine Qa ?_; refine Q0 ?_; refine Q1 ?_; refine zm ?_; refine zm ?_; refine zi ?_; intro b1 o1 cs1 x1 hat1 hx1 he1; obtain rfl := QJ he1; (first | (refine zl hS ?_) | (refine zlk hS ?_)); refine zm ?_)
    all_goals (first | (refine Qv ?_) | (refine QB ?_) | (refine Qn rfl rfl (fun hc => ?_) (fun hc => ?_)))
    all_goals (refine zn ?_)
    all_goals
      first
      | (refine Q3 rfl ?_ -- R_In c1
         all_goals (refine Q0 ?_; refine Q1 ?_; refine zm ?_; refine zn ?_; refine zr ?_; refine zf ?_)
         all_goals (refine ⟨_, rfl, ?_, hS.sp⟩; rw [decide_eq_true]; rw [hd, Q7 hx1, List.mem_cons]; exact .inl (by omega); done))
      | (refine Q4 rfl ?_ -- R_In c1
         all_goals refine zsk ?_)
    all_goals (refine Q1 ?_; refine zm ?_; refine zad ?_; refine zm ?_; refine zn ?_)
    all_goals (exact ⟨⟨j + 1, zh, zh, (by omega), by rw [hd, Q7 hx1, List.mem_cons]; exact ⟨fun h => h.resolve_left (by omega), .inr⟩, hS.sp⟩, Qr (by omega)⟩)
  · skip
    all_goals (refine zex ?_; refine Q0 ?_; refine Q1 ?_; refine zm ?_; refine zn ?_; refine zr ?_; refine zf ?_; (first | (refine ⟨_, rfl, ?_, hS.sp⟩; rw [decide_eq_true]; rw [hd, Q7 hx1, List.mem_cons]; exact .inl (by omega); done) | (refine ⟨_, rfl, ?_, hS.sp⟩; rw [decide_eq_false]; rw [hd, List.drop_of_length_le (by omega)]; exact List.not_mem_nil; done)))
theorem rpass_u {hp : Nat} {h : List Bool} {v v2 : Value} {xs : List Int} (hl : h.length ≤ 16) (hx : intR.sl cx v2 xs) (hS : St cx w (blk hp 72 [v] :: sl 4 1 v (h.map QK) :: L)) :
    Rets Tryz.prog Q6i [.pointer (some ⟨hp, 0, none⟩), v2] w fun u w' => u = .int .i64 (Q1o h [] xs) ∧ St cx w' (blk hp 72 [v] :: sl 4 1 v (h.map QK) :: L) := by
  have hxl := hx.len
  have hll : (Q1W h).length ≤ h.length := by unfold Q1W; exact Qc0 _ _
  rw [QuX]
  all_goals refine Qjl ?_
  all_goals (unfold R_Holds_Pass_lc; refine Q0 ?_; refine Q1 ?_; refine zm ?_; refine zn ?_; refine Q0 ?_; refine Q0 ?_; refine Q1 ?_; refine zm ?_; refine zn ?_; refine Qa ?_)
  refine zoL hS [0, 1] (fun A LL ρ' w' => ∃ (j : Nat), Has ρ' A ∧ Has ρ' [(5, .int .i64 j)] ∧ (j ≤ xs.length) ∧ (Q4l h xs [] xs = Q4l h xs (xs.take j) (xs.drop j)) ∧ St cx w' (LL)) (fun ρ' _ => (xs.length - iv (ρ' 5)).toNat) ?_ ?_
  · exact ⟨0, zh, zh, (by omega), by rfl, hS.sp⟩
  rintro ρ w1 ⟨j, hA, hρ, hj, hgo, hS⟩; obtain ⟨ρ, rfl⟩ := env2 hA hρ
  unfold Q6h
  all_goals (refine Q0 ?_; refine Q0 ?_; refine Q1 ?_; refine zm ?_; refine zm ?_; refine zL ?_; refine Qx rfl rfl ?_; refine zn ?_)
  refine Qo rfl (fun hc => ?_) (fun hc => ?_)
  · skip
    all_goals (refine zsk ?_; refine Q0 ?_; refine Qa ?_; refine Q0 ?_; refine Q0 ?_; refine Q1 ?_; refine zm ?_; refine zm ?_; refine zm ?_; refine zi ?_; intro b1 o1 cs1 x1 hat1 hx1 he1; obtain rfl := QJ he1; (first | (refine zl hS ?_) | (refine zlk hS ?_)); rw [Q7 hx1, Q4l] at hgo; refine zR2 (c := rhas_u hS) (h := ?_); rintro v1 w1 ⟨rfl, hS⟩; refine Q1O rfl ?_; refine zn ?_)
    refine QgU rfl (fun hc => ?_) (fun hc => ?_)
    · skip
      all_goals (refine Q0 ?_; refine Q1 ?_; refine zm ?_; refine zn ?_; refine zr ?_; refine zf ?_)
      all_goals (exact ⟨_, rfl, (by rw [hgo, if_neg (by simpa using hc)]), hS.sp⟩)
    · skip
      all_goals (have hc1 : hasB h x1 = true := (by simpa using hc); rw [if_pos hc1] at hgo; refine zsk ?_; refine Q0 ?_; refine zD [(0, none), (1, none), (2, none), (3, none), (4, none), (5, none), (6, none), (7, some none)] ?_; have hS := hS.drew; refine zm ?_; refine zm ?_; refine Quk vw hx rfl rfl ⟨_, rfl⟩ rfl (by omega) (by omega) ?_; intro v4 hs4; rw [List.drop_zero] at hs4; refine zm ?_; refine zm ?_; refine zi ?_; intro b2 o2 cs2 x2 hat2 hx2 he2; obtain rfl := QJ he2; (first | (refine zl hS ?_) | (refine zlk hS ?_)); refine zR2 (c := rin_c hs4 hS) (h := ?_); rintro v1 w1 ⟨rfl, hS⟩; obtain rfl : x1 = x2 := Option.some.inj (hx1.symm.trans hx2); refine zn ?_)
      refine Qo rfl (fun hc => ?_) (fun hc => ?_)
      · skip
        all_goals (refine Q0 ?_; refine Q1 ?_; refine zm ?_; refine zn ?_; refine zr ?_; refine zf ?_)
        all_goals (first | (exact ⟨_, rfl, (by rw [hgo, if_neg (by simpa using hc)]), hS.sp⟩) | (exact ⟨_, rfl, (by rw [hgo, if_pos hc]), hS.sp⟩))
      · skip
        all_goals (refine zsk ?_; refine Q1 ?_; refine zm ?_; refine zad ?_; refine zm ?_; refine zn ?_; exact ⟨⟨j + 1, zh, zh, (by omega), by rw [hgo, if_neg hc, Q1E hx1], hS.sp⟩, Qr (by omega)⟩)
  · skip
    all_goals (refine zex ?_; refine Q0 ?_; refine Q1 ?_; refine zm ?_; refine zR1 (c := QuM (L := L) hl hS.sp) (h := ?_); rintro v5 w5 ⟨c5, hle5, hk5, hS⟩; have hx5 := hx.up hle5; have hie : j = xs.length := (by omega); subst hie; rw [List.take_length, List.drop_length, Q4l] at hgo; refine zm ?_; refine zn ?_; refine Q0 ?_; refine Q0 ?_; refine Q1 ?_; refine zm ?_; refine zn ?_; refine Qa ?_)
    refine zoL hS [1, 6] (fun A LL ρ' w' => ∃ (q : Nat), Has ρ' A ∧ Has ρ' [(7, .int .i64 q)] ∧ (q ≤ (Q1W h).length) ∧ (∀ y ∈ (Q1W h).take q, y ∈ xs) ∧ St c5 w' (LL)) (fun ρ' _ => ((Q1W h).length - iv (ρ' 7)).toNat) ?_ ?_
    · exact ⟨0, zh, zh, (by omega), by simp, hS.sp⟩
    rintro ρ w1 ⟨q, hA, hρ, hq, hall, hS⟩; obtain ⟨ρ, rfl⟩ := env2 hA hρ
    unfold Q5u
    all_goals (refine Q0 ?_; refine Q0 ?_; refine Q1 ?_; refine zm ?_; refine zm ?_; refine zL ?_; refine Qx rfl rfl ?_; refine zn ?_)
    refine Qo rfl (fun hc => ?_) (fun hc => ?_)
    · skip
      all_goals (refine zsk ?_; refine Q0 ?_; refine Qa ?_; refine Q0 ?_; refine Q1 ?_; refine zm ?_; refine zm ?_; refine zm ?_; refine zi ?_; intro b3 o3 cs3 x3 hat3 hx3 he3; obtain rfl := QJ he3; (first | (refine zl hS ?_) | (refine zlk hS ?_)); refine zR2 (c := rin_c hx5 hS) (h := ?_); rintro v1 w1 ⟨rfl, hS⟩; refine Q1O rfl ?_; refine zn ?_)
      refine QgU rfl (fun hc => ?_) (fun hc => ?_)
      · skip
        all_goals (have hn3 : x3 ∉ xs := (by simpa using hc); refine Q0 ?_; refine Q1 ?_; refine zm ?_; refine zn ?_; refine zr ?_; refine zf ?_)
        all_goals (first | (exact ⟨_, rfl, (by rw [hgo, if_neg (by simpa using hc)]), hS.sp⟩) | (exact ⟨_, rfl, (by rw [hgo, if_pos hc]), hS.sp⟩) | (exact ⟨_, rfl, (by rw [hgo, if_neg (fun ha => hn3 (ha x3 (List.mem_of_getElem? hx3)))]), St.weak hS.sp hle5⟩))
      · skip
        all_goals (have hn3 : x3 ∈ xs := (by simpa using hc); refine zsk ?_; refine Q1 ?_; refine zm ?_; refine zad ?_; refine zm ?_; refine zn ?_; exact ⟨⟨q + 1, zh, zh, (by omega), Q5k hall hx3 hn3, hS.sp⟩, Qr (by omega)⟩)
    · skip
      all_goals (refine zex ?_; refine Q0 ?_; refine Q1 ?_; refine zm ?_; refine zn ?_; refine zr ?_; refine zf ?_)
      all_goals (first | (exact ⟨_, rfl, (by rw [hgo, if_neg (by simpa using hc)]), hS.sp⟩) | (exact ⟨_, rfl, (by rw [hgo, if_pos hc]), hS.sp⟩) | (exact ⟨_, rfl, (by rw [hgo, if_neg (fun ha => hn3 (ha x3 (List.mem_of_getElem? hx3)))]), St.weak hS.sp hle5⟩) | (exact ⟨_, rfl, (by rw [hgo, if_pos (QaF hall (by omega))]), St.weak hS.sp hle5⟩))
theorem rnew_u {n : Int} (hS : St cx w L) : Rets Tryz.prog Q6y [.int .i64 n] w fun u w' => ∃ hp v, u = .pointer (some ⟨hp, 0, none⟩) ∧ St cx w' (blk hp 72 [v] :: sl 4 1 v ((List.replicate (min n 16).toNat true).map QK) :: L) := by
  all_goals refine Qou ?_
  all_goals (unfold R_NewHolds_lc; refine Q0 ?_; refine Q1 ?_; refine zm ?_; refine zn ?_; refine Q0 ?_; refine Q1 ?_; refine zb0 [_] ?_; refine zb hS ?_; intro p6 w1 hS; refine zm ?_; refine zn ?_; refine Q0 ?_; refine Q0 ?_; refine Q1 ?_; refine zm ?_; refine zn ?_; refine Qa ?_; have hS := St.nil (T := 4) (es := 1) hS)
  refine zo [0, 3] (fun A ρ' w' => ∃ (j : Nat) (v : Value), Has ρ' A ∧ Has ρ' [(4, .int .i64 j)] ∧ (j ≤ (min n 16).toNat) ∧ St cx w' (sl 4 1 v ((List.replicate j true).map QK) :: blk p6 72 [v] :: L)) (fun ρ' _ => (min n 16 - iv (ρ' 4)).toNat) ?_ ?_
  · exact ⟨0, _, zh, zh, (by omega), hS.sp⟩
  rintro ρ w1 ⟨j, v, hA, hρ, hj, hS⟩; obtain ⟨ρ, rfl⟩ := env2 hA hρ
  unfold QaK
  all_goals (refine Q0 ?_; refine Q0 ?_; refine Q1 ?_; refine zm ?_; refine zm ?_)
  all_goals (first | (refine Q1L ?_) | (refine Q1M ?_) | (refine QE rfl rfl (fun hc => ?_) (fun hc => ?_)))
  all_goals (refine zm ?_; (first | refine s_gn rfl rfl ?_ | (refine s_gy rfl ?_; refine zm ?_)))
  all_goals (first | refine s_gn rfl rfl ?_ | (refine s_gy rfl ?_; (first | (refine Q1L ?_) | (refine Q1M ?_) | (refine QE rfl rfl (fun hc => ?_) (fun hc => ?_)))))
  all_goals ((first | (refine zpt ?_) | (refine zpf ?_)); refine zn ?_)
  all_goals
    first
    | (refine Q3 rfl ?_ -- Q6y c0
       all_goals (refine zsk ?_; refine Q0 ?_; refine Qa ?_; refine Q1 ?_; refine zm ?_; refine zm ?_; refine Qi rfl ?_; refine Q2 rfl ?_; refine zl hS ?_; refine zB1 hS [_] ?_; intro b1 w1 hS; refine Qme Qq9 (.inl u_T70) hS vw vw fd (hS.srcB1 fd rfl) (by simp; omega) ?_; intro vp w2 hS; have hS := hS.ns; rw [show (List.replicate j true).map QK ++ [[Value.bool true]] = (List.replicate (j + 1) true).map QK by rw [List.replicate_succ', List.map_append]; rfl] at hS; refine Qi rfl ?_; refine Q2 rfl ?_; refine zst hS ?_; intro w1 hS; have hS := hS.ns; refine zn ?_; refine Q1 ?_; refine zm ?_; refine zad ?_; refine zm ?_; refine zn ?_)
       all_goals (exact ⟨⟨j + 1, _, zh, zh, (by omega), hS.sp⟩, Qr (by omega)⟩))
    | (refine Q4 rfl ?_ -- Q6y c0
       all_goals (refine zex ?_; refine Q0 ?_; refine Q1 ?_; refine zm ?_; refine zm ?_; refine zn ?_; refine zr ?_; refine zf ?_)
       all_goals (exact ⟨_, rfl, _, v, rfl, (by rw [show (min n 16).toNat = j by omega]; exact hS.sp)⟩))
end Go.Proofs.YtanlkfeogoganaaGreat
namespace Go.Proofs.YtanlkfeogoganaaGreat
open Go.Lir
set_option maxHeartbeats 1000000
attribute [local irreducible] LC.wp Q5 Q11 Q1c retQ Q2b LO.wp QD Calls
set_option linter.unusedSimpArgs false
set_option linter.unusedVariables false
attribute [local irreducible] hasB Q1W Q1o Q1I Q3A upTo Q1b
variable {cx : Cx} {w : World} {L : List Res} {j : JP} {h : List Bool} {vl : Value} {css : List (List Value)} {i : Nat} {m : Module}
@[reducible] def JP.kcells (j : JP) (vl : Value) : List Value := [j.vm, .int .i64 j.f.regs, j.vp, j.vr, j.vb, .pointer (some ⟨j.hp, 0, none⟩), vl]
theorem QuO {hp : Nat} {r : Int} (hS : St cx w L) (hi : nth L i = some (Q7h hp h)) : Rets Tryz.prog Q9a [.pointer (some ⟨hp, 0, none⟩), .int .i64 r] w fun u w' => u = .bool (hasB h r) ∧ St cx w' L := by
  obtain ⟨v, h2⟩ := Q3o (hS.out hi)
  refine (rhas_u h2).mono ?_
  rintro u w' ⟨h3, h4⟩
  exact ⟨h3, St.back0 (Q37 h4) hi⟩
theorem QuN {hp : Nat} (hl : h.length ≤ 16) (hS : St cx w L) (hi : nth L i = some (Q7h hp h)) : Rets Tryz.prog Q6k [.pointer (some ⟨hp, 0, none⟩)] w fun u w' => ∃ c', cx.Le c' ∧ intR.sl c' u (Q1W h) ∧ St c' w' L := by
  obtain ⟨v, h2⟩ := Q3o (hS.out hi)
  refine (QuM hl h2).mono ?_
  rintro u w' ⟨c', h3, h5, h4⟩
  exact ⟨c', h3, h5, St.back0 (Q37 h4) hi⟩
theorem rpass_h {hp : Nat} {v2 : Value} {xs : List Int} (hl : h.length ≤ 16) (hx : intR.sl cx v2 xs) (hS : St cx w L) (hi : nth L i = some (Q7h hp h)) : Rets Tryz.prog Q6i [.pointer (some ⟨hp, 0, none⟩), v2] w fun u w' => u = .int .i64 (Q1o h [] xs) ∧ St cx w' L := by
  obtain ⟨v, h2⟩ := Q3o (hS.out hi)
  refine (rpass_u hl hx h2).mono ?_
  rintro u w' ⟨h3, h4⟩
  exact ⟨h3, St.back0 (Q37 h4) hi⟩
theorem Q2H {s : JS} {k kd : Int} {held : Bool} (hls : tyR.ls cx css s.l) (hS : St cx w (blk j.sp 63 (j.kcells vl) :: Q7h j.hp s.h :: sl 112 3 vl css :: L)) :
    Rets Tryz.prog Q22 [.pointer (some ⟨j.sp, 0, none⟩), .int .i64 k, .int .i64 kd, .bool held] w fun u w' => u = .int .i64 (Q1b s k kd held) ∧ St cx w' (blk j.sp 63 (j.kcells vl) :: Q7h j.hp s.h :: sl 112 3 vl css :: L) := by
  have hlc := hls.1
  all_goals refine Qir ?_
  all_goals (unfold R_Known_want_lc; refine Q0 ?_; refine Q1 ?_; refine zm ?_; refine zn ?_; refine Q0 ?_; refine Q0 ?_; refine Q1 ?_; refine zm ?_)
  all_goals (first | (refine Q1L ?_) | (refine Q1M ?_) | (refine QE rfl rfl (fun hc => ?_) (fun hc => ?_)))
  all_goals (refine zm ?_; (first | refine s_gn rfl rfl ?_ | (refine s_gy rfl ?_; refine zm ?_)); (first | refine s_gn rfl rfl ?_ | (refine s_gy rfl ?_; refine zm ?_)); (first | refine s_gn rfl rfl ?_ | (refine s_gy rfl ?_; refine Qi rfl ?_)); (first | refine s_gn rfl rfl ?_ | (refine s_gy rfl ?_; refine Q2 rfl ?_)); (first | refine s_gn rfl rfl ?_ | (refine s_gy rfl ?_; refine zl hS ?_)); (first | refine s_gn rfl rfl ?_ | (refine s_gy rfl ?_; refine Q1P hS vw fd hlc ?_)))
  all_goals (first | refine s_gn rfl rfl ?_ | (refine s_gy rfl ?_; (first | (refine Q3f ?_) | (refine Q3g ?_) | (refine Q1A rfl rfl (fun hc => ?_) (fun hc => ?_)))))
  all_goals ((first | (refine zpt ?_) | (refine zpf ?_)); refine zn ?_)
  all_goals
    first
    | (refine Q3 rfl ?_ -- Q22 c0
       all_goals (refine Q0 ?_; refine Q1 ?_; refine zm ?_; refine zn ?_; refine zr ?_; refine zf ?_)
       all_goals (refine ⟨_, rfl, ?_, hS.sp⟩; rw [Qt5 (by omega)]; done))
    | (refine Q4 rfl ?_ -- Q22 c0
       all_goals refine zsk ?_)
  all_goals (refine Q0 ?_; refine Q0 ?_; obtain ⟨t, ht⟩ : ∃ t, s.l[k.toNat]? = some t := ⟨_, List.getElem?_eq_getElem (by omega)⟩; obtain ⟨d, hd, hrd⟩ := hls.2 _ _ ht; obtain ⟨vd, rfl, hld⟩ := Qf hrd; refine Q1 ?_; refine zm ?_; refine Qi rfl ?_; refine Q2 rfl ?_; refine zl hS ?_; refine zm ?_; (first | ((first | refine zi ?_ | refine zj ?_); intro b1 o1 cs1 x1 hat1 hx1 he1; obtain ⟨vl1, rfl, hl1⟩ := Qf he1) | (refine zie hS ?_; intro b1 o1 hel1) | (refine zij hS ?_; intro b1 o1 hel1)); (first | refine Q2 rfl ?_ | refine Q1d rfl ?_); refine Q24 hS hel1 rfl fd rfl hd rfl ?_; refine zm ?_)
  all_goals (first | (refine QZ ?_) | (refine Q10 ?_) | (refine Qp rfl rfl (fun hc => ?_) (fun hc => ?_)))
  all_goals (refine zn ?_)
  all_goals
    first
    | (refine Q3 rfl ?_ -- Q22 c1
       all_goals (refine Q0 ?_; refine Q1 ?_; refine zm ?_; refine zn ?_; refine zr ?_; refine zf ?_)
       all_goals (first | (refine ⟨_, rfl, ?_, hS.sp⟩; rw [Qt5 (by omega)]; done) | (refine ⟨_, rfl, ?_, hS.sp⟩; rw [Qua (by omega) ht (by omega)]; done)))
    | (refine Q4 rfl ?_ -- Q22 c1
       all_goals refine zsk ?_)
  all_goals (refine Q0 ?_; refine Q0 ?_)
  all_goals (cases held)
  all_goals (refine zD [(0, none), (1, none), (2, none), (3, none), (4, none), (5, none), (6, none), (7, none), (8, none), (9, none), (10, none), (11, none), (12, none), (13, none), (14, some none), (15, none), (16, some none)] ?_; have hS := hS.drew; refine zm ?_; refine zm ?_; (first | refine s_gn rfl rfl ?_ | (refine s_gy rfl ?_; refine zm ?_)); (first | refine s_gn rfl rfl ?_ | (refine s_gy rfl ?_; refine Qi rfl ?_)); (first | refine s_gn rfl rfl ?_ | (refine s_gy rfl ?_; refine Q2 rfl ?_)); (first | refine s_gn rfl rfl ?_ | (refine s_gy rfl ?_; refine zl hS ?_)); (first | refine s_gn rfl rfl ?_ | (refine s_gy rfl ?_; refine zm ?_)); (first | refine s_gn rfl rfl ?_ | (refine s_gy rfl ?_; refine Qi rfl ?_)); (first | refine s_gn rfl rfl ?_ | (refine s_gy rfl ?_; refine Q2 rfl ?_)); (first | refine s_gn rfl rfl ?_ | (refine s_gy rfl ?_; refine zl hS ?_)); (first | refine s_gn rfl rfl ?_ | (refine s_gy rfl ?_; refine zm ?_)); (first | refine s_gn rfl rfl ?_ | (refine s_gy rfl ?_; (first | ((first | refine zi ?_ | refine zj ?_); intro b2 o2 cs2 x2 hat2 hx2 he2; obtain ⟨vl2, rfl, hl2⟩ := Qf he2) | (refine zie hS ?_; intro b2 o2 hel2) | (refine zij hS ?_; intro b2 o2 hel2)))); (first | refine s_gn rfl rfl ?_ | (refine s_gy rfl ?_; (first | refine Q2 rfl ?_ | refine Q1d rfl ?_))))
  all_goals ((first | refine s_gn rfl rfl ?_ | (refine s_gy rfl ?_; refine Q42 (j := 1) hS hel2 rfl fd rfl hd rfl ?_)))
  all_goals (first | refine s_gn rfl rfl ?_ | (refine s_gy rfl ?_; refine zR2 (c := QuO hS fd) (h := ?_); rintro v1 w1 ⟨rfl, hS⟩; cases hb : hasB s.h t.r))
  all_goals ((first | refine s_gn rfl rfl ?_ | (refine s_gy rfl ?_; refine Q1O rfl ?_)); (first | (refine zpt ?_) | (refine zpf ?_)); refine zn ?_)
  all_goals
    first
    | (refine Q3 rfl ?_ -- Q22 c2
       all_goals (refine Q0 ?_; refine Q1 ?_; refine zm ?_; refine zn ?_; refine zr ?_; refine zf ?_)
       all_goals (first | (refine ⟨_, rfl, ?_, hS.sp⟩; rw [Qt5 (by omega)]; done) | (refine ⟨_, rfl, ?_, hS.sp⟩; rw [Qua (by omega) ht (by omega)]; done) | (refine ⟨_, rfl, ?_, hS.sp⟩; rw [Qub (by omega) ht (by omega) hb]; done)))
    | (refine Q4 rfl ?_ -- Q22 c2
       all_goals refine zsk ?_)
  all_goals (refine Q0 ?_; refine Q1 ?_; refine zm ?_; refine zn ?_; refine zr ?_; refine zf ?_)
  all_goals (first | (refine ⟨_, rfl, ?_, hS.sp⟩; rw [Qt5 (by omega)]; done) | (refine ⟨_, rfl, ?_, hS.sp⟩; rw [Qua (by omega) ht (by omega)]; done) | (refine ⟨_, rfl, ?_, hS.sp⟩; rw [Qub (by omega) ht (by omega) hb]; done) | (refine ⟨_, rfl, ?_, hS.sp⟩; rw [want_0 (by omega) ht (by omega) (fun h => Bool.noConfusion h)]; done) | (refine ⟨_, rfl, ?_, hS.sp⟩; rw [want_0 (by omega) ht (by omega) (fun _ => hb)]; done))
theorem QrH {s : JS} {l regs : List Int} {want : List Ty} {v1 v2 v3 : Value} (hsh : ∀ t ∈ want, t.Short) (hls : tyR.ls cx css s.l) (h1 : intR.sl cx v1 l) (h2 : tyR.sl cx v2 want) (h3 : intR.sl cx v3 regs) (hS : St cx w (blk j.sp 63 (j.kcells vl) :: Q7h j.hp s.h :: sl 112 3 vl css :: L)) :
    Rets Tryz.prog Q23 [.pointer (some ⟨j.sp, 0, none⟩), v1, v2, v3] w fun u w' => u = .int .i64 (QL (Q61 s l want regs)) ∧ St cx w' (blk j.sp 63 (j.kcells vl) :: Q7h j.hp s.h :: sl 112 3 vl css :: L) := by
  have hl1 := h1.len
  have hl2 := h2.len
  have hlc := hls.1
  have hle := St.refl hS
  have hlsX := hls.2
  unfold Q61
  all_goals refine QiD ?_
  all_goals (unfold R_Known_args_lc; refine Q0 ?_; refine Q1 ?_; refine zm ?_; refine zn ?_; refine Q0 ?_; refine Q0 ?_; refine Q1 ?_; refine zm ?_; (first | (refine Q1P hS vw fd hlc ?_) | (refine zL ?_)); refine zm ?_; (first | (refine Q1P hS vw fd hlc ?_) | (refine zL ?_)))
  all_goals (first | (refine QZ ?_) | (refine Q10 ?_) | (refine Qp rfl rfl (fun hc => ?_) (fun hc => ?_)))
  all_goals (refine zn ?_)
  all_goals
    first
    | (refine Q3 rfl ?_ -- Q23 c0
       all_goals (refine Q0 ?_; refine Q1 ?_; refine zm ?_; refine zn ?_; refine zr ?_; refine zf ?_)
       all_goals (exact ⟨_, rfl, by rw [if_pos (by omega)]; rfl, hS⟩))
    | (refine Q4 rfl ?_ -- Q23 c0
       all_goals refine zsk ?_)
  all_goals (refine Q0 ?_; refine Q0 ?_; refine Q1 ?_; refine zm ?_; refine zn ?_; refine Qa ?_)
  refine zoL hS [0, 1, 2, 3] (fun A LL ρ' w' => ∃ (k0 : Cx) (q : Nat), Has ρ' A ∧ Has ρ' [(9, .int .i64 q)] ∧ (cx.Le k0) ∧ (q ≤ l.length) ∧ (Q2n s regs l want = Q2n s regs (l.drop q) (want.drop q)) ∧ (want.length = l.length) ∧ St k0 w' (LL)) (fun ρ' _ => (l.length - iv (ρ' 9)).toNat) ?_ ?_
  · exact ⟨cx, 0, zh, zh, St.refl hS, (by omega), by rfl, by omega, hS.sp⟩
  rintro ρ w1 ⟨k0, q, hA, hρ, hle2, hq, hd, hw, hS⟩; obtain ⟨ρ, rfl⟩ := env2 hA hρ; have hL0 := hle2; (try have hle := hle.trans hle2); (try have hls := hls.up hle2); (try have h1 := h1.up hle2); (try have h2 := h2.up hle2); (try have h3 := h3.up hle2)
  unfold Q6e
  all_goals (refine Q0 ?_; refine Q0 ?_; refine Q1 ?_; refine zm ?_; refine zm ?_; (first | (refine Q1P hS vw fd hlc ?_) | (refine zL ?_)); refine Qx rfl rfl ?_; refine zn ?_)
  refine Qo rfl (fun hc => ?_) (fun hc => ?_)
  · skip
    all_goals (refine zsk ?_; refine Q0 ?_; refine Qa ?_; refine Q0 ?_; refine Q0 ?_; refine zD [(0, none), (1, none), (2, none), (3, none), (4, none), (5, none), (6, none), (7, none), (8, none), (9, none), (10, none), (11, none), (12, none), (13, none), (14, none), (15, none), (16, some none)] ?_; have hS := hS.drew; refine zm ?_; refine zm ?_; refine zi ?_; intro b1 o1 cs1 x1 hat1 hx1 he1; obtain rfl := QJ he1; (first | (refine zl hS ?_) | (refine zlk hS ?_)))
    all_goals (first | (refine Q1L ?_) | (refine Q1M ?_) | (refine QE rfl rfl (fun hc => ?_) (fun hc => ?_)))
    all_goals (refine zm ?_; (first | refine s_gn rfl rfl ?_ | (refine s_gy rfl ?_; refine zm ?_)); (first | refine s_gn rfl rfl ?_ | (refine s_gy rfl ?_; refine zm ?_)); (first | refine s_gn rfl rfl ?_ | (refine s_gy rfl ?_; refine Q56 vw rfl h1 rfl (by omega) ?_; intro b8 o8 cs8 x8 hat8 hx8 he8; obtain rfl := QJ he8; obtain rfl : x1 = x8 := Option.some.inj (hx1.symm.trans hx8))); (first | refine s_gn rfl rfl ?_ | (refine s_gy rfl ?_; (first | (refine zl hS ?_) | (refine zlk hS ?_)))); (first | refine s_gn rfl rfl ?_ | (refine s_gy rfl ?_; refine zm ?_)); (first | refine s_gn rfl rfl ?_ | (refine s_gy rfl ?_; refine Qi rfl ?_)); (first | refine s_gn rfl rfl ?_ | (refine s_gy rfl ?_; refine Q2 rfl ?_)); (first | refine s_gn rfl rfl ?_ | (refine s_gy rfl ?_; refine zl hS ?_)); (first | refine s_gn rfl rfl ?_ | (refine s_gy rfl ?_; refine Q1P hS vw fd hlc ?_)))
    all_goals (first | refine s_gn rfl rfl ?_ | (refine s_gy rfl ?_; (first | (refine Q3f ?_) | (refine Q3g ?_) | (refine Q1A rfl rfl (fun hc => ?_) (fun hc => ?_)))))
    all_goals ((first | (refine zpt ?_) | (refine zpf ?_)); refine zn ?_)
    all_goals
      first
      | (refine Q4 rfl ?_ -- Q23 c2
         all_goals refine zsk ?_)
      | (refine Q3 rfl ?_ -- Q23 c2
         all_goals (refine Q0 ?_; refine Q1 ?_; refine zm ?_; refine zn ?_; refine zr ?_; refine zf ?_)
         all_goals (first | (exact ⟨_, rfl, by rw [if_pos (by omega)]; rfl, hS⟩) | (exact ⟨_, rfl, by rw [if_neg (by omega), hd, Qn2 hx1 (List.getElem?_eq_getElem (by omega)) (Q5R (by omega))]; rfl, St.weak hS.sp hL0⟩)))
    all_goals (refine Q0 ?_; obtain ⟨t, ht⟩ : ∃ t, s.l[x1.toNat]? = some t := ⟨_, List.getElem?_eq_getElem (by omega)⟩; obtain ⟨d, hdt, hrd⟩ := hls.2 _ _ ht; have g1 := Q44 (by omega) ht; refine Q1 ?_; refine zm ?_; refine zm ?_; refine zi ?_; intro b2 o2 cs2 x2 hat2 hx2 he2; obtain ⟨vl2, rfl, hl2⟩ := Qf he2; (first | (refine zv hS ?_) | (refine zvk hS ?_)); refine zm ?_)
    all_goals (refine zR2 (c := QuG x2 (hsh x2 (List.mem_of_getElem? hx2)) he2 h3 hS) (h := ?_); rintro v1 w1 ⟨c3, ds, rfl, hle2, hu3, hS⟩; (try have hle := hle.trans hle2); (try have hL0 := hL0.trans hle2); (try have hl2 := hl2.up hle2); (try have he2 := he2.up hle2); (try have hls := hls.up hle2); (try have h1 := h1.up hle2); (try have h2 := h2.up hle2); (try have h3 := h3.up hle2); have hrd := Rep.R.up hrd hle2; have hrd' := hrd; obtain ⟨vd, rfl, hld⟩ := Qf hrd; rcases hn : x2.ren regs with _ | y <;> rw [hn] at hu3 <;> simp only [Option.getD_none, Option.getD_some] at hu3 <;> (have hu3' := hu3) <;> obtain ⟨vu, rfl, hlu⟩ := Qf hu3)
    all_goals (refine zm ?_; refine Q3z rfl rfl ?_; refine Q3z rfl rfl ?_; refine Qd hS ?_; intro p10 w1 hS; refine zsn hS ?_; intro w1 hS; have hS := hS.ns; refine zm ?_; refine zn ?_; refine Q0 ?_; refine zD [(0, none), (1, none), (2, none), (3, none), (4, none), (5, none), (6, none), (7, none), (8, none), (9, none), (10, none), (11, none), (12, none), (13, none), (14, some none), (15, none), (16, some none)] ?_; have hS := hS.drew; refine zm ?_; refine Q1O rfl ?_; refine zm ?_; (first | refine s_gn rfl rfl ?_ | (refine s_gy rfl ?_; refine zv hS ?_)); (first | refine s_gn rfl rfl ?_ | (refine s_gy rfl ?_; refine zm ?_)); (first | refine s_gn rfl rfl ?_ | (refine s_gy rfl ?_; refine Qi rfl ?_)); (first | refine s_gn rfl rfl ?_ | (refine s_gy rfl ?_; refine Q2 rfl ?_)); (first | refine s_gn rfl rfl ?_ | (refine s_gy rfl ?_; refine zl hS ?_)); (first | refine s_gn rfl rfl ?_ | (refine s_gy rfl ?_; refine zm ?_)); (first | refine s_gn rfl rfl ?_ | (refine s_gy rfl ?_; refine zm ?_)); (first | refine s_gn rfl rfl ?_ | (refine s_gy rfl ?_; refine Q56 vw rfl h1 rfl (by omega) ?_; intro b4 o4 cs4 x4 hat4 hx4 he4; obtain rfl := QJ he4; obtain rfl : x1 = x4 := Option.some.inj (hx1.symm.trans hx4))); (first | refine s_gn rfl rfl ?_ | (refine s_gy rfl ?_; (first | (refine zl hS ?_) | (refine zlk hS ?_)))))
    all_goals ((first | refine s_gn rfl rfl ?_ | (refine s_gy rfl ?_; refine Q3L hS vw rfl fd (by omega) (by omega) ?_; intro b5 o5 hel5)); (first | refine s_gn rfl rfl ?_ | (refine s_gy rfl ?_; refine Q6o hS hel5 rfl fd rfl hdt ?_)))
    all_goals (first | refine s_gn rfl rfl ?_ | (refine s_gy rfl ?_; refine zR2 (c := QrD _ _ hu3' hrd' hS) (h := ?_); rintro v1 w1 ⟨rfl, hS⟩; cases hdc : decide (y = t)))
    all_goals ((first | refine s_gn rfl rfl ?_ | (refine s_gy rfl ?_; refine Q1O rfl ?_)); (first | (refine zpt ?_) | (refine zpf ?_)); refine zn ?_)
    all_goals
      first
      | (refine Q3 rfl ?_ -- Q23 c3
         all_goals (refine Q0 ?_; refine Q1 ?_; refine zm ?_; refine zn ?_; refine zr ?_; refine zf ?_)
         all_goals (first | (exact ⟨_, rfl, by rw [if_pos (by omega)]; rfl, hS⟩) | (exact ⟨_, rfl, by rw [if_neg (by omega), hd, Qn2 hx1 (List.getElem?_eq_getElem (by omega)) (Q5R (by omega))]; rfl, St.weak hS.sp hL0⟩) | (exact ⟨_, rfl, by rw [if_neg (by omega), hd, Qhk hx1 hx2 g1 hn]; rfl, St.weak hS.sp hL0⟩) | (exact ⟨_, rfl, by rw [if_neg (by omega), hd, Qhl hx1 hx2 g1 hn (fun h => of_decide_eq_false hdc h.symm)]; rfl, St.weak hS.sp hL0⟩)))
      | (refine Q4 rfl ?_ -- Q23 c3
         all_goals refine zsk ?_)
    all_goals (refine Q1 ?_; refine zm ?_; refine zad ?_; refine zm ?_; refine zn ?_; exact ⟨⟨_, q + 1, zh, zh, hL0, (by omega), by rw [hd, Qvc hx1 hx2 g1 hn (of_decide_eq_true hdc).symm], hw, hS.sp⟩, Qr (by omega)⟩)
  · skip
    all_goals (refine zex ?_; refine Q0 ?_; refine Q1 ?_; refine zm ?_; refine zn ?_; refine zr ?_; refine zf ?_)
    all_goals (first | (exact ⟨_, rfl, by rw [if_pos (by omega)]; rfl, hS⟩) | (exact ⟨_, rfl, by rw [if_neg (by omega), hd, Qn2 hx1 (List.getElem?_eq_getElem (by omega)) (Q5R (by omega))]; rfl, St.weak hS.sp hL0⟩) | (exact ⟨_, rfl, by rw [if_neg (by omega), hd, Qhk hx1 hx2 g1 hn]; rfl, St.weak hS.sp hL0⟩) | (exact ⟨_, rfl, by rw [if_neg (by omega), hd, Qhl hx1 hx2 g1 hn (fun h => of_decide_eq_false hdc h.symm)]; rfl, St.weak hS.sp hL0⟩) | (exact ⟨_, rfl, by rw [if_neg (by omega), hd, Qvb (by omega)]; rfl, St.weak hS.sp hL0⟩))
theorem Qgb {xs : List Int} {v : Value} (hn : xs.length ≤ 1000) (hS : St cx w (sl 3 1 v (xs.map Q36) :: L)) : Rets Tryz.prog QnT [v] w fun u w' => u = .int .i64 (Q1Z xs) ∧ St cx w' (sl 3 1 v (xs.map Q36) :: L) := by
  have hlc : (xs.map Q36).length = xs.length := List.length_map _
  all_goals refine Qu2 ?_
  all_goals (unfold R_first_lc; refine Q0 ?_; refine Q1 ?_; refine zm ?_; refine zn ?_; refine Q0 ?_; refine Q0 ?_; refine Q1 ?_; refine zm ?_; refine zn ?_; refine Qa ?_)
  refine zoL hS [0] (fun A LL ρ' w' => ∃ (q : Nat), Has ρ' A ∧ Has ρ' [(3, .int .i64 q)] ∧ (q ≤ xs.length) ∧ (Q1Z xs = Q1Z (xs.drop q)) ∧ St cx w' (LL)) (fun ρ' _ => (xs.length - iv (ρ' 3)).toNat) ?_ ?_
  · exact ⟨0, zh, zh, (by omega), by rfl, hS.sp⟩
  rintro ρ w1 ⟨q, hA, hρ, hq, hd, hS⟩; obtain ⟨ρ, rfl⟩ := env2 hA hρ
  unfold Qmt
  all_goals (refine Q0 ?_; refine Q0 ?_; refine Q1 ?_; refine zm ?_; refine zm ?_; refine Q1P hS vw fd hlc ?_; refine Qx rfl rfl ?_; refine zn ?_)
  refine Qo rfl (fun hc => ?_) (fun hc => ?_)
  · skip
    all_goals (refine zsk ?_; refine Q0 ?_; refine Qa ?_; refine Q0 ?_; obtain ⟨x, hx⟩ : ∃ x, xs[q]? = some x := ⟨_, List.getElem?_eq_getElem (by omega)⟩; have hxc : (xs.map Q36)[q]? = some (Q36 x) := (by rw [List.getElem?_map, hx]; rfl); refine Q1 ?_; refine zm ?_; refine zm ?_; refine Qta hS vw rfl fd (by omega) ?_; intro b1 o1 hel1; refine Q24 hS hel1 rfl fd rfl hxc rfl ?_)
    all_goals (first | (refine QZ ?_) | (refine Q10 ?_) | (refine Qp rfl rfl (fun hc => ?_) (fun hc => ?_)))
    all_goals (refine zn ?_)
    all_goals
      first
      | (refine Q3 rfl ?_ -- QnT c1
         all_goals (refine Q0 ?_; refine Q1 ?_; refine zm ?_; refine zm ?_; refine Qta hS vw rfl fd (by omega) ?_; intro b2 o2 hel2; refine Q24 hS hel2 rfl fd rfl hxc rfl ?_; refine zm ?_; refine zn ?_; refine zr ?_; refine zf ?_)
         all_goals (refine ⟨_, rfl, ?_, hS.sp⟩; rw [hd, Q7 hx, Q1Z, if_pos (by omega)]; done))
      | (refine Q4 rfl ?_ -- QnT c1
         all_goals refine zsk ?_)
    all_goals (refine Q1 ?_; refine zm ?_; refine zad ?_; refine zm ?_; refine zn ?_; exact ⟨⟨q + 1, zh, zh, (by omega), by rw [hd, Q7 hx, Q1Z, if_neg (by omega)], hS.sp⟩, Qr (by omega)⟩)
  · skip
    all_goals (refine zex ?_; refine Q0 ?_; refine Q1 ?_; refine zm ?_; refine zn ?_; refine zr ?_; refine zf ?_; (first | (refine ⟨_, rfl, ?_, hS.sp⟩; rw [hd, Q7 hx, Q1Z, if_pos (by omega)]; done) | (refine ⟨_, rfl, ?_, hS.sp⟩; rw [hd, List.drop_of_length_le (by omega)]; rfl; done)))
end Go.Proofs.YtanlkfeogoganaaGreat
