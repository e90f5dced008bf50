/- Lemmas of the proof, part 5: what the functions of the program do (contracts), and what follows. -/
import Derived.Test.YtanlkfeogoganaaGreatZ2
import Derived.Test.YtanlkfeogoganaaGreatZ4
import Derived.Test.YtanlkfeogoganaaGreatZ3
namespace Go.Proofs.YtanlkfeogoganaaGreat
open Go.Lir
set_option maxHeartbeats 1000000
attribute [local irreducible] LC.wp Q5 Q11 Q1f retQ Q2h LO.wp QD Calls
set_option linter.unusedSimpArgs false
set_option linter.unusedVariables false
attribute [local irreducible] hasB Q21 Q1N Q1Q
variable {cx : Cx} {w : World} {L : List Res} {j : JP} {h : List Bool} {vl : Value} {css : List (List Value)} {i : Nat} {m : Module}
theorem jtuple_c {s : JS} {x : Ins} {cs : List Value} (hal : x.args.length ≤ 8) (hn : s.l.length ≤ 80) (hx : insR.at cx cs x) (hls : tyR.ls cx css s.l) (hS : St cx w L) (hi : nth L i = some (j.res s.h vl css)) :
    Fins Tryz.prog Q4F [.pointer (some ⟨j.sp, 0, none⟩), .agg ⟨cs⟩] w (JOk cx L j i (Q7C s x)) (JNo cx L (Q7C s x)) := by
  have hS := hS.out hi
  obtain ⟨vr, va, rfl, hr, ha⟩ := Q1h hx
  unfold Fins Q7C
  all_goals refine Q73 ?_
  all_goals (unfold judge_State_tuple_lc; refine Q0 ?_; refine Q2 ?_; refine zb hS ?_; intro p3 w1 hS; refine zn ?_; refine Q0 ?_; refine Q2 ?_; refine zm ?_; refine Q1 rfl ?_; (first | (refine Qq hS rfl fd rfl ?_) | (refine zl hS ?_)); refine zE3 (c := Qlr hls hS fd) (p := by rintro v9 w9 ⟨c, h1, rfl, hS⟩; (repeat (first | refine Qx ?_ | refine QA ?_ | refine fun _ => ?_)); refine QZ ?_; refine .inr ⟨_, rfl, ?_⟩; exact ⟨_, Qu h1, rfl, (St.back0 hS.sp hi)⟩) (h := ?_); rintro v1 w1 ⟨t, cs1, h1, rfl, hrd, hS⟩; have hrd' := hrd; obtain ⟨vd, rfl, hld⟩ := Qi hrd; refine Qv7 rfl rfl ?_; refine zb2 [_, _, _] ?_; refine Qb hS ?_; intro p4 w1 hS; refine zsn hS ?_; intro w1 hS; have hS := hS.ns; refine zn ?_; refine Q0 ?_; refine Q0 ?_; refine Q2 ?_; refine Q1 rfl ?_; (first | (refine Qq hS rfl fd rfl ?_) | (refine zl hS ?_)); refine zL ?_; refine zm ?_; refine zn ?_; refine Qa ?_; have hS := St.nil (T := 112) (es := 3) hS)
  refine zo [0, 4, 14, 15] (fun A ρ' w' => ∃ (q : Nat) (vo : Value) (co : List (List Value)) (ts : List Ty), Has ρ' A ∧ Has ρ' [(16, .int .i64 q)] ∧ (q ≤ x.args.length) ∧ (tyR.ls cx co ts) ∧ (ts.length = q) ∧ (oneC vo = true) ∧ (jfields s x.args = ebind (jfields s (x.args.drop q)) fun l => .ok (ts ++ l)) ∧ St cx w' (sl 112 3 vo co :: blk p4 112 [.int .i64 3, .int .i64 t.r, vo] :: blk p3 57 [.int .i64 x.op, .int .i64 x.a, .int .i64 x.b, .int .i64 x.c, .int .i64 x.k, .int .i64 x.n, vr, va] :: j.res s.h vl css :: L.eraseIdx i)) (fun ρ' _ => (x.args.length - iv (ρ' 16)).toNat) ?_ ?_
  · exact ⟨0, _, [], [], zh, zh, (by omega), Rep.LR.nil _ _ _, rfl, rfl, by rw [List.drop_zero]; cases jfields s x.args <;> rfl, hS.sp⟩
  rintro ρ w1 ⟨q, vo, co, ts, hA, hρ, hq, hlo, hlt, hvo, hd, hS⟩; obtain ⟨ρ, rfl⟩ := env2 hA hρ
  unfold Q3A
  all_goals (refine Q0 ?_; refine Q2 ?_; refine Qr rfl rfl ?_; refine zn ?_; refine Q0 ?_)
  refine Qn rfl (fun hc => ?_) (fun hc => ?_)
  · skip
    all_goals (refine zsk ?_; refine Q0 ?_; refine Qa ?_; refine Q0 ?_; refine Q2 ?_; refine zi ?_; intro b1 o1 cs1 x1 hat1 hx1 he1; obtain rfl := QJ he1; (first | (refine Qq hS rfl fd rfl ?_) | (refine zl hS ?_) | (refine zlk hS ?_)); refine zm ?_; refine zn ?_; refine zC [(0, none), (1, none), (2, none), (3, none), (4, some (some [1])), (5, some (some [1])), (6, some none), (7, none), (8, some none)] ?_; have hS := hS.drew; refine s_cq ?_; refine Q1 rfl ?_; refine zt ?_; refine s_cq ?_; (first | (refine Qq hS rfl fd rfl ?_) | (refine zl hS ?_)); refine zt ?_; refine s_cq ?_; refine zm ?_; refine zt ?_; refine s_cq ?_; refine zm ?_; refine zt ?_; refine QE ?_; refine zE2 (c := Q6F hls hS fd) (p := by rintro v9 w9 ⟨c, h2, rfl, hS⟩; (repeat (first | refine Qx ?_ | refine QA ?_ | refine fun _ => ?_)); refine QZ ?_; refine .inr ⟨_, rfl, ?_⟩; exact ⟨_, by rw [Q9 h1, Qu (QrK hx1 hd h2)], rfl, (St.back0 hS.sp hi)⟩) (h := ?_); rintro v1 w1 ⟨t2, cs2, h2, rfl, hrd2, hS⟩; have hrd2' := hrd2; obtain ⟨vd2, rfl, hld2⟩ := Qi hrd2; refine zt ?_; refine ⟨List.forall_mem_cons.2 ⟨(by first | (exact Q1t hS rfl fd rfl) | (exact Q1O hS rfl fd rfl)), fun _ h => (List.not_mem_nil h).elim⟩, ?_⟩)
    all_goals (refine QE ?_; refine zB1 hS [_, _, _] ?_; intro b1 w1 hS; refine zt ?_; refine ⟨List.forall_mem_cons.2 ⟨(by first | (exact Q1t hS rfl fd rfl) | (exact Q1O hS rfl fd rfl)), fun _ h => (List.not_mem_nil h).elim⟩, ?_⟩; refine s_cf ?_; refine za Q3s Q6O hS ?_; intro vp1 w1 css1 hls1 hv1 hS; have hS := hS.ns; refine zt ?_; refine s_cq ?_; refine Q1 rfl ?_; refine zt ?_; refine s_cf ?_; refine zst hS ?_; intro w1 hS; have hS := hS.ns; refine zt ?_; refine zcn ?_; refine Q2 ?_; refine zad ?_; refine zm ?_; refine zn ?_; exact ⟨⟨q + 1, _, _, ts ++ [t2], zh, zh, (by omega), hls1, by simp [hlt], by assumption, QrJ hx1 hd h2, hS.sp⟩, Qo (by omega)⟩)
  · skip
    all_goals (refine zex ?_; have hts := QrI hd (by omega); obtain ⟨c1, hle2, hS, hk1⟩ := St.freezeL (r := tyR) hS hlo rfl (by omega); have hT := Q1X (k := 3) (r := t.r) hk1; have hls := hls.up hle2; obtain ⟨ao, no, rfl⟩ := Rep.SR.shape hk1; refine Q0 ?_; refine zC [(0, none), (1, none), (2, none), (3, none), (4, none), (5, some (some [0])), (6, some none), (7, none), (8, some none)] ?_; have hS := hS.drew; refine s_cq ?_; refine zv hS ?_; refine zt ?_; refine s_cq ?_; refine zm ?_; refine zt ?_; refine s_cq ?_; refine Qk rfl ?_; refine zt ?_; refine s_cq ?_; refine Q1 rfl ?_; refine zt ?_; refine s_cq ?_; refine Qq hS rfl fd rfl ?_; refine zt ?_; refine QE ?_; refine zR1 (c := jlen_c hS fd) (h := ?_); rintro v1 w1 ⟨rfl, hS⟩; refine zt ?_; refine ⟨List.forall_mem_cons.2 ⟨(by first | (exact Q1t hS rfl fd rfl) | (exact Q3e hS rfl fd rfl rfl)), fun _ h => (List.not_mem_nil h).elim⟩, ?_⟩; refine s_cf ?_; refine zR2 (c := Qv4 hT hS) (h := ?_); rintro v1 w1 ⟨rfl, hS⟩; refine zt ?_; refine s_cq ?_; refine Q5c rfl rfl ?_; refine zt ?_; refine s_cf ?_)
    all_goals (first | (refine zR2 (c := Q2P hS) (h := ?_); rintro v1 w1 ⟨rfl, hS⟩) | (refine zE2 (c := Q2O hS) (p := by rintro v9 w9 ⟨rfl, hS⟩; (repeat (refine Qx ?_)); refine QZ ?_; refine .inr ⟨_, rfl, ?_⟩; first | (exact ⟨_, by rw [Q9 h1, Q9 hts, if_pos (of_decide_eq_true hb)], rfl, St.weak (St.back0 hS.sp hi) hle2⟩)) (h := fun _ _ h => h.elim)) | (refine zE2 (c := Q3Y hS) (p := by rintro v9 w9 ⟨rfl, hb, hS⟩; (repeat (first | refine Qx ?_ | refine QA ?_ | refine fun _ => ?_)); refine QZ ?_; refine .inr ⟨_, rfl, ?_⟩; first | (exact ⟨_, by rw [Q9 h1, Q9 hts, if_pos (of_decide_eq_true hb)], rfl, St.weak (St.back0 hS.sp hi) hle2⟩)) (h := ?_); rintro v1 w1 ⟨rfl, hb, hS⟩))
    all_goals (refine zt ?_; refine zcn ?_; refine Q2 ?_; refine zm ?_; refine zv hS ?_; refine zE2 (c := Qaq (s := s) (by omega) hT hls hS fd) (p := by rintro v9 w9 ⟨rfl, h80', hS⟩; (repeat (first | refine Qx ?_ | refine QA ?_ | refine fun _ => ?_)); refine QZ ?_; refine .inr ⟨_, rfl, ?_⟩; exact ⟨_, by rw [Q9 h1, Q9 hts, if_neg (of_decide_eq_false hb), Q92 h80'], rfl, St.weak (St.back0 hS.sp hi) hle2⟩) (h := ?_); rintro v1 w1 ⟨rfl, hne80, vl4, cs4, hls4, hS⟩; have hS := hS.ns; refine zn ?_; refine Q1M ?_; exact .inl ⟨_, rfl, rfl, c1, ⟨s.h, _⟩, vl4, cs4, hle2, by rw [Q9 h1, Q9 hts, if_neg (of_decide_eq_false hb), Q5i hne80], hls4, (St.back hS.sp hi)⟩)
theorem Q6d {n : Nat} {x : Ins} (h : QF n x = 0) : Q1S n x = 0 := by
  unfold QF at h
  split at h
  · cases h
  · split at h
    · cases h
    · exact h
theorem Q6e {n : Nat} {x : Ins} (h : QF n x = 0) (ho : x.op = 6 ∨ x.op = 7) : 0 ≤ x.k := by
  have h := Q6d h
  unfold Q1S at h
  rcases ho with ho | ho <;> simp [ho] at h <;> omega
theorem Qxs {n : Nat} {x : Ins} (h : QF n x = 0) (ho : x.op = 5) : x.args.length ≤ 8 := by
  have h := Q6d h
  unfold Q1S at h
  simp [ho] at h; omega
theorem QrR {n : Nat} {x : Ins} (h : QF n x = 0) (ho : x.op = 14) : 0 ≤ x.k ∧ x.k < n := by
  have h := Q6d h
  unfold Q1S at h
  simp [ho] at h; omega
theorem jins_c {s : JS} {x : Ins} {cs : List Value} (hm : m.Short) (hF : QF m.funcs.length x = 0) (hn : s.l.length ≤ 80) (hh : s.h.length ≤ 16) (hj : j.Fits cx m) (hx : insR.at cx cs x) (hls : tyR.ls cx css s.l) (hS : St cx w L) (hi : nth L i = some (j.res s.h vl css)) :
    Fins Tryz.prog Qf [.pointer (some ⟨j.sp, 0, none⟩), .agg ⟨cs⟩] w (JOk cx L j i (jins m j.f s x)) (JNo cx L (jins m j.f s x)) := by
  have hS := hS.out hi
  have hx' := hx
  have hop := Q4K hF
  have hlc := hls.1
  have hN : tyR.at cx [.int .i64 1, .int .i64 0, .slice none 0 0] number := Q1X (Rep.SR.nil _ _ _)
  obtain ⟨vr, va, rfl, hr, ha⟩ := Q1h hx
  unfold Fins
  all_goals refine Q9Z ?_
  all_goals (unfold judge_State_ins_lc; refine Q0 ?_; refine Q2 ?_; refine zb hS ?_; intro p3 w1 hS; refine zn ?_; refine Q0 ?_; refine Q2 ?_; refine zb1 [_, _, _] ?_; refine Qb hS ?_; intro p4 w1 hS; refine zsn hS ?_; intro w1 hS; have hS := hS.ns; refine zn ?_; refine Q0 ?_; refine Q2 ?_; refine Q1 rfl ?_; (first | (refine Qq hS rfl fd rfl ?_) | (refine zl hS ?_)); refine zn ?_; refine Qa ?_; refine Q0 ?_; refine Q0 ?_; refine Q2 ?_)
  all_goals (first | (refine Qw ?_) | (refine Qy ?_) | (refine Ql rfl rfl (fun hc => ?_) (fun hc => ?_)))
  all_goals (refine zm ?_; refine zn ?_)
  all_goals
    first
    | (refine Q3 rfl ?_ -- Qf c0
       all_goals refine zsk ?_)
    | (refine Q4 rfl ?_ -- Qf c0
       all_goals (refine Q2 ?_)
       all_goals (first | (refine Qw ?_) | (refine Qy ?_) | (refine Ql rfl rfl (fun hc => ?_) (fun hc => ?_)))
       all_goals (refine zm ?_)
       all_goals refine zn ?_)
  all_goals
    first
    | (refine Q3 rfl ?_ -- Qf c1
       all_goals (refine Q2 ?_; refine zm ?_; refine zv hS ?_; refine zE2 (c := Qaq (s := s) (by omega) hN hls hS fd) (p := by rintro v9 w9 ⟨rfl, h80, hS⟩; (repeat (first | refine Qx ?_ | refine QA ?_ | refine fun _ => ?_)); refine QZ ?_; refine .inr ⟨_, rfl, ?_⟩; exact ⟨_, by rw [Qey (by omega), Q92 h80], rfl, (St.back0 hS.sp hi)⟩) (h := ?_); rintro v1 w1 ⟨rfl, hne, vl4, cs4, hls4, hS⟩; have hS := hS.ns; have hJ : JOk cx L j i (jins m j.f s x) (.tuple #[]) w1 := ⟨rfl, cx, ⟨s.h, _⟩, vl4, cs4, St.refl hS, by rw [Qey (by omega), Q5i hne], hls4, (St.back hS.sp hi)⟩; refine zn ?_)
       all_goals (refine Q1M ?_; exact .inl ⟨_, rfl, hJ⟩))
    | (refine Q4 rfl ?_ -- Qf c1
       all_goals (refine Q0 ?_; refine Q2 ?_)
       all_goals (first | (refine Qw ?_) | (refine Qy ?_) | (refine Ql rfl rfl (fun hc => ?_) (fun hc => ?_)))
       all_goals (refine zm ?_; refine zn ?_)
       all_goals
         first
         | (refine Q3 rfl ?_ -- Qf c2
            all_goals (refine Q0 ?_; refine Q2 ?_; refine zm ?_; refine Q1 rfl ?_; (first | (refine Qq hS rfl fd rfl ?_) | (refine zl hS ?_)); refine zE3 (c := Q5j (s := s) hls hS fd) (p := by rintro v9 w9 ⟨c, h1, rfl, hS⟩; (repeat (first | refine Qx ?_ | refine QA ?_ | refine fun _ => ?_)); refine QZ ?_; refine .inr ⟨_, rfl, ?_⟩; exact ⟨_, by rw [QhR (by omega), Qu h1], rfl, (St.back0 hS.sp hi)⟩) (h := ?_); rintro v1 w1 ⟨t1, cs1, h1, rfl, hrd1, hS⟩; skip; refine zn ?_; refine Q0 ?_; refine Q2 ?_; refine zm ?_; refine Q1 rfl ?_; (first | (refine Qq hS rfl fd rfl ?_) | (refine zl hS ?_)); refine zE3 (c := Q5j (s := s) hls hS fd) (p := by rintro v9 w9 ⟨c, h2, rfl, hS⟩; (repeat (first | refine Qx ?_ | refine QA ?_ | refine fun _ => ?_)); refine QZ ?_; refine .inr ⟨_, rfl, ?_⟩; exact ⟨_, by rw [QhR (by omega), Q9 h1, Qu h2], rfl, (St.back0 hS.sp hi)⟩) (h := ?_); rintro v1 w1 ⟨t2, cs2, h2, rfl, hrd2, hS⟩; skip; refine zn ?_; refine Q2 ?_; refine zm ?_; refine zv hS ?_; refine zE2 (c := Qaq (s := s) (by omega) hN hls hS fd) (p := by rintro v9 w9 ⟨rfl, h80, hS⟩; (repeat (first | refine Qx ?_ | refine QA ?_ | refine fun _ => ?_)); refine QZ ?_; refine .inr ⟨_, rfl, ?_⟩; exact ⟨_, by rw [QhR (by omega), Q9 h1, Q9 h2, Q92 h80], rfl, (St.back0 hS.sp hi)⟩) (h := ?_); rintro v1 w1 ⟨rfl, hne, vl4, cs4, hls4, hS⟩; have hS := hS.ns; have hJ : JOk cx L j i (jins m j.f s x) (.tuple #[]) w1 := ⟨rfl, cx, ⟨s.h, _⟩, vl4, cs4, St.refl hS, by rw [QhR (by omega), Q9 h1, Q9 h2, Q5i hne], hls4, (St.back hS.sp hi)⟩)
            all_goals (refine zn ?_)
            all_goals (refine Q1M ?_; exact .inl ⟨_, rfl, hJ⟩))
         | (refine Q4 rfl ?_ -- Qf c2
            all_goals (refine Q0 ?_; refine Q2 ?_)
            all_goals (first | (refine Qw ?_) | (refine Qy ?_) | (refine Ql rfl rfl (fun hc => ?_) (fun hc => ?_)))
            all_goals (refine zm ?_; refine zn ?_)
            all_goals
              first
              | (refine Q4 rfl ?_ -- Qf c3
                 all_goals (refine Q0 ?_; refine Q2 ?_)
                 all_goals (first | (refine Qw ?_) | (refine Qy ?_) | (refine Ql rfl rfl (fun hc => ?_) (fun hc => ?_)))
                 all_goals (refine zm ?_; refine zn ?_)
                 all_goals
                   first
                   | (refine Q3 rfl ?_ -- Qf c4
                      all_goals (refine Q0 ?_; refine Q2 ?_; refine zm ?_; refine Q1 rfl ?_; (first | (refine Qq hS rfl fd rfl ?_) | (refine zl hS ?_)); refine zE3 (c := Qlr (s := s) hls hS fd) (p := by rintro v9 w9 ⟨c, h1, rfl, hS⟩; (repeat (first | refine Qx ?_ | refine QA ?_ | refine fun _ => ?_)); refine QZ ?_; refine .inr ⟨_, rfl, ?_⟩; exact ⟨_, by rw [Qo1 (by omega), Qu h1], rfl, (St.back0 hS.sp hi)⟩) (h := ?_); rintro v1 w1 ⟨t1, cs1, h1, rfl, hrd1, hS⟩; obtain ⟨vd1, rfl, hld1⟩ := Qi hrd1; refine Qv7 rfl rfl ?_; refine zm ?_; refine zn ?_; refine Q0 ?_; refine Q2 ?_; refine zm ?_; refine zm ?_; refine Qk rfl ?_; refine Q1 rfl ?_; (first | refine Q1 rfl ?_ | refine Q12 rfl ?_); refine Qq hS rfl fd rfl ?_)
                      all_goals (first | (refine Q1V ?_) | (refine Q1W ?_) | (refine QG rfl rfl (fun hc => ?_) (fun hc => ?_)))
                      all_goals (first | (refine zR2 (c := Q2P hS) (h := ?_); rintro v1 w1 ⟨rfl, hS⟩) | (refine zE2 (c := Q2O hS) (p := by rintro v9 w9 ⟨rfl, hS⟩; (repeat (first | refine Qx ?_ | refine QA ?_ | refine fun _ => ?_)); refine QZ ?_; refine .inr ⟨_, rfl, ?_⟩; exact ⟨_, by rw [Qo1 (by omega), Q9 h1, if_pos (by omega)], rfl, (St.back0 hS.sp hi)⟩) (h := fun _ _ h => h.elim)))
                      all_goals (refine zn ?_; refine Q2 ?_; refine zm ?_; refine Qk rfl ?_; refine Q1 rfl ?_; refine Qq hS rfl fd rfl ?_; refine zm ?_; refine zR2 (c := jshut_c (Qez h1).2.2.2 hS fd) (h := ?_); rintro v1 w1 ⟨rfl, hS⟩; have hS := hS.ns; have hJ : JOk cx L j i (jins m j.f s x) (.tuple #[]) w1 := ⟨rfl, cx, ⟨s.h.set t1.r.toNat false, s.l⟩, vl, css, St.refl hS, by rw [Qo1 (by omega), Q9 h1, if_neg (by omega)], hls, (St.back hS.sp hi)⟩; refine zn ?_)
                      all_goals (refine Q1M ?_; exact .inl ⟨_, rfl, hJ⟩))
                   | (refine Q4 rfl ?_ -- Qf c4
                      all_goals (refine Q0 ?_; refine Q2 ?_)
                      all_goals (first | (refine Qw ?_) | (refine Qy ?_) | (refine Ql rfl rfl (fun hc => ?_) (fun hc => ?_)))
                      all_goals (refine zm ?_; refine zn ?_)
                      all_goals
                        first
                        | (refine Q3 rfl ?_ -- Qf c5
                           all_goals (refine Q2 ?_; refine zm ?_; refine zv hS ?_; refine zE2 (c := jtuple_c (Qxs hF (by omega)) hn hx' hls hS fd) (p := by rintro v9 w9 ⟨c, g1, rfl, hS⟩; (repeat (first | refine Qx ?_ | refine QA ?_ | refine fun _ => ?_)); refine QZ ?_; refine .inr ⟨_, rfl, ?_⟩; exact ⟨_, by rw [QrG (by omega)]; exact g1, rfl, (St.back0 hS.sp hi)⟩) (h := ?_); rintro v1 w1 ⟨rfl, c1, s1, vl4, cs4, hle, hr1, hls4, hS⟩; have hS := hS.ns; have hJ : JOk cx L j i (jins m j.f s x) (.tuple #[]) w1 := ⟨rfl, c1, s1, vl4, cs4, hle, by rw [QrG (by omega)]; exact hr1, hls4, (St.back hS.sp hi)⟩; refine zn ?_)
                           all_goals (refine Q1M ?_; exact .inl ⟨_, rfl, hJ⟩))
                        | (refine Q4 rfl ?_ -- Qf c5
                           all_goals (refine Q0 ?_; refine Q2 ?_)
                           all_goals (first | (refine Qw ?_) | (refine Qy ?_) | (refine Ql rfl rfl (fun hc => ?_) (fun hc => ?_)))
                           all_goals (refine zm ?_; refine zn ?_)
                           all_goals
                             first
                             | (refine Q3 rfl ?_ -- Qf c6
                                all_goals (refine zC [(0, none), (1, none), (2, none), (3, none), (4, none), (6, none), (7, none), (5, some (some [7])), (8, some (some [])), (9, some none)] ?_; have hS := hS.drew; refine s_cq ?_; refine zm ?_; refine zt ?_; refine s_cq ?_; refine zm ?_; refine zt ?_; refine s_cq ?_; refine zm ?_; refine zt ?_; refine s_cq ?_; refine Q1 rfl ?_; refine zt ?_; refine s_cq ?_; (first | (refine Qq hS rfl fd rfl ?_) | (refine zl hS ?_)); refine zt ?_; refine s_cq ?_; refine Q1 rfl ?_; refine zt ?_; refine s_cq ?_; (first | (refine Qq hS rfl fd rfl ?_) | (refine zl hS ?_)); refine zt ?_; refine QE ?_; refine zE3 (c := Qlr (s := s) hls hS fd) (p := by rintro v9 w9 ⟨c, h1, rfl, hS⟩; (repeat (first | refine Qx ?_ | refine QA ?_ | refine fun _ => ?_)); refine QZ ?_; refine .inr ⟨_, rfl, ?_⟩; exact ⟨_, by rw [QhQ (by omega), Qu h1], rfl, (St.back0 hS.sp hi)⟩) (h := ?_); rintro v1 w1 ⟨t1, cs1, h1, rfl, hrd1, hS⟩; have hrd1' := hrd1; obtain ⟨vd1, rfl, hld1⟩ := Qi hrd1; refine zt ?_; refine ⟨List.forall_mem_cons.2 ⟨(by first | (exact Q1t hS rfl fd rfl) | (exact Q1O hS rfl fd rfl)), fun _ h => (List.not_mem_nil h).elim⟩, ?_⟩)
                                all_goals (refine QE ?_; refine zE3 (c := Qgu (j := j) (Q6e hF (by omega)) hrd1' hS) (p := by rintro v9 w9 ⟨c, h2, rfl, hS⟩; (repeat (first | refine Qx ?_ | refine QA ?_ | refine fun _ => ?_)); refine QZ ?_; refine .inr ⟨_, rfl, ?_⟩; exact ⟨_, by rw [QhQ (by omega), Q9 h1, Qu h2], rfl, (St.back0 hS.sp hi)⟩) (h := ?_); rintro v1 w1 ⟨t2, cs2, h2, rfl, hrd2, hS⟩; skip; refine zt ?_; refine ⟨fun _ h => (List.not_mem_nil h).elim, ?_⟩; refine s_cf ?_; refine zE2 (c := Qaq (s := s) (by omega) hrd2 hls hS fd) (p := by rintro v9 w9 ⟨rfl, h80, hS⟩; (repeat (first | refine Qx ?_ | refine QA ?_ | refine fun _ => ?_)); refine QZ ?_; refine .inr ⟨_, rfl, ?_⟩; exact ⟨_, by rw [QhQ (by omega), Q9 h1, Q9 h2, Q92 h80], rfl, (St.back0 hS.sp hi)⟩) (h := ?_); rintro v1 w1 ⟨rfl, hne, vl4, cs4, hls4, hS⟩; have hS := hS.ns; have hJ : JOk cx L j i (jins m j.f s x) (.tuple #[]) w1 := ⟨rfl, cx, ⟨s.h, _⟩, vl4, cs4, St.refl hS, by rw [QhQ (by omega), Q9 h1, Q9 h2, Q5i hne], hls4, (St.back hS.sp hi)⟩; refine zt ?_; refine zcn ?_)
                                all_goals (refine Q1M ?_; exact .inl ⟨_, rfl, hJ⟩))
                             | (refine Q4 rfl ?_ -- Qf c6
                                all_goals (refine Q0 ?_; refine Q2 ?_)
                                all_goals (first | (refine Qw ?_) | (refine Qy ?_) | (refine Ql rfl rfl (fun hc => ?_) (fun hc => ?_)))
                                all_goals (refine zm ?_; refine zn ?_)
                                all_goals
                                  first
                                  | (refine Q3 rfl ?_ -- Qf c7
                                     all_goals (refine Q0 ?_)
                                     refine Q3N 4 8 (by kernel_rfl) ?_ ?_
                                     · skip
                                       refine Q3N 7 8 (by kernel_rfl) ?_ ?_
                                       · skip
                                         all_goals (refine zC [(0, none), (1, none), (2, none), (3, none), (5, none), (6, none), (4, some (some [6])), (7, some none), (8, some none), (9, some none)] ?_; have hS := hS.drew; refine s_cq ?_; refine zm ?_; refine zt ?_; refine s_cq ?_; refine zm ?_; refine zt ?_; refine s_cq ?_; refine Q1 rfl ?_; refine zt ?_; refine s_cq ?_; (first | (refine Qq hS rfl fd rfl ?_) | (refine zl hS ?_)); refine zt ?_; refine s_cq ?_; refine Q1 rfl ?_; refine zt ?_; refine s_cq ?_; (first | (refine Qq hS rfl fd rfl ?_) | (refine zl hS ?_)); refine zt ?_; refine QE ?_; refine zE3 (c := Qlr (s := s) hls hS fd) (p := by rintro v9 w9 ⟨c, h1, rfl, hS⟩; (repeat (first | refine Qx ?_ | refine QA ?_ | refine fun _ => ?_)); refine QZ ?_; refine .inr ⟨_, rfl, ?_⟩; exact ⟨_, by rw [Q3i (by omega), Qu h1], rfl, (St.back0 hS.sp hi)⟩) (h := ?_); rintro v1 w1 ⟨t1, cs1, h1, rfl, hrd1, hS⟩; have hrd1' := hrd1; obtain ⟨vd1, rfl, hld1⟩ := Qi hrd1; refine zt ?_; refine ⟨List.forall_mem_cons.2 ⟨(by first | (exact Q1t hS rfl fd rfl) | (exact Q1O hS rfl fd rfl)), fun _ h => (List.not_mem_nil h).elim⟩, ?_⟩)
                                         all_goals (refine s_cf ?_; refine zE3 (c := Qgu (j := j) (Q6e hF (by omega)) hrd1' hS) (p := by rintro v9 w9 ⟨c, h2, rfl, hS⟩; (repeat (first | refine Qx ?_ | refine QA ?_ | refine fun _ => ?_)); refine QZ ?_; refine .inr ⟨_, rfl, ?_⟩; exact ⟨_, by rw [Q3i (by omega), Q9 h1, Qu h2], rfl, (St.back0 hS.sp hi)⟩) (h := ?_); rintro v1 w1 ⟨t2, cs2, h2, rfl, hrd2, hS⟩; have hrd2' := hrd2; obtain ⟨vd2, rfl, hld2⟩ := Qi hrd2; refine zt ?_; refine s_cf ?_; refine Qb hS ?_; intro p6 w1 hS; refine zt ?_; refine s_cf ?_; refine zsn hS ?_; intro w1 hS; have hS := hS.ns; refine zt ?_; refine zcn ?_; refine zC [(0, none), (1, none), (2, none), (3, none), (4, some (some [0])), (5, some none), (6, none), (7, some none)] ?_; have hS := hS.drew; refine s_cq ?_; refine zv hS ?_; refine zt ?_; refine s_cq ?_; refine zm ?_; refine zt ?_; refine s_cq ?_; refine Q1 rfl ?_; refine zt ?_; refine s_cq ?_; (first | (refine Qq hS rfl fd rfl ?_) | (refine zl hS ?_)); refine zt ?_; refine QE ?_; refine zE2 (c := Q6F (s := s) hls hS fd) (p := by rintro v9 w9 ⟨c, h3, rfl, hS⟩; (repeat (first | refine Qx ?_ | refine QA ?_ | refine fun _ => ?_)); refine QZ ?_; refine .inr ⟨_, rfl, ?_⟩; exact ⟨_, by rw [Q3i (by omega), Q9 h1, Q9 h2, Qu h3], rfl, (St.back0 hS.sp hi)⟩) (h := ?_); rintro v1 w1 ⟨t3, cs3, h3, rfl, hrd3, hS⟩; skip)
                                         all_goals (refine zt ?_; refine ⟨List.forall_mem_cons.2 ⟨(by first | (exact Q1t hS rfl fd rfl) | (exact Q3e hS rfl fd rfl rfl)), fun _ h => (List.not_mem_nil h).elim⟩, ?_⟩; refine s_cf ?_; refine zR2 (c := QhD _ _ hrd2' hrd3 hS) (h := ?_); rintro v1 w1 ⟨rfl, hS⟩; refine zt ?_; refine s_cq ?_; refine Q1o rfl ?_; refine zt ?_; refine s_cf ?_; refine zE2 (c := Q3Y hS) (p := by rintro v9 w9 ⟨rfl, hb, hS⟩; (repeat (first | refine Qx ?_ | refine QA ?_ | refine fun _ => ?_)); refine QZ ?_; refine .inr ⟨_, rfl, ?_⟩; exact ⟨_, by rw [Q3i (by omega), Q9 h1, Q9 h2, Q9 h3, if_pos (by simpa using hb)], rfl, (St.back0 hS.sp hi)⟩) (h := ?_); rintro v1 w1 ⟨rfl, hb, hS⟩; refine zt ?_; refine zcn ?_; have hJ : JOk cx L j i (jins m j.f s x) (.tuple #[]) w1 := ⟨rfl, cx, s, vl, css, St.refl hS, by rw [Q3i (by omega), Q9 h1, Q9 h2, Q9 h3, if_neg (by simpa using hb)], hls, (St.back hS.sp hi)⟩; refine Q1M ?_; exact .inl ⟨_, rfl, hJ⟩)
                                       · skip
                                         all_goals (refine zC [(0, none), (1, none), (2, none), (3, none), (5, none), (6, none), (4, some (some [6])), (8, some (some [6])), (7, some none), (9, some none)] ?_; have hS := hS.drew; refine s_cq ?_; refine zm ?_; refine zt ?_; refine s_cq ?_; refine zm ?_; refine zt ?_; refine s_cq ?_; refine Q1 rfl ?_; refine zt ?_; refine s_cq ?_; (first | (refine Qq hS rfl fd rfl ?_) | (refine zl hS ?_)); refine zt ?_; refine s_cq ?_; refine Q1 rfl ?_; refine zt ?_; refine s_cq ?_; (first | (refine Qq hS rfl fd rfl ?_) | (refine zl hS ?_)); refine zt ?_; refine QE ?_; refine zE3 (c := Qlr (s := s) hls hS fd) (p := by rintro v9 w9 ⟨c, h1, rfl, hS⟩; (repeat (first | refine Qx ?_ | refine QA ?_ | refine fun _ => ?_)); refine QZ ?_; refine .inr ⟨_, rfl, ?_⟩; exact ⟨_, by rw [Q3i (by omega), Qu h1], rfl, (St.back0 hS.sp hi)⟩) (h := ?_); rintro v1 w1 ⟨t1, cs1, h1, rfl, hrd1, hS⟩; have hrd1' := hrd1; obtain ⟨vd1, rfl, hld1⟩ := Qi hrd1; refine zt ?_; refine ⟨List.forall_mem_cons.2 ⟨(by first | (exact Q1t hS rfl fd rfl) | (exact Q1O hS rfl fd rfl)), fun _ h => (List.not_mem_nil h).elim⟩, ?_⟩)
                                         all_goals (refine QE ?_; refine Qb hS ?_; intro p6 w1 hS; refine zt ?_; refine ⟨List.forall_mem_cons.2 ⟨(by first | (exact Q1t hS rfl fd rfl) | (exact Q1O hS rfl fd rfl)), fun _ h => (List.not_mem_nil h).elim⟩, ?_⟩; refine s_cf ?_; refine zE3 (c := Qgu (j := j) (Q6e hF (by omega)) hrd1' hS) (p := by rintro v9 w9 ⟨c, h2, rfl, hS⟩; (repeat (first | refine Qx ?_ | refine QA ?_ | refine fun _ => ?_)); refine QZ ?_; refine .inr ⟨_, rfl, ?_⟩; exact ⟨_, by rw [Q3i (by omega), Q9 h1, Qu h2], rfl, (St.back0 hS.sp hi)⟩) (h := ?_); rintro v1 w1 ⟨t2, cs2, h2, rfl, hrd2, hS⟩; have hrd2' := hrd2; obtain ⟨vd2, rfl, hld2⟩ := Qi hrd2; refine zt ?_; refine s_cf ?_; refine zsn hS ?_; intro w1 hS; have hS := hS.ns; refine zt ?_; refine zcn ?_; refine zC [(0, none), (1, none), (2, none), (3, none), (4, some (some [0])), (5, some none), (6, none), (7, some none)] ?_; have hS := hS.drew; refine s_cq ?_; refine zv hS ?_; refine zt ?_; refine s_cq ?_; refine zm ?_; refine zt ?_; refine s_cq ?_; refine Q1 rfl ?_; refine zt ?_; refine s_cq ?_; (first | (refine Qq hS rfl fd rfl ?_) | (refine zl hS ?_)))
                                         all_goals (refine zt ?_; refine QE ?_; refine zE2 (c := Q6F (s := s) hls hS fd) (p := by rintro v9 w9 ⟨c, h3, rfl, hS⟩; (repeat (first | refine Qx ?_ | refine QA ?_ | refine fun _ => ?_)); refine QZ ?_; refine .inr ⟨_, rfl, ?_⟩; exact ⟨_, by rw [Q3i (by omega), Q9 h1, Q9 h2, Qu h3], rfl, (St.back0 hS.sp hi)⟩) (h := ?_); rintro v1 w1 ⟨t3, cs3, h3, rfl, hrd3, hS⟩; skip; refine zt ?_; refine ⟨List.forall_mem_cons.2 ⟨(by first | (exact Q1t hS rfl fd rfl) | (exact Q3e hS rfl fd rfl rfl)), fun _ h => (List.not_mem_nil h).elim⟩, ?_⟩; refine s_cf ?_; refine zR2 (c := QhD _ _ hrd2' hrd3 hS) (h := ?_); rintro v1 w1 ⟨rfl, hS⟩; refine zt ?_; refine s_cq ?_; refine Q1o rfl ?_; refine zt ?_; refine s_cf ?_; refine zE2 (c := Q3Y hS) (p := by rintro v9 w9 ⟨rfl, hb, hS⟩; (repeat (first | refine Qx ?_ | refine QA ?_ | refine fun _ => ?_)); refine QZ ?_; refine .inr ⟨_, rfl, ?_⟩; exact ⟨_, by rw [Q3i (by omega), Q9 h1, Q9 h2, Q9 h3, if_pos (by simpa using hb)], rfl, (St.back0 hS.sp hi)⟩) (h := ?_); rintro v1 w1 ⟨rfl, hb, hS⟩; refine zt ?_; refine zcn ?_; have hJ : JOk cx L j i (jins m j.f s x) (.tuple #[]) w1 := ⟨rfl, cx, s, vl, css, St.refl hS, by rw [Q3i (by omega), Q9 h1, Q9 h2, Q9 h3, if_neg (by simpa using hb)], hls, (St.back hS.sp hi)⟩; refine Q1M ?_; exact .inl ⟨_, rfl, hJ⟩)
                                     · skip
                                       all_goals (refine zC [(0, none), (1, none), (2, none), (3, none), (5, none), (6, none), (8, some (some [3, 6])), (4, some (some [6])), (7, some none), (9, some none)] ?_; have hS := hS.drew; refine s_cq ?_; refine zm ?_; refine zt ?_; refine s_cq ?_; refine zm ?_; refine zt ?_; refine s_cq ?_; refine Q1 rfl ?_; refine zt ?_; refine s_cq ?_; (first | (refine Qq hS rfl fd rfl ?_) | (refine zl hS ?_)); refine zt ?_; refine s_cq ?_; refine Q1 rfl ?_; refine zt ?_; refine s_cq ?_; (first | (refine Qq hS rfl fd rfl ?_) | (refine zl hS ?_)); refine zt ?_; refine QE ?_; refine Qb hS ?_; intro p6 w1 hS; refine zt ?_; refine ⟨List.forall_mem_cons.2 ⟨(by first | (exact Q1t hS rfl fd rfl) | (exact Q1O hS rfl fd rfl)), List.forall_mem_cons.2 ⟨(by first | (exact Q1t hS rfl fd rfl) | (exact Q1O hS rfl fd rfl)), fun _ h => (List.not_mem_nil h).elim⟩⟩, ?_⟩; refine QE ?_; refine zE3 (c := Qlr (s := s) hls hS fd) (p := by rintro v9 w9 ⟨c, h1, rfl, hS⟩; (repeat (first | refine Qx ?_ | refine QA ?_ | refine fun _ => ?_)); refine QZ ?_; refine .inr ⟨_, rfl, ?_⟩; exact ⟨_, by rw [Q3i (by omega), Qu h1], rfl, (St.back0 hS.sp hi)⟩) (h := ?_); rintro v1 w1 ⟨t1, cs1, h1, rfl, hrd1, hS⟩; have hrd1' := hrd1; obtain ⟨vd1, rfl, hld1⟩ := Qi hrd1)
                                       all_goals (refine zt ?_; refine ⟨List.forall_mem_cons.2 ⟨(by first | (exact Q1t hS rfl fd rfl) | (exact Q1O hS rfl fd rfl)), fun _ h => (List.not_mem_nil h).elim⟩, ?_⟩; refine s_cf ?_; refine zE3 (c := Qgu (j := j) (Q6e hF (by omega)) hrd1' hS) (p := by rintro v9 w9 ⟨c, h2, rfl, hS⟩; (repeat (first | refine Qx ?_ | refine QA ?_ | refine fun _ => ?_)); refine QZ ?_; refine .inr ⟨_, rfl, ?_⟩; exact ⟨_, by rw [Q3i (by omega), Q9 h1, Qu h2], rfl, (St.back0 hS.sp hi)⟩) (h := ?_); rintro v1 w1 ⟨t2, cs2, h2, rfl, hrd2, hS⟩; have hrd2' := hrd2; obtain ⟨vd2, rfl, hld2⟩ := Qi hrd2; refine zt ?_; refine s_cf ?_; refine zsn hS ?_; intro w1 hS; have hS := hS.ns; refine zt ?_; refine zcn ?_; refine zC [(0, none), (1, none), (2, none), (3, none), (4, some (some [0])), (5, some none), (6, none), (7, some none)] ?_; have hS := hS.drew; refine s_cq ?_; refine zv hS ?_; refine zt ?_; refine s_cq ?_; refine zm ?_; refine zt ?_; refine s_cq ?_; refine Q1 rfl ?_; refine zt ?_; refine s_cq ?_; (first | (refine Qq hS rfl fd rfl ?_) | (refine zl hS ?_)); refine zt ?_)
                                       all_goals (refine QE ?_; refine zE2 (c := Q6F (s := s) hls hS fd) (p := by rintro v9 w9 ⟨c, h3, rfl, hS⟩; (repeat (first | refine Qx ?_ | refine QA ?_ | refine fun _ => ?_)); refine QZ ?_; refine .inr ⟨_, rfl, ?_⟩; exact ⟨_, by rw [Q3i (by omega), Q9 h1, Q9 h2, Qu h3], rfl, (St.back0 hS.sp hi)⟩) (h := ?_); rintro v1 w1 ⟨t3, cs3, h3, rfl, hrd3, hS⟩; skip; refine zt ?_; refine ⟨List.forall_mem_cons.2 ⟨(by first | (exact Q1t hS rfl fd rfl) | (exact Q3e hS rfl fd rfl rfl)), fun _ h => (List.not_mem_nil h).elim⟩, ?_⟩; refine s_cf ?_; refine zR2 (c := QhD _ _ hrd2' hrd3 hS) (h := ?_); rintro v1 w1 ⟨rfl, hS⟩; refine zt ?_; refine s_cq ?_; refine Q1o rfl ?_; refine zt ?_; refine s_cf ?_; refine zE2 (c := Q3Y hS) (p := by rintro v9 w9 ⟨rfl, hb, hS⟩; (repeat (first | refine Qx ?_ | refine QA ?_ | refine fun _ => ?_)); refine QZ ?_; refine .inr ⟨_, rfl, ?_⟩; exact ⟨_, by rw [Q3i (by omega), Q9 h1, Q9 h2, Q9 h3, if_pos (by simpa using hb)], rfl, (St.back0 hS.sp hi)⟩) (h := ?_); rintro v1 w1 ⟨rfl, hb, hS⟩; refine zt ?_; refine zcn ?_; have hJ : JOk cx L j i (jins m j.f s x) (.tuple #[]) w1 := ⟨rfl, cx, s, vl, css, St.refl hS, by rw [Q3i (by omega), Q9 h1, Q9 h2, Q9 h3, if_neg (by simpa using hb)], hls, (St.back hS.sp hi)⟩)
                                       all_goals (refine Q1M ?_; exact .inl ⟨_, rfl, hJ⟩))
                                  | (refine Q4 rfl ?_ -- Qf c7
                                     all_goals (refine Q0 ?_; refine Q2 ?_)
                                     all_goals (first | (refine Qw ?_) | (refine Qy ?_) | (refine Ql rfl rfl (fun hc => ?_) (fun hc => ?_)))
                                     all_goals (refine zm ?_; refine zn ?_)
                                     all_goals
                                       first
                                       | (refine Q3 rfl ?_ -- Qf c8
                                          all_goals (refine Q0 ?_; refine Q2 ?_; refine zm ?_; refine Q1 rfl ?_; (first | (refine Qq hS rfl fd rfl ?_) | (refine zl hS ?_)); refine zE3 (c := Qlr (s := s) hls hS fd) (p := by rintro v9 w9 ⟨c, h1, rfl, hS⟩; (repeat (first | refine Qx ?_ | refine QA ?_ | refine fun _ => ?_)); refine QZ ?_; refine .inr ⟨_, rfl, ?_⟩; exact ⟨_, by rw [QhP (by omega), Qu h1], rfl, (St.back0 hS.sp hi)⟩) (h := ?_); rintro v1 w1 ⟨t1, cs1, h1, rfl, hrd1, hS⟩; obtain ⟨vd1, rfl, hld1⟩ := Qi hrd1; refine Qv7 rfl rfl ?_; refine zm ?_; refine zn ?_; refine Q0 ?_; refine Q2 ?_; refine zm ?_; refine Q1 rfl ?_; (first | (refine Qq hS rfl fd rfl ?_) | (refine zl hS ?_)); refine zE3 (c := Q5j (s := s) hls hS fd) (p := by rintro v9 w9 ⟨c, h2, rfl, hS⟩; (repeat (first | refine Qx ?_ | refine QA ?_ | refine fun _ => ?_)); refine QZ ?_; refine .inr ⟨_, rfl, ?_⟩; exact ⟨_, by rw [QhP (by omega), Q9 h1, Qu h2], rfl, (St.back0 hS.sp hi)⟩) (h := ?_); rintro v1 w1 ⟨t2, cs2, h2, rfl, hrd2, hS⟩; skip; refine zn ?_; refine Q2 ?_; refine zm ?_; refine zm ?_; refine zb2 [_, _, _] ?_; refine zE2 (c := Qaq (s := s) (by omega) (Q1X (k := 4) (r := t1.r) (l := []) (Rep.SR.nil _ _ _)) hls hS fd) (p := by rintro v9 w9 ⟨rfl, h80, hS⟩; (repeat (first | refine Qx ?_ | refine QA ?_ | refine fun _ => ?_)); refine QZ ?_; refine .inr ⟨_, rfl, ?_⟩; exact ⟨_, by rw [QhP (by omega), Q9 h1, Q9 h2, Q92 h80], rfl, (St.back0 hS.sp hi)⟩) (h := ?_); rintro v1 w1 ⟨rfl, hne, vl4, cs4, hls4, hS⟩; have hS := hS.ns; have hJ : JOk cx L j i (jins m j.f s x) (.tuple #[]) w1 := ⟨rfl, cx, ⟨s.h, _⟩, vl4, cs4, St.refl hS, by rw [QhP (by omega), Q9 h1, Q9 h2, Q5i hne], hls4, (St.back hS.sp hi)⟩)
                                          all_goals refine zn ?_)
                                       | (refine Q4 rfl ?_ -- Qf c8
                                          all_goals (refine Q0 ?_; refine Q2 ?_)
                                          all_goals (first | (refine Qw ?_) | (refine Qy ?_) | (refine Ql rfl rfl (fun hc => ?_) (fun hc => ?_)))
                                          all_goals (refine zm ?_; refine zn ?_)
                                          all_goals
                                            first
                                            | (refine Q3 rfl ?_ -- Qf c9
                                               all_goals (refine Q0 ?_; refine Q2 ?_; refine zm ?_; refine Q1 rfl ?_; (first | (refine Qq hS rfl fd rfl ?_) | (refine zl hS ?_)); refine zE3 (c := Qlr (s := s) hls hS fd) (p := by rintro v9 w9 ⟨c, h1, rfl, hS⟩; (repeat (first | refine Qx ?_ | refine QA ?_ | refine fun _ => ?_)); refine QZ ?_; refine .inr ⟨_, rfl, ?_⟩; exact ⟨_, by rw [QhO (by omega), Qu h1], rfl, (St.back0 hS.sp hi)⟩) (h := ?_); rintro v1 w1 ⟨t1, cs1, h1, rfl, hrd1, hS⟩; skip; refine zn ?_; refine Q0 ?_; refine Q2 ?_; refine zm ?_; refine Q1 rfl ?_; (first | (refine Qq hS rfl fd rfl ?_) | (refine zl hS ?_)); refine zE3 (c := Q5j (s := s) hls hS fd) (p := by rintro v9 w9 ⟨c, h2, rfl, hS⟩; (repeat (first | refine Qx ?_ | refine QA ?_ | refine fun _ => ?_)); refine QZ ?_; refine .inr ⟨_, rfl, ?_⟩; exact ⟨_, by rw [QhO (by omega), Q9 h1, Qu h2], rfl, (St.back0 hS.sp hi)⟩) (h := ?_); rintro v1 w1 ⟨t2, cs2, h2, rfl, hrd2, hS⟩; skip; refine zn ?_; refine Q2 ?_; refine zm ?_; refine zv hS ?_; refine zE2 (c := Qaq (s := s) (by omega) hN hls hS fd) (p := by rintro v9 w9 ⟨rfl, h80, hS⟩; (repeat (first | refine Qx ?_ | refine QA ?_ | refine fun _ => ?_)); refine QZ ?_; refine .inr ⟨_, rfl, ?_⟩; exact ⟨_, by rw [QhO (by omega), Q9 h1, Q9 h2, Q92 h80], rfl, (St.back0 hS.sp hi)⟩) (h := ?_); rintro v1 w1 ⟨rfl, hne, vl4, cs4, hls4, hS⟩; have hS := hS.ns; have hJ : JOk cx L j i (jins m j.f s x) (.tuple #[]) w1 := ⟨rfl, cx, ⟨s.h, _⟩, vl4, cs4, St.refl hS, by rw [QhO (by omega), Q9 h1, Q9 h2, Q5i hne], hls4, (St.back hS.sp hi)⟩)
                                               all_goals refine zn ?_)
                                            | (refine Q4 rfl ?_ -- Qf c9
                                               all_goals (refine Q0 ?_; refine Q2 ?_)
                                               all_goals (first | (refine Qw ?_) | (refine Qy ?_) | (refine Ql rfl rfl (fun hc => ?_) (fun hc => ?_)))
                                               all_goals (refine zm ?_; refine zn ?_)
                                               all_goals
                                                 first
                                                 | (refine Q3 rfl ?_ -- Qf c10
                                                    all_goals (refine Q0 ?_; refine Q2 ?_; refine zm ?_; refine Q1 rfl ?_; (first | (refine Qq hS rfl fd rfl ?_) | (refine zl hS ?_)); refine zE3 (c := Qlr (s := s) hls hS fd) (p := by rintro v9 w9 ⟨c, h1, rfl, hS⟩; (repeat (first | refine Qx ?_ | refine QA ?_ | refine fun _ => ?_)); refine QZ ?_; refine .inr ⟨_, rfl, ?_⟩; exact ⟨_, by rw [Q93 (by omega), Qu h1], rfl, (St.back0 hS.sp hi)⟩) (h := ?_); rintro v1 w1 ⟨t1, cs1, h1, rfl, hrd1, hS⟩; skip; refine zn ?_; refine Q0 ?_; refine Q2 ?_; refine zm ?_; refine Q1 rfl ?_; (first | (refine Qq hS rfl fd rfl ?_) | (refine zl hS ?_)); refine zE3 (c := Q5j (s := s) hls hS fd) (p := by rintro v9 w9 ⟨c, h2, rfl, hS⟩; (repeat (first | refine Qx ?_ | refine QA ?_ | refine fun _ => ?_)); refine QZ ?_; refine .inr ⟨_, rfl, ?_⟩; exact ⟨_, by rw [Q93 (by omega), Q9 h1, Qu h2], rfl, (St.back0 hS.sp hi)⟩) (h := ?_); rintro v1 w1 ⟨t2, cs2, h2, rfl, hrd2, hS⟩; skip; refine zn ?_; refine Q2 ?_; refine zm ?_; refine Q1 rfl ?_; (first | (refine Qq hS rfl fd rfl ?_) | (refine zl hS ?_)))
                                                    all_goals (refine zE3 (c := Q5j (s := s) hls hS fd) (p := by rintro v9 w9 ⟨c, h3, rfl, hS⟩; (repeat (first | refine Qx ?_ | refine QA ?_ | refine fun _ => ?_)); refine QZ ?_; refine .inr ⟨_, rfl, ?_⟩; exact ⟨_, by rw [Q93 (by omega), Q9 h1, Q9 h2, Qu h3], rfl, (St.back0 hS.sp hi)⟩) (h := ?_); rintro v1 w1 ⟨t3, cs3, h3, rfl, hrd3, hS⟩; skip; refine zn ?_)
                                                    all_goals (have hJ : JOk cx L j i (jins m j.f s x) (.tuple #[]) w1 := ⟨rfl, cx, s, vl, css, St.refl hS, by rw [Q93 (by omega), Q9 h1, Q9 h2, Q9 h3], hls, (St.back hS.sp hi)⟩))
                                                 | (refine Q4 rfl ?_ -- Qf c10
                                                    all_goals (refine Q0 ?_; refine Q2 ?_)
                                                    all_goals (first | (refine Qw ?_) | (refine Qy ?_) | (refine Ql rfl rfl (fun hc => ?_) (fun hc => ?_)))
                                                    all_goals (refine zm ?_; refine zn ?_)
                                                    all_goals
                                                      first
                                                      | (refine Q3 rfl ?_ -- Qf c11
                                                         all_goals (refine Q0 ?_; refine Q2 ?_; refine zm ?_; refine Q1 rfl ?_; (first | (refine Qq hS rfl fd rfl ?_) | (refine zl hS ?_)); refine zE3 (c := Qlr (s := s) hls hS fd) (p := by rintro v9 w9 ⟨c, h1, rfl, hS⟩; (repeat (first | refine Qx ?_ | refine QA ?_ | refine fun _ => ?_)); refine QZ ?_; refine .inr ⟨_, rfl, ?_⟩; exact ⟨_, by rw [QbR (by omega), Qu h1], rfl, (St.back0 hS.sp hi)⟩) (h := ?_); rintro v1 w1 ⟨t1, cs1, h1, rfl, hrd1, hS⟩; skip; refine zn ?_; refine Q2 ?_; refine zm ?_; refine zv hS ?_; refine zE2 (c := Qaq (s := s) (by omega) hN hls hS fd) (p := by rintro v9 w9 ⟨rfl, h80, hS⟩; (repeat (first | refine Qx ?_ | refine QA ?_ | refine fun _ => ?_)); refine QZ ?_; refine .inr ⟨_, rfl, ?_⟩; exact ⟨_, by rw [QbR (by omega), Q9 h1, Q92 h80], rfl, (St.back0 hS.sp hi)⟩) (h := ?_); rintro v1 w1 ⟨rfl, hne, vl4, cs4, hls4, hS⟩; have hS := hS.ns; have hJ : JOk cx L j i (jins m j.f s x) (.tuple #[]) w1 := ⟨rfl, cx, ⟨s.h, _⟩, vl4, cs4, St.refl hS, by rw [QbR (by omega), Q9 h1, Q5i hne], hls4, (St.back hS.sp hi)⟩)
                                                         all_goals refine zn ?_)
                                                      | (refine Q4 rfl ?_ -- Qf c11
                                                         all_goals (refine Q0 ?_; refine Q2 ?_)
                                                         all_goals (first | (refine Qw ?_) | (refine Qy ?_) | (refine Ql rfl rfl (fun hc => ?_) (fun hc => ?_)))
                                                         all_goals (refine zm ?_; refine zn ?_)
                                                         all_goals
                                                           first
                                                           | (refine Q3 rfl ?_ -- Qf c12
                                                              all_goals (refine Q2 ?_; refine zm ?_; refine Q1 rfl ?_; (first | (refine Qq hS rfl fd rfl ?_) | (refine zl hS ?_)); refine zE3 (c := Q5j (s := s) hls hS fd) (p := by rintro v9 w9 ⟨c, h1, rfl, hS⟩; (repeat (first | refine Qx ?_ | refine QA ?_ | refine fun _ => ?_)); refine QZ ?_; refine .inr ⟨_, rfl, ?_⟩; exact ⟨_, by rw [QhT (by omega), Qu h1], rfl, (St.back0 hS.sp hi)⟩) (h := ?_); rintro v1 w1 ⟨t1, cs1, h1, rfl, hrd1, hS⟩; skip; refine zn ?_)
                                                              all_goals (have hJ : JOk cx L j i (jins m j.f s x) (.tuple #[]) w1 := ⟨rfl, cx, s, vl, css, St.refl hS, by rw [QhT (by omega), Q9 h1], hls, (St.back hS.sp hi)⟩))
                                                           | (refine Q4 rfl ?_ -- Qf c12
                                                              all_goals (refine Q0 ?_; refine Q2 ?_)
                                                              all_goals (refine Qw ?_)
                                                              all_goals (refine zm ?_; refine zn ?_)
                                                              all_goals
                                                                first
                                                                | (refine Q3 rfl ?_ -- Qf c13
                                                                   all_goals (refine Q2 ?_; refine zm ?_; refine zv hS ?_; refine zE2 (c := jcall_c hm (QrR hF (by omega)) hn hj hx' hls hS fd) (p := by rintro v9 w9 ⟨c, g1, rfl, hS⟩; (repeat (first | refine Qx ?_ | refine QA ?_ | refine fun _ => ?_)); refine QZ ?_; refine .inr ⟨_, rfl, ?_⟩; exact ⟨_, by rw [QhS (by omega)]; exact g1, rfl, (St.back0 hS.sp hi)⟩) (h := ?_); rintro v1 w1 ⟨rfl, c1, s1, vl4, cs4, hle, hr1, hls4, hS⟩; have hS := hS.ns; have hJ : JOk cx L j i (jins m j.f s x) (.tuple #[]) w1 := ⟨rfl, c1, s1, vl4, cs4, hle, by rw [QhS (by omega)]; exact hr1, hls4, (St.back hS.sp hi)⟩)
                                                                   all_goals refine zn ?_))))))
                                     all_goals (refine Q1M ?_; exact .inl ⟨_, rfl, hJ⟩))))))
              | (refine Q3 rfl ?_ -- Qf c3
                 all_goals (refine Q0 ?_; refine Q2 ?_; refine zm ?_; refine Qk rfl ?_; refine Q1 rfl ?_; refine Qq hS rfl fd rfl ?_; refine zR1 (c := jlen_c hS fd) (h := ?_); rintro v1 w1 ⟨rfl, hS⟩)
                 all_goals (first | (refine Qw ?_) | (refine Qy ?_) | (refine Ql rfl rfl (fun hc => ?_) (fun hc => ?_)))
                 all_goals (refine zm ?_; (first | refine s_gn rfl rfl ?_ | (refine s_gy rfl ?_; refine zm ?_)); (first | refine s_gn rfl rfl ?_ | (refine s_gy rfl ?_; refine Qk rfl ?_)); (first | refine s_gn rfl rfl ?_ | (refine s_gy rfl ?_; refine Q1 rfl ?_)); (first | refine s_gn rfl rfl ?_ | (refine s_gy rfl ?_; refine Qq hS rfl fd rfl ?_)); (first | refine s_gn rfl rfl ?_ | (refine s_gy rfl ?_; refine QnW hS fd vw hlc ?_)))
                 all_goals (first | refine s_gn rfl rfl ?_ | (refine s_gy rfl ?_; (first | (refine Qw ?_) | (refine Qy ?_) | (refine Ql rfl rfl (fun hc => ?_) (fun hc => ?_)))))
                 all_goals ((first | (refine zpt ?_) | (refine zpf ?_)))
                 all_goals (first | (refine zR2 (c := Q2P hS) (h := ?_); rintro v1 w1 ⟨rfl, hS⟩) | (refine zE2 (c := Q2O hS) (p := by rintro v9 w9 ⟨rfl, hS⟩; (repeat (first | refine Qx ?_ | refine QA ?_ | refine fun _ => ?_)); refine QZ ?_; refine .inr ⟨_, rfl, ?_⟩; exact ⟨_, by rw [QrH (by omega), if_pos (by omega)], rfl, (St.back0 hS.sp hi)⟩) (h := fun _ _ h => h.elim)))
                 all_goals (refine zn ?_; refine Q2 ?_; refine zm ?_; refine zm ?_; refine Qk rfl ?_; refine Q1 rfl ?_; refine Qq hS rfl fd rfl ?_; refine zR1 (c := jopen_c (h := s.h) (by omega) hS fd) (h := ?_); rintro v1 w1 ⟨rfl, hS⟩; have hS := hS.ns; refine zb2 [_, _, _] ?_; refine zE2 (c := Qaq (s := s) (by omega) (Q1X (k := 2) (r := s.h.length) (l := []) (Rep.SR.nil _ _ _)) hls hS fd) (p := by rintro v9 w9 ⟨rfl, h80, hS⟩; (repeat (first | refine Qx ?_ | refine QA ?_ | refine fun _ => ?_)); refine QZ ?_; refine .inr ⟨_, rfl, ?_⟩; (exfalso; omega)) (h := ?_); rintro v1 w1 ⟨rfl, hne, vl4, cs4, hls4, hS⟩; have hS := hS.ns; have hJ : JOk cx L j i (jins m j.f s x) (.tuple #[]) w1 := ⟨rfl, cx, ⟨s.h ++ [true], _⟩, vl4, cs4, St.refl hS, by rw [QrH (by omega), if_neg (by omega)], hls4, (St.back hS.sp hi)⟩; refine zn ?_)
                 all_goals (refine Q1M ?_; exact .inl ⟨_, rfl, hJ⟩))))
end Go.Proofs.YtanlkfeogoganaaGreat
namespace Go.Proofs.YtanlkfeogoganaaGreat
open Go.Lir
set_option maxHeartbeats 1000000
attribute [local irreducible] LC.wp Q5 Q11 Q1f retQ Q2h LO.wp QD Calls
set_option linter.unusedSimpArgs false
set_option linter.unusedVariables false
attribute [local irreducible] hasB Q21 Q1N Q1Q Q3S upTo
variable {cx : Cx} {w : World} {L : List Res} {j : JP} {h : List Bool} {vl : Value} {css : List (List Value)} {i : Nat} {m : Module}
theorem jto_c {s : JS} {t : To} {cs : List Value} (hsf : j.f.Short) (hb : 0 ≤ t.block ∧ t.block < j.f.blocks.length) (hfb : ∀ b ∈ j.f.blocks, j.f.regs ≤ b.regs) (hh : s.h.length ≤ 16) (hj : j.Fits cx m) (hx : toR.at cx cs t) (hls : tyR.ls cx css s.l) (hS : St cx w L) (hi : nth L i = some (j.res s.h vl css)) :
    Fins Tryz.prog Q7A [.pointer (some ⟨j.sp, 0, none⟩), .agg ⟨cs⟩] w (fun u w' => jto j.f s t = .ok () ∧ u = .tuple #[] ∧ St cx w' L) (JNo cx L (jto j.f s t)) := by
  have hS := hS.out hi
  obtain ⟨vr, va, rfl, hr, ha⟩ := Q3v hx
  have hlr := hr.len
  have hbl := hj.b
  unfold Fins
  all_goals refine QbH ?_
  all_goals (unfold judge_State_to_lc; refine Q0 ?_; refine Q2 ?_; refine zb hS ?_; intro p3 w1 hS; refine zn ?_; refine Q0 ?_; refine zC [(0, none), (1, none), (2, none), (3, none), (4, none), (5, none), (6, none), (7, none), (8, none), (9, some (some [4, 6, 8])), (10, some none)] ?_; have hS := hS.drew; refine s_cq ?_; refine zm ?_; refine zt ?_; refine s_cq ?_; refine Qk rfl ?_; refine zt ?_; refine s_cq ?_; refine Q1 rfl ?_; refine zt ?_; refine s_cq ?_; (first | refine Q1 rfl ?_ | refine Q12 rfl ?_); refine zt ?_; refine s_cq ?_; refine Qq hS rfl fd rfl ?_; refine zt ?_; refine s_cq ?_; refine Q1 rfl ?_; refine zt ?_; refine s_cq ?_; (first | (refine Qq hS rfl fd rfl ?_) | (refine zl hS ?_)); refine zt ?_; refine s_cq ?_; ((first | refine zi ?_ | refine zj ?_); intro b1 o1 cs1 x1 hat1 hx1 he1; obtain ⟨vp1, vc1, ve11, ve12, ve13, ve14, ve15, rfl, hp1, hc1, he11, he12, he13, he14, he15⟩ := Q1c he1); refine zt ?_; refine s_cq ?_; (first | (refine zv hS ?_) | (refine zvk hS ?_)); refine zt ?_; refine QE ?_; refine Qb hS ?_; intro p4 w1 hS)
  all_goals (refine zt ?_; refine ⟨List.forall_mem_cons.2 ⟨(by (exact Q1t hS rfl fd rfl)), List.forall_mem_cons.2 ⟨(by first | (exact Q1t hS rfl fd rfl) | (exact Q1O hS rfl fd rfl)), List.forall_mem_cons.2 ⟨(by first | (exact Q1t hS rfl fd rfl) | (exact Q3e hS rfl fd rfl rfl) | (exact Q4O hS (by assumption) rfl rfl rfl)), fun _ h => (List.not_mem_nil h).elim⟩⟩⟩, ?_⟩; refine s_cf ?_; refine zsn hS ?_; intro w1 hS; have hS := hS.ns; refine zt ?_; refine zcn ?_; have hbm := List.mem_of_getElem? hx1; have hf1 := hfb x1 hbm; have hsb := hsf.2.2.2 x1 hbm; refine Q0 ?_; refine Q2 ?_; refine Q1 rfl ?_; (first | (refine Qq hS rfl fd rfl ?_) | (refine zl hS ?_)); refine zL ?_; refine Q1 rfl ?_; (first | (refine Qq hS rfl fd rfl ?_) | (refine zl hS ?_)))
  all_goals (first | (refine QQ ?_) | (refine QR ?_) | (refine Qm rfl rfl (fun hc => ?_) (fun hc => ?_)))
  all_goals (first | (refine zR2 (c := Q2P hS) (h := ?_); rintro v1 w1 ⟨rfl, hS⟩) | (refine zE2 (c := Q2O hS) (p := by rintro v9 w9 ⟨rfl, hS⟩; (repeat (first | refine Qx ?_ | refine QA ?_ | refine fun _ => ?_)); refine QZ ?_; refine .inr ⟨_, rfl, ?_⟩; exact ⟨_, Qxg hx1 (by omega), rfl, (St.back0 hS.sp hi)⟩) (h := fun _ _ h => h.elim)))
  all_goals (refine zn ?_; refine Q0 ?_; refine Q0 ?_; refine Q2 ?_; refine zm ?_; refine Qk rfl ?_; refine Q1 rfl ?_; (first | refine Q1 rfl ?_ | refine Q12 rfl ?_); refine Qq hS rfl fd rfl ?_; refine zm ?_; refine zn ?_; refine Qa ?_)
  refine zoL hS [0, 3, 4, 27] (fun A LL ρ' w' => ∃ (q : Nat), Has ρ' A ∧ Has ρ' [(28, .int .i64 q)] ∧ (q ≤ j.f.regs.toNat) ∧ (Q3S t.regs q = true) ∧ (¬ (t.regs.length : Int) ≠ x1.regs) ∧ St cx w' (LL)) (fun ρ' _ => (j.f.regs - iv (ρ' 28)).toNat) ?_ ?_
  · exact ⟨0, zh, zh, (by omega), by unfold Q3S; rfl, by omega, hS.sp⟩
  rintro ρ w1 ⟨q, hA, hρ, hq, hk, hne, hS⟩; obtain ⟨ρ, rfl⟩ := env2 hA hρ
  unfold Q4G
  all_goals (refine Q0 ?_; refine Q2 ?_; refine Qr rfl rfl ?_; refine zn ?_; refine Q0 ?_)
  refine Qn rfl (fun hc => ?_) (fun hc => ?_)
  · skip
    all_goals (refine zsk ?_; refine Q0 ?_; refine Qa ?_; refine Q0 ?_; refine Q2 ?_; refine zm ?_; refine zm ?_; refine zn ?_; refine Q2 ?_; refine Q1 rfl ?_; (first | (refine Qq hS rfl fd rfl ?_) | (refine zl hS ?_)); refine zm ?_; refine zi ?_; intro b2 o2 cs2 x2 hat2 hx2 he2; obtain rfl := QJ he2; (first | (refine Qq hS rfl fd rfl ?_) | (refine zl hS ?_) | (refine zlk hS ?_)); refine zm ?_)
    all_goals (first | (refine QQ ?_) | (refine QR ?_) | (refine Qm rfl rfl (fun hc => ?_) (fun hc => ?_)))
    all_goals (first | (refine zR2 (c := Q2P hS) (h := ?_); rintro v1 w1 ⟨rfl, hS⟩) | (refine zE2 (c := Q2O hS) (p := by rintro v9 w9 ⟨rfl, hS⟩; (repeat (first | refine Qx ?_ | refine QA ?_ | refine fun _ => ?_)); refine QZ ?_; refine .inr ⟨_, rfl, ?_⟩; exact ⟨_, Qvn hx1 hne (QoF (q := q) (by omega) (by rw [hx2]; intro h; cases h; omega)), rfl, (St.back0 hS.sp hi)⟩) (h := fun _ _ h => h.elim)))
    all_goals (refine zn ?_; refine Q2 ?_; refine zad ?_; refine zm ?_; refine zn ?_; exact ⟨⟨q + 1, zh, zh, (by omega), by rw [kept_s, hk, hx2]; simp; omega, hne, hS.sp⟩, Qo (by omega)⟩)
  · skip
    all_goals (refine zex ?_; have hq' : q = j.f.regs.toNat := (by omega); rw [hq'] at hk; refine Q0 ?_; refine zD [(0, none), (1, none), (2, none), (3, none), (4, none), (5, none), (6, some none), (7, some none)] ?_; have hS := hS.drew; refine zm ?_; refine Qk rfl ?_; refine Q1 rfl ?_; refine Qq hS rfl fd rfl ?_; refine Q1 rfl ?_; (first | (refine Qq hS rfl fd rfl ?_) | (refine zl hS ?_)); refine zR2 (c := jpass_c (h := s.h) hh hr hS fd) (h := ?_); rintro v1 w1 ⟨rfl, hS⟩; refine zm ?_; refine zn ?_; refine Q0 ?_; refine Q2 ?_; refine zm ?_; refine Q5c rfl rfl ?_; refine zm ?_; refine zE2 (c := Q3Y hS) (p := by rintro v9 w9 ⟨rfl, hb, hS⟩; (repeat (first | refine Qx ?_ | refine QA ?_ | refine fun _ => ?_)); refine QZ ?_; refine .inr ⟨_, rfl, ?_⟩; exact ⟨_, jto_p hx1 hne hk (of_decide_eq_true hb), rfl, (St.back0 hS.sp hi)⟩) (h := ?_); rintro v1 w1 ⟨rfl, hb, hS⟩; refine zn ?_; refine Q2 ?_; refine zm ?_; refine Q1 rfl ?_; (first | (refine Qq hS rfl fd rfl ?_) | (refine zl hS ?_)); refine Q1 rfl ?_; (first | (refine Qq hS rfl fd rfl ?_) | (refine zl hS ?_)))
    all_goals (refine Q1 rfl ?_; (first | (refine Qq hS rfl fd rfl ?_) | (refine zl hS ?_)); refine zE4 (c := QtO (s := s) hsb.1.2 hls ha hp1 hr hS fd) (p := by rintro v9 w9 ⟨c, g1, rfl, hS⟩; (repeat (first | refine Qx ?_ | refine QA ?_ | refine fun _ => ?_)); refine QZ ?_; refine .inr ⟨_, rfl, ?_⟩; exact ⟨_, (jto_a hx1 hne hk (Classical.not_not.1 (of_decide_eq_false hb))).trans g1, rfl, (St.back0 hS.sp hi)⟩) (h := ?_); rintro v1 w1 ⟨har, rfl, hS⟩; refine zn ?_; refine Q1M ?_; exact .inl ⟨_, rfl, (jto_a hx1 hne hk (Classical.not_not.1 (of_decide_eq_false hb))).trans har, rfl, (St.back0 hS.sp hi)⟩)
theorem jend_c {s : JS} {e : Tail} {cs : List Value} (hsf : j.f.Short) (hF : Q1P j.f.blocks.length e = 0) (hfb : ∀ b ∈ j.f.blocks, j.f.regs ≤ b.regs) (hfr : j.f.regs ≤ 100000) (hh : s.h.length ≤ 16) (hj : j.Fits cx m) (hx : endR.at cx cs e) (hls : tyR.ls cx css s.l) (hS : St cx w L) (hi : nth L i = some (j.res s.h vl css)) :
    Fins Tryz.prog Q1p [.pointer (some ⟨j.sp, 0, none⟩), .agg ⟨cs⟩] w (fun u w' => jend j.f s e = .ok () ∧ u = .tuple #[] ∧ St cx w' L) (JNo cx L (jend j.f s e)) := by
  have hS := hS.out hi
  obtain ⟨v1, v2, v3, v4, v5, rfl, h1, h2, h3, h4, h5⟩ := Q5r hx
  have hop := Qo7 hF
  have hy : e.op ≠ 3 → 0 ≤ e.yes.block ∧ e.yes.block < j.f.blocks.length := fun h => Qgl (by have := hop.2.2.1; rwa [decide_eq_true h] at this)
  have hz : e.op = 2 → 0 ≤ e.no.block ∧ e.no.block < j.f.blocks.length := fun h => Qgl (by have := hop.2.2.2; rwa [decide_eq_true h] at this)
  have hT1 : toR.at cx [.int .i64 e.yes.block, v1, v2] e.yes := ⟨_, _, rfl, h1, h2⟩
  have hT2 : toR.at cx [.int .i64 e.no.block, v3, v4] e.no := ⟨_, _, rfl, h3, h4⟩
  have hjr := hj.r
  unfold Fins
  all_goals refine Qaa ?_
  all_goals (unfold judge_State_end_lc; refine Q0 ?_; refine Q2 ?_; refine zb hS ?_; intro p3 w1 hS; refine zn ?_; refine Q0 ?_; refine Q2 ?_; refine Q1 rfl ?_; (first | (refine Qq hS rfl fd rfl ?_) | (refine zl hS ?_)); refine zn ?_; refine Qa ?_; refine Q0 ?_; refine Q2 ?_)
  all_goals (first | (refine Qw ?_) | (refine Qy ?_) | (refine Ql rfl rfl (fun hc => ?_) (fun hc => ?_)))
  all_goals (refine zm ?_; refine zn ?_)
  all_goals
    first
    | (refine Q3 rfl ?_ -- Q1p c0
       all_goals (refine Q2 ?_; refine zm ?_; refine Q1 rfl ?_; refine zv hS ?_; refine zE2 (c := jto_c (s := s) hsf (hy (by omega)) hfb hh hj hT1 hls hS fd) (p := by rintro v9 w9 ⟨c, g1, rfl, hS⟩; (repeat (first | refine Qx ?_ | refine QA ?_ | refine fun _ => ?_)); refine QZ ?_; refine .inr ⟨_, rfl, ?_⟩; exact ⟨_, (Qxk (by omega)).trans g1, rfl, (St.back0 hS.sp hi)⟩) (h := ?_); rintro v6 w1 ⟨g1, rfl, hS⟩; have hJ := (Qxk (f := j.f) (s := s) (e := e) (by omega)).trans g1; refine zn ?_)
       all_goals (refine Q1M ?_; exact .inl ⟨_, rfl, hJ, rfl, (St.back0 hS.sp hi)⟩))
    | (refine Q4 rfl ?_ -- Q1p c0
       all_goals (refine Q0 ?_; refine Q2 ?_)
       all_goals (first | (refine Qw ?_) | (refine Qy ?_) | (refine Ql rfl rfl (fun hc => ?_) (fun hc => ?_)))
       all_goals (refine zm ?_; refine zn ?_)
       all_goals
         first
         | (refine Q3 rfl ?_ -- Q1p c1
            all_goals (refine Q0 ?_; refine Q2 ?_; refine zm ?_; refine Q1 rfl ?_; (first | (refine Qq hS rfl fd rfl ?_) | (refine zl hS ?_)); refine zE3 (c := Q5j (s := s) hls hS fd) (p := by rintro v9 w9 ⟨c, g1, rfl, hS⟩; (repeat (first | refine Qx ?_ | refine QA ?_ | refine fun _ => ?_)); refine QZ ?_; refine .inr ⟨_, rfl, ?_⟩; exact ⟨_, by rw [QhU (by omega), Qu g1], rfl, (St.back0 hS.sp hi)⟩) (h := ?_); rintro v6 w1 ⟨t1, cs1, g1, rfl, hrd1, hS⟩; refine zn ?_; refine Q0 ?_; refine Q2 ?_; refine zm ?_; refine Q1 rfl ?_; refine zv hS ?_; refine zE2 (c := jto_c (s := s) hsf (hy (by omega)) hfb hh hj hT1 hls hS fd) (p := by rintro v9 w9 ⟨c, g2, rfl, hS⟩; (repeat (first | refine Qx ?_ | refine QA ?_ | refine fun _ => ?_)); refine QZ ?_; refine .inr ⟨_, rfl, ?_⟩; exact ⟨_, by rw [QhU (by omega), Q9 g1, Qu g2], rfl, (St.back0 hS.sp hi)⟩) (h := ?_); rintro v6 w1 ⟨g2, rfl, hS⟩; refine zn ?_; refine Q2 ?_; refine zm ?_; refine Q1 rfl ?_; refine zv hS ?_; refine zE2 (c := jto_c (s := s) hsf (hz (by omega)) hfb hh hj hT2 hls hS fd) (p := by rintro v9 w9 ⟨c, g3, rfl, hS⟩; (repeat (first | refine Qx ?_ | refine QA ?_ | refine fun _ => ?_)); refine QZ ?_; refine .inr ⟨_, rfl, ?_⟩; exact ⟨_, by rw [QhU (by omega), Q9 g1, Q9 g2]; exact g3, rfl, (St.back0 hS.sp hi)⟩) (h := ?_); rintro v6 w1 ⟨g3, rfl, hS⟩; have hJ : jend j.f s e = .ok () := (by rw [QhU (by omega), Q9 g1, Q9 g2]; exact g3))
            all_goals (refine zn ?_)
            all_goals (refine Q1M ?_; exact .inl ⟨_, rfl, hJ, rfl, (St.back0 hS.sp hi)⟩))
         | (refine Q4 rfl ?_ -- Q1p c1
            all_goals (refine Q0 ?_; refine Q2 ?_)
            all_goals (refine Qw ?_)
            all_goals (refine zm ?_; refine zn ?_)
            all_goals
              first
              | (refine Q4 rfl ?_ -- Q1p c2
                 all_goals (refine zsk ?_)
                 all_goals (refine Q1M ?_; exact .inl ⟨_, rfl, hJ, rfl, (St.back0 hS.sp hi)⟩))
              | (refine Q3 rfl ?_ -- Q1p c2
                 all_goals (refine Q0 ?_; refine Q2 ?_; refine zm ?_; refine zn ?_; refine Q0 ?_; refine Q0 ?_; refine Q2 ?_; refine zm ?_; refine Qk rfl ?_; refine Q1 rfl ?_; (first | refine Q1 rfl ?_ | refine Q12 rfl ?_); refine Qq hS rfl fd rfl ?_; refine zm ?_; refine zn ?_; refine Qa ?_; have hS := St.nil (T := 3) (es := 1) hS)
                 refine zo [0, 3, 34] (fun A ρ' w' => ∃ (q : Nat) (vo : Value) (co : List (List Value)), Has ρ' A ∧ Has ρ' [(35, .int .i64 q), (4, vo)] ∧ (q ≤ j.f.regs.toNat) ∧ (intR.ls cx co (upTo q)) ∧ ((upTo q).length = q) ∧ (e.op = 3) ∧ St cx w' (sl 3 1 vo co :: blk p3 45 [.int .i64 e.op, .int .i64 e.a, .int .i64 e.yes.block, v1, v2, .int .i64 e.no.block, v3, v4, v5] :: j.res s.h vl css :: L.eraseIdx i)) (fun ρ' _ => (j.f.regs - iv (ρ' 35)).toNat) ?_ ?_
                 · exact ⟨0, _, [], zh, zh, (by omega), by unfold upTo; exact Rep.LR.nil _ _ _, by unfold upTo; rfl, by omega, hS.sp⟩
                 rintro ρ w1 ⟨q, vo, co, hA, hρ, hq, hlo, hlq, ho3, hS⟩; obtain ⟨ρ, rfl⟩ := env2 hA hρ
                 unfold Q3T
                 all_goals (refine Q0 ?_; refine Q2 ?_; refine Qr rfl rfl ?_; refine zn ?_; refine Q0 ?_)
                 refine Qn rfl (fun hc => ?_) (fun hc => ?_)
                 · skip
                   all_goals (refine zsk ?_; refine Q0 ?_; refine Qa ?_; refine Q0 ?_; refine Q2 ?_; refine zm ?_; refine zm ?_; refine zn ?_; refine Q2 ?_; refine zm ?_; refine zm ?_; refine zB1 hS [_] ?_; intro b1 w1 hS; refine za Q7D Qoj hS ?_; intro vp1 w1 css1 hls1 hv1 hS; have hS := hS.ns; refine zm ?_; refine zn ?_; refine Q2 ?_; refine zad ?_; refine zm ?_; refine zn ?_; exact ⟨⟨q + 1, _, _, zh, zh, (by omega), by rw [Qv3]; exact hls1, by rw [Qv3, List.length_append, hlq]; rfl, ho3, hS.sp⟩, Qo (by omega)⟩)
                 · skip
                   all_goals (refine zex ?_; have hq' : q = j.f.regs.toNat := (by omega); rw [hq'] at hlo; obtain ⟨c1, hle2, hS, hk1⟩ := St.freezeL (r := intR) hS hlo rfl (by rw [← hq']; omega); have hls' := hls.up hle2; have h5' := h5.up hle2; have hjr' := hjr.up hle2; refine Q0 ?_; refine zD [(0, none), (1, none), (2, none), (3, none), (4, none), (5, none), (6, none), (7, none), (8, none), (9, some none)] ?_; have hS := hS.drew; refine zm ?_; refine Q1 rfl ?_; (first | (refine Qq hS rfl fd rfl ?_) | (refine zl hS ?_)); refine zm ?_; refine Qk rfl ?_; refine Q1 rfl ?_; (first | refine Q1 rfl ?_ | refine Q12 rfl ?_); refine Qq hS rfl fd rfl ?_; refine zm ?_; refine zE4 (c := QtO (s := s) hsf.2.1.2 hls' h5' hjr' hk1 hS fd) (p := by rintro v9 w9 ⟨c, g1, rfl, hS⟩; (repeat (first | refine Qx ?_ | refine QA ?_ | refine fun _ => ?_)); refine QZ ?_; refine .inr ⟨_, rfl, ?_⟩; exact ⟨_, by rw [Qo3 ho3, Qu g1], rfl, St.weak (St.back0 hS.sp hi) hle2⟩) (h := ?_); rintro v6 w1 ⟨har, rfl, hS⟩; refine zn ?_; refine zC [(0, none), (1, none), (2, none), (3, none), (6, none), (7, none), (8, none), (9, none), (10, none), (4, some (some [10])), (5, none), (11, none), (12, some none)] ?_; have hS := hS.drew)
                   all_goals (refine s_cq ?_; refine zm ?_; refine zt ?_; refine s_cq ?_; refine Qk rfl ?_; refine zt ?_; refine s_cq ?_; refine Q1 rfl ?_; refine zt ?_; refine s_cq ?_; refine Qq hS rfl fd rfl ?_; refine zt ?_; refine s_cq ?_; refine zm ?_; refine zt ?_; refine s_cq ?_; refine Qk rfl ?_; refine zt ?_; refine s_cq ?_; refine Q1 rfl ?_; refine zt ?_; refine s_cq ?_; (first | refine Q1 rfl ?_ | refine Q12 rfl ?_); refine zt ?_; refine s_cq ?_; refine Qq hS rfl fd rfl ?_; refine zt ?_; refine QE ?_; refine zR1 (c := jlist_c (h := s.h) hh hS fd) (h := ?_); rintro v1 w1 ⟨c2, hle3, hk2, hS⟩; have hS := St.weak hS hle3; have hS := St.weak hS hle2; have hl2 := hk2.len; refine zt ?_; refine ⟨List.forall_mem_cons.2 ⟨(by (exact Q1t hS rfl fd rfl)), fun _ h => (List.not_mem_nil h).elim⟩, ?_⟩; refine s_cq ?_; refine zL ?_; refine zt ?_; refine s_cq ?_; refine Qhu rfl rfl ?_; refine zt ?_; refine s_cf ?_)
                   all_goals (refine zE2 (c := Q3Y hS) (p := by rintro v9 w9 ⟨rfl, hb, hS⟩; (repeat (first | refine Qx ?_ | refine QA ?_ | refine fun _ => ?_)); refine QZ ?_; refine .inr ⟨_, rfl, ?_⟩; exact ⟨_, by rw [Qo3 ho3, Q9 har, if_pos (by have := of_decide_eq_true hb; omega)], rfl, (St.back0 hS.sp hi)⟩) (h := ?_); rintro v1 w1 ⟨rfl, hb, hS⟩; have hJ : jend j.f s e = .ok () := (by rw [Qo3 ho3, Q9 har, if_neg (by have := of_decide_eq_false hb; omega)]); refine zt ?_; refine zcn ?_)
                   all_goals (refine Q1M ?_; exact .inl ⟨_, rfl, hJ, rfl, (St.back0 hS.sp hi)⟩))))
end Go.Proofs.YtanlkfeogoganaaGreat
namespace Go.Proofs.YtanlkfeogoganaaGreat
open Go.Lir
set_option maxHeartbeats 1000000
attribute [local irreducible] LC.wp Q5 Q11 Q1f retQ Q2h LO.wp QD Calls
set_option linter.unusedSimpArgs false
set_option linter.unusedVariables false
attribute [local irreducible] hasB Q21 Q1N Q1Q Q3S upTo
variable {cx : Cx} {w : World} {L : List Res} {j : JP} {h : List Bool} {vl : Value} {css : List (List Value)} {i : Nat} {m : Module}
theorem QxD {p : Nat} {n : Int} (hS : St cx w (blk p 3 [.int .i64 n] :: L)) : Defs Tryz.prog Q4w [.pointer (some ⟨p, 0, none⟩)] .returning w fun u' w' => u' = .returning ∧ St cx w' (blk p 3 [.int .i64 n] :: L) := by
  unfold Defs
  all_goals refine Q4d ?_
  all_goals (unfold judge_caught_1_ld; refine r_seq ?_; refine r_sp ?_; refine zn ?_; refine zm ?_; refine zn ?_; refine r_pl ?_; refine Q0 ?_; refine Q2 ?_; refine zm ?_; refine s_inil_f (ms := #[]) (by kernel_rfl) rfl ?_; refine zn ?_)
  all_goals refine Q4 rfl ?_
  all_goals (refine zsk ?_; refine q_endR ?_; refine Q1M ?_; exact ⟨⟨_, rfl⟩, rfl, hS.sp⟩)
theorem QxC {p : Nat} {n e : Int} (hS : St cx w (blk p 3 [.int .i64 n] :: L)) : Defs Tryz.prog Q4w [.pointer (some ⟨p, 0, none⟩)] (.panicking [{ v := QaB e, recovered := false }]) w fun u' w' => u' = .panicking [{ v := QaB e, recovered := true }] ∧ St cx w' (blk p 3 [.int .i64 e] :: L) := by
  unfold Defs
  all_goals refine Q4d ?_
  all_goals (unfold judge_caught_1_ld; refine r_seq ?_; refine r_sp ?_; refine zn ?_; refine zm ?_; refine zn ?_; refine r_pl ?_; refine Q0 ?_; refine Q2 ?_; refine zm ?_; refine s_inil_t (ms := #[]) (by kernel_rfl) rfl ?_; refine zn ?_)
  all_goals refine Q3 rfl ?_
  all_goals (refine Q0 ?_; refine Q2 ?_; refine zm ?_; refine s_assert (D := .int .i64) (by kernel_rfl) (by intro m; exact TypeDesc.noConfusion) rfl ?_; refine zm ?_; refine Q47 rfl rfl ?_; refine Q47 rfl rfl ?_; refine zm ?_; refine zm ?_; refine zn ?_; refine Q0 ?_; refine Q0 ?_; refine Q2 ?_; refine zm ?_; refine Q1o rfl ?_; refine zn ?_)
  all_goals refine Q4 rfl ?_
  all_goals (refine zsk ?_; refine Q2 ?_; refine zm ?_; refine zst hS ?_; intro w1 hS; have hS := hS.ns; refine zn ?_; refine q_endR ?_; refine Q1M ?_; exact ⟨⟨_, rfl⟩, rfl, hS.sp⟩)
theorem Qvy {f : FuncId} {cap : List Value} {X : Cx → List Res → Prop} {Y : Int → Cx → List Res → Prop} (hf : Q4P Tryz.prog f = true)
    (hc : ∀ (p : Nat) (w : World), St cx w (blk p 3 [.int .i64 0] :: L) → Fins Tryz.prog f cap w (fun _ w' => ∃ c' L', cx.Le c' ∧ St c' w' (blk p 3 [.int .i64 0] :: L') ∧ X c' L') (fun u w' => ∃ e c' L', u = QaB e ∧ cx.Le c' ∧ St c' w' (blk p 3 [.int .i64 0] :: L') ∧ Y e c' L')) (hS : St cx w L) :
    Rets Tryz.prog Qex [.func (.func f) #[] ⟨cap⟩] w fun u w' => ∃ e c' L', u = .int .i64 e ∧ cx.Le c' ∧ St c' w' L' ∧ (e = 0 ∧ X c' L' ∨ Y e c' L') := by
  all_goals refine QhN ?_
  all_goals (unfold judge_caught_ld; refine d_seq ?_; refine d_pl ?_; refine Q2 ?_; refine Qb hS ?_; intro p2 w1 hS; refine zn ?_; refine d_seq ?_; refine d_sp ?_; refine QwF ?_; refine zn ?_; refine ⟨_, _, rfl, ?_⟩; refine zn ?_; refine d_pl ?_; refine Q0 ?_; refine Q2 ?_; refine zm ?_)
  all_goals (refine s_endsv rfl hf rfl (hc _ _ hS) (by rintro v9 w9 ⟨e, c1, L1, rfl, hle, hS, hY⟩; (repeat (first | refine Qx ?_ | refine QA ?_)); refine q_panD ?_; refine Qrp (by intro h; cases h) (by kernel_rfl) (QxC hS) ?_; rintro u' w' ⟨rfl, hS⟩; refine Qo0 ?_; refine Q1e vw (Qo4 (by kernel_rfl) (hS.blkAt nth0) rfl) ?_; exact ⟨_, rfl, e, c1, L1, rfl, hle, hS.drop, .inr hY⟩) ?_; rintro v1 w1 ⟨c1, L1, hle, hS, hX⟩)
  all_goals (refine zn ?_; refine Q0 ?_; refine Q2 ?_; refine zst hS ?_; intro w1 hS; have hS := hS.ns; refine zn ?_; refine zr ?_)
  all_goals (refine q_retD ?_; refine Qrp (by intro h; cases h) (by kernel_rfl) (QxD hS) ?_; rintro u1 w1 ⟨rfl, hS⟩; refine Qo0 ?_)
  all_goals (refine Q1e vw (Qo4 (by kernel_rfl) (hS.blkAt fd) rfl) ?_; exact ⟨_, rfl, 0, c1, L1, rfl, hle, hS.drop, .inl ⟨rfl, hX⟩⟩)
theorem jins1_c {s : JS} {x : Ins} {cs : List Value} {p pa pb : Nat} (hm : m.Short) (hF : QF m.funcs.length x = 0) (hn : s.l.length ≤ 80) (hh : s.h.length ≤ 16) (hj : j.Fits cx m) (hx : insR.at cx cs x) (hls : tyR.ls cx css s.l)
    (hS : St cx w (blk p 3 [.int .i64 0] :: blk pb 57 cs :: blk pa 46 [.pointer (some ⟨j.sp, 0, none⟩)] :: j.res s.h vl css :: L)) :
    Fins Tryz.prog Q4I [.pointer (some ⟨pa, 0, none⟩), .pointer (some ⟨pb, 0, none⟩)] w
      (fun _ w' => ∃ c' L', cx.Le c' ∧ St c' w' (blk p 3 [.int .i64 0] :: L') ∧ ∃ s' vl' css', jins m j.f s x = .ok s' ∧ tyR.ls c' css' s'.l ∧ L' = blk pb 57 cs :: blk pa 46 [.pointer (some ⟨j.sp, 0, none⟩)] :: j.res s'.h vl' css' :: L)
      (fun u w' => ∃ e c' L', u = QaB e ∧ cx.Le c' ∧ St c' w' (blk p 3 [.int .i64 0] :: L') ∧ jins m j.f s x = .error e ∧ c' = cx ∧ L' = blk pb 57 cs :: blk pa 46 [.pointer (some ⟨j.sp, 0, none⟩)] :: j.res s.h vl css :: L) := by
  have hx' := hx
  obtain ⟨vr, va, rfl, hr, ha⟩ := Q1h hx
  unfold Fins
  all_goals refine Q7m ?_
  all_goals (unfold judge_State_Ins_1_lc; refine Q2 ?_; refine zl hS ?_; refine zv hS ?_; refine zE2 (c := jins_c hm hF hn hh hj hx' hls hS fd) (p := by rintro v9 w9 ⟨c, g1, rfl, hS⟩; (repeat (first | refine Qx ?_ | refine QA ?_ | refine fun _ => ?_)); refine QZ ?_; refine .inr ⟨_, rfl, ?_⟩; exact ⟨c, cx, _, rfl, St.refl hS, hS, g1, rfl, rfl⟩) (h := ?_); rintro v1 w1 ⟨rfl, c1, s1, vl4, cs4, hle, hr1, hls4, hS⟩; have hS := hS.ns; refine zn ?_; refine Q1M ?_; exact .inl ⟨_, rfl, c1, _, hle, hS, s1, vl4, cs4, hr1, hls4, rfl⟩)
theorem jIns_c {s : JS} {x : Ins} {cs : List Value} (hm : m.Short) (hn : s.l.length ≤ 80) (hh : s.h.length ≤ 16) (hj : j.Fits cx m) (hx : insR.at cx cs x) (hls : tyR.ls cx css s.l) (hS : St cx w L) (hi : nth L i = some (j.res s.h vl css)) :
    Rets Tryz.prog Q3a [.pointer (some ⟨j.sp, 0, none⟩), .agg ⟨cs⟩] w fun u w' => u = .int .i64 (jIns m j.f s x).1 ∧ ∃ c' vl' css', cx.Le c' ∧ tyR.ls c' css' (jIns m j.f s x).2.l ∧ St c' w' (L.set i (j.res (jIns m j.f s x).2.h vl' css')) := by
  have hS := hS.out hi
  have hx' := hx
  obtain ⟨vr, va, rfl, hr, ha⟩ := Q1h hx
  unfold jIns
  all_goals refine Qah ?_
  all_goals (unfold judge_State_Ins_lc; refine Q0 ?_; refine Q2 ?_; refine zb hS ?_; intro p2 w1 hS; refine zb hS ?_; intro p3 w1 hS; refine zm ?_; refine zn ?_; refine Q0 ?_; refine Q0 ?_; refine zD [(0, none), (1, none), (2, none), (3, none), (4, none), (5, some none), (6, some none)] ?_; have hS := hS.drew; (first | (refine Qq hS rfl fd rfl ?_) | (refine zl hS ?_)); refine Qk rfl ?_; refine Q1 rfl ?_; refine Qgn hS rfl fd rfl rfl ?_; (first | (refine Qgn hS rfl fd rfl rfl ?_) | (refine zv hS ?_)); refine zR2 (c := pins_c (m := m) ⟨_, rfl, hj.m⟩ hx' hS) (h := ?_); rintro v1 w1 ⟨rfl, hS⟩; refine zm ?_; refine zn ?_; refine Q0 ?_; refine Q2 ?_; refine zm ?_)
  all_goals (first | (refine QQ ?_) | (refine QR ?_) | (refine Qm rfl rfl (fun hc => ?_) (fun hc => ?_)))
  all_goals (refine zn ?_)
  all_goals
    first
    | (refine Q3 rfl ?_ -- Q3a c0
       all_goals (refine Q0 ?_; refine Q2 ?_; refine zm ?_; refine zm ?_; refine zn ?_; refine zr ?_; refine zf ?_)
       all_goals (exact ⟨_, rfl, by rw [if_pos (by omega)], cx, vl, css, St.refl hS, by rw [if_pos (by omega)]; exact hls, by rw [if_pos (by omega)]; exact (St.back hS.sp hi)⟩))
    | (refine Q4 rfl ?_ -- Q3a c0
       all_goals refine zsk ?_)
  all_goals (refine Q0 ?_; refine Q2 ?_; refine QwF ?_)
  all_goals (refine zR1 (c := Qvy (by kernel_rfl) (fun p w hS => jins1_c (s := s) hm (by omega) hn hh hj hx' hls hS) hS.sp) (h := ?_); rintro v1 w1 ⟨e, c1, L1, rfl, hle, hS, ⟨rfl, s1, vl4, cs4, hr1, hls4, rfl⟩ | ⟨hr1, rfl, rfl⟩⟩)
  all_goals (refine zm ?_; refine zn ?_; refine zr ?_; refine zf ?_; (first | (exact ⟨_, rfl, by rw [if_pos (by omega)], cx, vl, css, St.refl hS, by rw [if_pos (by omega)]; exact hls, by rw [if_pos (by omega)]; exact (St.back hS.sp hi)⟩) | (exact ⟨_, rfl, by rw [if_neg (by omega), hr1], c1, vl4, cs4, hle, by rw [if_neg (by omega), hr1]; exact hls4, by rw [if_neg (by omega), hr1]; exact (St.back hS.sp hi)⟩) | (exact ⟨_, rfl, by rw [if_neg (by omega), hr1], _, vl, css, St.refl hS, by rw [if_neg (by omega), hr1]; exact hls, by rw [if_neg (by omega), hr1]; exact (St.back hS.sp hi)⟩)))
theorem jend1_c {s : JS} {x : Tail} {cs : List Value} {p pa pb : Nat} (hsf : j.f.Short) (hF : Q1P j.f.blocks.length x = 0) (hfb : ∀ b ∈ j.f.blocks, j.f.regs ≤ b.regs) (hfr : j.f.regs ≤ 100000) (hh : s.h.length ≤ 16) (hj : j.Fits cx m) (hx : endR.at cx cs x) (hls : tyR.ls cx css s.l)
    (hS : St cx w (blk p 3 [.int .i64 0] :: blk pb 45 cs :: blk pa 46 [.pointer (some ⟨j.sp, 0, none⟩)] :: j.res s.h vl css :: L)) :
    Fins Tryz.prog Q4J [.pointer (some ⟨pa, 0, none⟩), .pointer (some ⟨pb, 0, none⟩)] w
      (fun _ w' => ∃ c' L', cx.Le c' ∧ St c' w' (blk p 3 [.int .i64 0] :: L') ∧ jend j.f s x = .ok () ∧ c' = cx ∧ L' = blk pb 45 cs :: blk pa 46 [.pointer (some ⟨j.sp, 0, none⟩)] :: j.res s.h vl css :: L)
      (fun u w' => ∃ e c' L', u = QaB e ∧ cx.Le c' ∧ St c' w' (blk p 3 [.int .i64 0] :: L') ∧ jend j.f s x = .error e ∧ c' = cx ∧ L' = blk pb 45 cs :: blk pa 46 [.pointer (some ⟨j.sp, 0, none⟩)] :: j.res s.h vl css :: L) := by
  have hx' := hx
  obtain ⟨u1, u2, u3, u4, u5, rfl, h1, h2, h3, h4, h5⟩ := Q5r hx
  unfold Fins
  all_goals refine Q7o ?_
  all_goals (unfold judge_State_End_1_lc; refine Q2 ?_; refine zl hS ?_; refine zv hS ?_; refine zE2 (c := jend_c hsf hF hfb hfr hh hj hx' hls hS fd) (p := by rintro v9 w9 ⟨c, g1, rfl, hS⟩; (repeat (first | refine Qx ?_ | refine QA ?_ | refine fun _ => ?_)); refine QZ ?_; refine .inr ⟨_, rfl, ?_⟩; exact ⟨c, cx, _, rfl, St.refl hS, hS, g1, rfl, rfl⟩) (h := ?_); rintro v1 w1 ⟨hr1, rfl, hS⟩; refine zn ?_; refine Q1M ?_; exact .inl ⟨_, rfl, cx, _, St.refl hS, hS, hr1, rfl, rfl⟩)
theorem jEnd_c {s : JS} {x : Tail} {cs : List Value} (hsf : j.f.Short) (hfb : ∀ b ∈ j.f.blocks, j.f.regs ≤ b.regs) (hfr : j.f.regs ≤ 100000) (hh : s.h.length ≤ 16) (hj : j.Fits cx m) (hx : endR.at cx cs x) (hls : tyR.ls cx css s.l) (hS : St cx w L) (hi : nth L i = some (j.res s.h vl css)) :
    Rets Tryz.prog Q3b [.pointer (some ⟨j.sp, 0, none⟩), .agg ⟨cs⟩] w fun u w' => u = .int .i64 (jEnd j.f s x) ∧ St cx w' L := by
  have hS := hS.out hi
  have hx' := hx
  obtain ⟨u1, u2, u3, u4, u5, rfl, h1, h2, h3, h4, h5⟩ := Q5r hx
  unfold jEnd
  all_goals refine Qao ?_
  all_goals (unfold judge_State_End_lc; refine Q0 ?_; refine Q2 ?_; refine zb hS ?_; intro p2 w1 hS; refine zb hS ?_; intro p3 w1 hS; refine zm ?_; refine zn ?_; refine Q0 ?_; refine Q0 ?_; refine zD [(0, none), (1, none), (2, none), (3, none), (4, none), (5, some none), (6, some none)] ?_; have hS := hS.drew; (first | (refine Qq hS rfl fd rfl ?_) | (refine zl hS ?_)); refine Qk rfl ?_; refine Q1 rfl ?_; refine Qgn hS rfl fd rfl rfl ?_; (first | (refine Qgn hS rfl fd rfl rfl ?_) | (refine zv hS ?_)); refine zR2 (c := pend_c (x := j.f) ⟨_, _, _, rfl, hj.p, hj.r, hj.b⟩ hx' hS) (h := ?_); rintro v1 w1 ⟨rfl, hS⟩; refine zm ?_; refine zn ?_; refine Q0 ?_; refine Q2 ?_; refine zm ?_)
  all_goals (first | (refine QQ ?_) | (refine QR ?_) | (refine Qm rfl rfl (fun hc => ?_) (fun hc => ?_)))
  all_goals (refine zn ?_)
  all_goals
    first
    | (refine Q3 rfl ?_ -- Q3b c0
       all_goals (refine Q0 ?_; refine Q2 ?_; refine zm ?_; refine zm ?_; refine zn ?_; refine zr ?_; refine zf ?_)
       all_goals (exact ⟨_, rfl, by rw [if_pos (by omega)], (St.back0 hS.sp hi)⟩))
    | (refine Q4 rfl ?_ -- Q3b c0
       all_goals refine zsk ?_)
  all_goals (refine Q0 ?_; refine Q2 ?_; refine QwF ?_)
  all_goals (refine zR1 (c := Qvy (by kernel_rfl) (fun p w hS => jend1_c (s := s) hsf (by omega) hfb hfr hh hj hx' hls hS) hS.sp) (h := ?_); rintro v1 w1 ⟨e, c1, L1, rfl, hle, hS, ⟨rfl, hr1, rfl, rfl⟩ | ⟨hr1, rfl, rfl⟩⟩)
  all_goals (refine zm ?_; refine zn ?_; refine zr ?_; refine zf ?_; (first | (exact ⟨_, rfl, by rw [if_pos (by omega)], (St.back0 hS.sp hi)⟩) | (exact ⟨_, rfl, by rw [if_neg (by omega), hr1], (St.back0 hS.sp hi)⟩)))
end Go.Proofs.YtanlkfeogoganaaGreat
namespace Go.Proofs.YtanlkfeogoganaaGreat
open Go.Lir
set_option maxHeartbeats 1000000
attribute [local irreducible] LC.wp Q5 Q11 Q1f retQ Q2h LO.wp QD Calls
set_option linter.unusedSimpArgs false
set_option linter.unusedVariables false
theorem QwW {x : Module} (hsm : x.Short) {cx : Cx} {w : World} {L : List Res} {cs : List Value} (hx : modR.at cx cs x) (hS : St cx w L) : Rets Tryz.prog Qjo [.agg ⟨cs⟩] w fun u w' => ∃ c' ds, u = .agg ⟨ds⟩ ∧ cx.Le c' ∧ modR.at c' ds x ∧ St c' w' L := by
  obtain ⟨vf, rfl, hf⟩ := Q1U hx
  obtain ⟨l⟩ := x
  have hf : funcR.sl cx vf l := hf
  have hsl : l.length ≤ 100000 := hsm.1
  have hsm : ∀ f ∈ l, f.Short := hsm.2
  have hle := St.refl hS
  all_goals refine QmQ ?_
  all_goals (unfold R_OwnModule_lc; refine Q0 ?_; refine Q2 ?_; refine zb hS ?_; intro p1 w1 hS; refine Qb hS ?_; intro p2 w1 hS; refine zn ?_; refine Q0 ?_; refine Q2 ?_; refine Qb hS ?_; intro p3 w1 hS; refine zn ?_; refine Q0 ?_; refine Q0 ?_; refine Q2 ?_; refine zm ?_; refine zn ?_; refine Qa ?_)
  refine zo [1, 2, 3] (fun A ρ' w' => ∃ (k0 : Cx) (j : Nat) (u : Value) (css : List (List Value)), Has ρ' A ∧ Has ρ' [(4, .int .i64 j)] ∧ (cx.Le k0) ∧ (j ≤ l.length) ∧ (funcR.ls k0 css (l.take j)) ∧ (oneC u = true) ∧ St k0 w' (sl 53 4 u css :: blk p3 24 [u] :: blk p2 24 [.slice none 0 0] :: blk p1 24 [vf] :: L)) (fun ρ' _ => (l.length - iv (ρ' 4)).toNat) ?_ ?_
  · exact ⟨cx, 0, .slice none 0 0, [], zh, zh, St.refl hS, (by omega), Rep.LR.nil _ _ _, rfl, by have hS := hS.nil (T := 53) (es := 4); exact hS⟩
  rintro ρ w1 ⟨k0, j, u, css, hA, hρ, hle2, hj, hls, hu, hS⟩; obtain ⟨ρ, rfl⟩ := env2 hA hρ; have hL0 := hle2; (try have hle := hle.trans hle2); (try have hf := hf.up hle2)
  unfold Q7K
  all_goals (refine Q0 ?_; refine Q0 ?_; refine Q2 ?_; refine zm ?_; refine Q1 rfl ?_; refine zl hS ?_; refine zL ?_; refine Qr rfl rfl ?_; refine zn ?_)
  refine Qn rfl (fun hc => ?_) (fun hc => ?_)
  · skip
    all_goals (refine zsk ?_; refine Q0 ?_; refine Qa ?_; refine Q0 ?_; refine Q2 ?_; refine Q1 rfl ?_; refine zl hS ?_; refine zm ?_; refine zi ?_; intro b1 o1 cs1 x1 hat1 hx1 he1; obtain ⟨vp1, vr1, vb1, rfl, hp1, hr1, hb1⟩ := QO he1; (first | (refine zv hS ?_) | (refine zvk hS ?_)); refine Qb hS ?_; intro p5 w1 hS; refine zsn hS ?_; intro w1 hS; have hS := hS.ns; refine zn ?_; have hsh := hsm x1 (List.mem_of_getElem? hx1); have hlb := hsh.2.2.1)
    have hJ6 := St.refl hS
    refine zML hS [1, 2, 3, 4, 5] (fun A LL ρ' w' => ∃ (k6 : Cx) (a1 a2 : Option Addr) (n1 n2 p6 : Nat), Has ρ' A ∧ Has ρ' [(6, .pointer (some ⟨p6, 0, none⟩))] ∧ (k0.Le k6) ∧ (tyR.sl k6 (.slice a1 x1.params.length n1) x1.params) ∧ (tyR.sl k6 (.slice a2 x1.results.length n2) x1.results) ∧ St k6 w' (blk p6 53 [.int .i64 x1.regs, .slice a1 x1.params.length n1, .slice a2 x1.results.length n2, .slice none 0 0] :: LL)) ?_ ?_
    · skip
      refine Q3N 4 9 (by kernel_rfl) ?_ ?_
      · skip
        refine Q3N 7 9 (by kernel_rfl) ?_ ?_
        · skip
          all_goals (refine zC [(0, none), (1, none), (2, none), (3, none), (5, none), (6, none), (4, some (some [1, 6])), (7, some (some [1])), (8, none), (9, some (some [1])), (10, some none)] ?_; have hS := hS.drew; refine s_cq ?_; refine Q1 rfl ?_; refine zt ?_; refine s_cq ?_; refine zl hS ?_; refine zt ?_; refine s_cq ?_; refine Q1 rfl ?_; refine zt ?_; refine s_cq ?_; refine zl hS ?_; refine zt ?_; refine s_cq ?_; refine Q1 rfl ?_; refine zt ?_; refine s_cq ?_; refine zl hS ?_; refine zt ?_; refine QE ?_)
          all_goals (refine zR1 (c := Q5R hsh.1.1 hsh.1.2 hp1 hS) (h := ?_); rintro v1 w1 ⟨c1, hle2, hk1, hS⟩; obtain ⟨a1, n1, rfl⟩ := Rep.SR.shape hk1; (try have hle := hle.trans hle2); (try have hL0 := hL0.trans hle2); (try have hJ6 := hJ6.trans hle2); (try have hf := hf.up hle2); (try have hp1 := hp1.up hle2); (try have hr1 := hr1.up hle2); (try have hb1 := hb1.up hle2); (try have he1 := he1.up hle2); (try have hls := hls.up hle2))
          all_goals (refine zt ?_; refine zy ?_; refine QE ?_)
          all_goals (refine zR1 (c := Q5R hsh.2.1.1 hsh.2.1.2 hr1 hS) (h := ?_); rintro v1 w1 ⟨c2, hle2, hk2, hS⟩; obtain ⟨a2, n2, rfl⟩ := Rep.SR.shape hk2; (try have hle := hle.trans hle2); (try have hL0 := hL0.trans hle2); (try have hJ6 := hJ6.trans hle2); (try have hf := hf.up hle2); (try have hk1 := hk1.up hle2); (try have hp1 := hp1.up hle2); (try have hr1 := hr1.up hle2); (try have hb1 := hb1.up hle2); (try have he1 := he1.up hle2); (try have hls := hls.up hle2))
          all_goals (refine zt ?_; refine zy ?_; refine s_cq ?_; refine zb3 [_, _, _, _] ?_; refine zt ?_; refine QE ?_; refine Qb hS ?_; intro p6 w1 hS; refine zt ?_; refine zy ?_; refine s_cf ?_; refine zsn hS ?_; intro w1 hS; have hS := hS.ns; refine zt ?_; refine zcn ?_; exact ⟨_, a1, a2, n1, n2, p6, zh, zh, hJ6, by assumption, by assumption, hS.sp⟩)
        · skip
          all_goals (refine zC [(0, none), (1, none), (2, none), (3, none), (5, none), (6, none), (4, some (some [1, 6])), (9, some (some [1, 6])), (7, some (some [1])), (8, none), (10, some none)] ?_; have hS := hS.drew; refine s_cq ?_; refine Q1 rfl ?_; refine zt ?_; refine s_cq ?_; refine zl hS ?_; refine zt ?_; refine s_cq ?_; refine Q1 rfl ?_; refine zt ?_; refine s_cq ?_; refine zl hS ?_; refine zt ?_; refine s_cq ?_; refine Q1 rfl ?_; refine zt ?_; refine s_cq ?_; refine zl hS ?_; refine zt ?_; refine QE ?_)
          all_goals (refine zR1 (c := Q5R hsh.1.1 hsh.1.2 hp1 hS) (h := ?_); rintro v1 w1 ⟨c1, hle2, hk1, hS⟩; obtain ⟨a1, n1, rfl⟩ := Rep.SR.shape hk1; (try have hle := hle.trans hle2); (try have hL0 := hL0.trans hle2); (try have hJ6 := hJ6.trans hle2); (try have hf := hf.up hle2); (try have hp1 := hp1.up hle2); (try have hr1 := hr1.up hle2); (try have hb1 := hb1.up hle2); (try have he1 := he1.up hle2); (try have hls := hls.up hle2))
          all_goals (refine zt ?_; refine zy ?_; refine QE ?_; refine Qb hS ?_; intro p6 w1 hS; refine zt ?_; refine zy ?_; refine QE ?_)
          all_goals (refine zR1 (c := Q5R hsh.2.1.1 hsh.2.1.2 hr1 hS) (h := ?_); rintro v1 w1 ⟨c2, hle2, hk2, hS⟩; obtain ⟨a2, n2, rfl⟩ := Rep.SR.shape hk2; (try have hle := hle.trans hle2); (try have hL0 := hL0.trans hle2); (try have hJ6 := hJ6.trans hle2); (try have hf := hf.up hle2); (try have hk1 := hk1.up hle2); (try have hp1 := hp1.up hle2); (try have hr1 := hr1.up hle2); (try have hb1 := hb1.up hle2); (try have he1 := he1.up hle2); (try have hls := hls.up hle2))
          all_goals (refine zt ?_; refine zy ?_; refine s_cq ?_; refine zb3 [_, _, _, _] ?_; refine zt ?_; refine s_cf ?_; refine zsn hS ?_; intro w1 hS; have hS := hS.ns; refine zt ?_; refine zcn ?_; exact ⟨_, a1, a2, n1, n2, p6, zh, zh, hJ6, by assumption, by assumption, hS.sp⟩)
      · skip
        all_goals (refine zC [(0, none), (1, none), (2, none), (3, none), (5, none), (6, none), (9, some (some [1, 3, 6])), (4, some (some [1, 6])), (7, some (some [1])), (8, none), (10, some none)] ?_; have hS := hS.drew; refine s_cq ?_; refine Q1 rfl ?_; refine zt ?_; refine s_cq ?_; refine zl hS ?_; refine zt ?_; refine s_cq ?_; refine Q1 rfl ?_; refine zt ?_; refine s_cq ?_; refine zl hS ?_; refine zt ?_; refine s_cq ?_; refine Q1 rfl ?_; refine zt ?_; refine s_cq ?_; refine zl hS ?_; refine zt ?_; refine QE ?_; refine Qb hS ?_; intro p6 w1 hS; refine zt ?_; refine zy ?_; refine QE ?_)
        all_goals (refine zR1 (c := Q5R hsh.1.1 hsh.1.2 hp1 hS) (h := ?_); rintro v1 w1 ⟨c1, hle2, hk1, hS⟩; obtain ⟨a1, n1, rfl⟩ := Rep.SR.shape hk1; (try have hle := hle.trans hle2); (try have hL0 := hL0.trans hle2); (try have hJ6 := hJ6.trans hle2); (try have hf := hf.up hle2); (try have hp1 := hp1.up hle2); (try have hr1 := hr1.up hle2); (try have hb1 := hb1.up hle2); (try have he1 := he1.up hle2); (try have hls := hls.up hle2))
        all_goals (refine zt ?_; refine zy ?_; refine QE ?_)
        all_goals (refine zR1 (c := Q5R hsh.2.1.1 hsh.2.1.2 hr1 hS) (h := ?_); rintro v1 w1 ⟨c2, hle2, hk2, hS⟩; obtain ⟨a2, n2, rfl⟩ := Rep.SR.shape hk2; (try have hle := hle.trans hle2); (try have hL0 := hL0.trans hle2); (try have hJ6 := hJ6.trans hle2); (try have hf := hf.up hle2); (try have hk1 := hk1.up hle2); (try have hp1 := hp1.up hle2); (try have hr1 := hr1.up hle2); (try have hb1 := hb1.up hle2); (try have he1 := he1.up hle2); (try have hls := hls.up hle2))
        all_goals (refine zt ?_; refine zy ?_; refine s_cq ?_; refine zb3 [_, _, _, _] ?_; refine zt ?_; refine s_cf ?_; refine zsn hS ?_; intro w1 hS; have hS := hS.ns; refine zt ?_; refine zcn ?_; exact ⟨_, a1, a2, n1, n2, p6, zh, zh, hJ6, by assumption, by assumption, hS.sp⟩)
    rintro ρ w1 ⟨k6, a1, a2, n1, n2, p6, hA, hρ, hle2, hk1, hk2, hS⟩; obtain ⟨ρ, rfl⟩ := env2 hA hρ; (try have hle := hle.trans hle2); (try have hL0 := hL0.trans hle2); (try have hJ6 := hJ6.trans hle2); (try have hf := hf.up hle2); (try have hp1 := hp1.up hle2); (try have hr1 := hr1.up hle2); (try have hb1 := hb1.up hle2); (try have he1 := he1.up hle2); (try have hls := hls.up hle2)
    all_goals (refine Q0 ?_; refine Q0 ?_; refine Q2 ?_; refine zm ?_; refine zn ?_; refine Qa ?_)
    refine zo [1, 2, 3, 4, 5, 6] (fun A ρ' w' => ∃ (k1 : Cx) (i : Nat) (ub : Value) (cssB : List (List Value)), Has ρ' A ∧ Has ρ' [(7, .int .i64 i)] ∧ (k6.Le k1) ∧ (i ≤ x1.blocks.length) ∧ (blockR.ls k1 cssB (x1.blocks.take i)) ∧ (oneC ub = true) ∧ St k1 w' (sl 79 12 ub cssB :: blk p6 53 [.int .i64 x1.regs, .slice a1 x1.params.length n1, .slice a2 x1.results.length n2, ub] :: blk p5 53 [.int .i64 x1.regs, vp1, vr1, vb1] :: sl 53 4 u css :: blk p3 24 [u] :: blk p2 24 [.slice none 0 0] :: blk p1 24 [vf] :: L)) (fun ρ' _ => (x1.blocks.length - iv (ρ' 7)).toNat) ?_ ?_
    · exact ⟨k6, 0, .slice none 0 0, [], zh, zh, St.refl hS, (by omega), Rep.LR.nil _ _ _, rfl, by have hS := hS.nil (T := 79) (es := 12); exact hS.sp⟩
    rintro ρ w1 ⟨k1, i, ub, cssB, hA, hρ, hle2, hi, hlsB, hub, hS⟩; obtain ⟨ρ, rfl⟩ := env2 hA hρ; have hL1 := hle2; (try have hle := hle.trans hle2); (try have hL0 := hL0.trans hle2); (try have hJ6 := hJ6.trans hle2); (try have hf := hf.up hle2); (try have hk1 := hk1.up hle2); (try have hk2 := hk2.up hle2); (try have hp1 := hp1.up hle2); (try have hr1 := hr1.up hle2); (try have hb1 := hb1.up hle2); (try have he1 := he1.up hle2); (try have hls := hls.up hle2)
    unfold Q7J
    all_goals (refine Q0 ?_; refine Q0 ?_; refine Q2 ?_; refine zm ?_; refine Q1 rfl ?_; refine zl hS ?_; refine zL ?_; refine Qr rfl rfl ?_; refine zn ?_)
    refine Qn rfl (fun hc => ?_) (fun hc => ?_)
    · skip
      all_goals (refine zsk ?_; refine Q0 ?_; refine Qa ?_; refine Q0 ?_; refine Q2 ?_; refine Q1 rfl ?_; refine zl hS ?_; refine zm ?_; refine zi ?_; intro b2 o2 cs2 x2 hat2 hx2 he2; obtain ⟨vp2, vc2, ve21, ve22, ve23, ve24, ve25, rfl, hp2, hc2, he21, he22, he23, he24, he25⟩ := Q1c he2; (first | (refine zv hS ?_) | (refine zvk hS ?_)); refine Qb hS ?_; intro p8 w1 hS; refine zsn hS ?_; intro w1 hS; have hS := hS.ns; refine zn ?_; have hsb := hsh.2.2.2 x2 (List.mem_of_getElem? hx2); have hlc := hsb.2.1)
      have hJ10 := St.refl hS
      refine zML hS [1, 2, 3, 4, 5, 6, 7, 8] (fun A LL ρ' w' => ∃ (k10 : Cx) (a3 : Option Addr) (n3 p9 : Nat), Has ρ' A ∧ Has ρ' [(9, .pointer (some ⟨p9, 0, none⟩))] ∧ (k1.Le k10) ∧ (tyR.sl k10 (.slice a3 x2.params.length n3) x2.params) ∧ St k10 w' (blk p9 79 [.int .i64 x2.regs, .slice a3 x2.params.length n3, .slice none 0 0, .int .i64 0, .int .i64 0, .int .i64 0, .slice none 0 0, .slice none 0 0, .int .i64 0, .slice none 0 0, .slice none 0 0, .slice none 0 0] :: LL)) ?_ ?_
      · skip
        refine Q3N 4 6 (by kernel_rfl) ?_ ?_
        · skip
          all_goals (refine zC [(0, none), (1, none), (2, none), (3, none), (4, some (some [1])), (5, none), (6, some (some [1])), (7, some none)] ?_; have hS := hS.drew; refine s_cq ?_; refine Q1 rfl ?_; refine zt ?_; refine s_cq ?_; refine zl hS ?_; refine zt ?_; refine s_cq ?_; refine Q1 rfl ?_; refine zt ?_; refine s_cq ?_; refine zl hS ?_; refine zt ?_; refine QE ?_)
          all_goals (refine zR1 (c := Q5R hsb.1.1 hsb.1.2 hp2 hS) (h := ?_); rintro v1 w1 ⟨c3, hle2, hk3, hS⟩; obtain ⟨a3, n3, rfl⟩ := Rep.SR.shape hk3; (try have hle := hle.trans hle2); (try have hL0 := hL0.trans hle2); (try have hL1 := hL1.trans hle2); (try have hJ6 := hJ6.trans hle2); (try have hJ10 := hJ10.trans hle2); (try have hf := hf.up hle2); (try have hk1 := hk1.up hle2); (try have hk2 := hk2.up hle2); (try have hp1 := hp1.up hle2); (try have hr1 := hr1.up hle2); (try have hb1 := hb1.up hle2); (try have hp2 := hp2.up hle2); (try have hc2 := hc2.up hle2); (try have he21 := he21.up hle2); (try have he22 := he22.up hle2); (try have he23 := he23.up hle2); (try have he24 := he24.up hle2); (try have he25 := he25.up hle2); (try have he1 := he1.up hle2); (try have he2 := he2.up hle2); (try have hls := hls.up hle2); (try have hlsB := hlsB.up hle2))
          all_goals (refine zt ?_; refine zy ?_; refine s_cq ?_; refine zb2 [_, _, _, _, _, _, _, _, _, _, _, _] ?_; refine zt ?_; refine QE ?_; refine Qb hS ?_; intro p9 w1 hS; refine zt ?_; refine zy ?_; refine s_cf ?_; refine zsn hS ?_; intro w1 hS; have hS := hS.ns; refine zt ?_; refine zcn ?_; exact ⟨_, a3, n3, p9, zh, zh, hJ10, by assumption, hS.sp⟩)
        · skip
          all_goals (refine zC [(0, none), (1, none), (2, none), (3, none), (6, some (some [1, 3])), (4, some (some [1])), (5, none), (7, some none)] ?_; have hS := hS.drew; refine s_cq ?_; refine Q1 rfl ?_; refine zt ?_; refine s_cq ?_; refine zl hS ?_; refine zt ?_; refine s_cq ?_; refine Q1 rfl ?_; refine zt ?_; refine s_cq ?_; refine zl hS ?_; refine zt ?_; refine QE ?_; refine Qb hS ?_; intro p9 w1 hS; refine zt ?_; refine zy ?_; refine QE ?_)
          all_goals (refine zR1 (c := Q5R hsb.1.1 hsb.1.2 hp2 hS) (h := ?_); rintro v1 w1 ⟨c3, hle2, hk3, hS⟩; obtain ⟨a3, n3, rfl⟩ := Rep.SR.shape hk3; (try have hle := hle.trans hle2); (try have hL0 := hL0.trans hle2); (try have hL1 := hL1.trans hle2); (try have hJ6 := hJ6.trans hle2); (try have hJ10 := hJ10.trans hle2); (try have hf := hf.up hle2); (try have hk1 := hk1.up hle2); (try have hk2 := hk2.up hle2); (try have hp1 := hp1.up hle2); (try have hr1 := hr1.up hle2); (try have hb1 := hb1.up hle2); (try have hp2 := hp2.up hle2); (try have hc2 := hc2.up hle2); (try have he21 := he21.up hle2); (try have he22 := he22.up hle2); (try have he23 := he23.up hle2); (try have he24 := he24.up hle2); (try have he25 := he25.up hle2); (try have he1 := he1.up hle2); (try have he2 := he2.up hle2); (try have hls := hls.up hle2); (try have hlsB := hlsB.up hle2))
          all_goals (refine zt ?_; refine zy ?_; refine s_cq ?_; refine zb2 [_, _, _, _, _, _, _, _, _, _, _, _] ?_; refine zt ?_; refine s_cf ?_; refine zsn hS ?_; intro w1 hS; have hS := hS.ns; refine zt ?_; refine zcn ?_; exact ⟨_, a3, n3, p9, zh, zh, hJ10, by assumption, hS.sp⟩)
      rintro ρ w1 ⟨k10, a3, n3, p9, hA, hρ, hle2, hk3, hS⟩; obtain ⟨ρ, rfl⟩ := env2 hA hρ; (try have hle := hle.trans hle2); (try have hL0 := hL0.trans hle2); (try have hL1 := hL1.trans hle2); (try have hJ6 := hJ6.trans hle2); (try have hJ10 := hJ10.trans hle2); (try have hf := hf.up hle2); (try have hk1 := hk1.up hle2); (try have hk2 := hk2.up hle2); (try have hp1 := hp1.up hle2); (try have hr1 := hr1.up hle2); (try have hb1 := hb1.up hle2); (try have hp2 := hp2.up hle2); (try have hc2 := hc2.up hle2); (try have he21 := he21.up hle2); (try have he22 := he22.up hle2); (try have he23 := he23.up hle2); (try have he24 := he24.up hle2); (try have he25 := he25.up hle2); (try have he1 := he1.up hle2); (try have he2 := he2.up hle2); (try have hls := hls.up hle2); (try have hlsB := hlsB.up hle2)
      all_goals (refine Q0 ?_; refine Q0 ?_; refine Q2 ?_; refine zm ?_; refine zn ?_; refine Qa ?_)
      refine zo [1, 2, 3, 4, 5, 6, 7, 8, 9] (fun A ρ' w' => ∃ (k2 : Cx) (k : Nat) (uc : Value) (cssC : List (List Value)), Has ρ' A ∧ Has ρ' [(10, .int .i64 k)] ∧ (k10.Le k2) ∧ (k ≤ x2.code.length) ∧ (insR.ls k2 cssC (x2.code.take k)) ∧ (oneC uc = true) ∧ St k2 w' (sl 57 8 uc cssC :: blk p9 79 [.int .i64 x2.regs, .slice a3 x2.params.length n3, uc, .int .i64 0, .int .i64 0, .int .i64 0, .slice none 0 0, .slice none 0 0, .int .i64 0, .slice none 0 0, .slice none 0 0, .slice none 0 0] :: blk p8 79 [.int .i64 x2.regs, vp2, vc2, .int .i64 x2.fin.op, .int .i64 x2.fin.a, .int .i64 x2.fin.yes.block, ve21, ve22, .int .i64 x2.fin.no.block, ve23, ve24, ve25] :: sl 79 12 ub cssB :: blk p6 53 [.int .i64 x1.regs, .slice a1 x1.params.length n1, .slice a2 x1.results.length n2, ub] :: blk p5 53 [.int .i64 x1.regs, vp1, vr1, vb1] :: sl 53 4 u css :: blk p3 24 [u] :: blk p2 24 [.slice none 0 0] :: blk p1 24 [vf] :: L)) (fun ρ' _ => (x2.code.length - iv (ρ' 10)).toNat) ?_ ?_
      · exact ⟨k10, 0, .slice none 0 0, [], zh, zh, St.refl hS, (by omega), Rep.LR.nil _ _ _, rfl, by have hS := hS.nil (T := 57) (es := 8); exact hS.sp⟩
      rintro ρ w1 ⟨k2, k, uc, cssC, hA, hρ, hle2, hkk, hlsC, huc, hS⟩; obtain ⟨ρ, rfl⟩ := env2 hA hρ; have hL2 := hle2; (try have hle := hle.trans hle2); (try have hL0 := hL0.trans hle2); (try have hL1 := hL1.trans hle2); (try have hJ6 := hJ6.trans hle2); (try have hJ10 := hJ10.trans hle2); (try have hf := hf.up hle2); (try have hk1 := hk1.up hle2); (try have hk2 := hk2.up hle2); (try have hk3 := hk3.up hle2); (try have hp1 := hp1.up hle2); (try have hr1 := hr1.up hle2); (try have hb1 := hb1.up hle2); (try have hp2 := hp2.up hle2); (try have hc2 := hc2.up hle2); (try have he21 := he21.up hle2); (try have he22 := he22.up hle2); (try have he23 := he23.up hle2); (try have he24 := he24.up hle2); (try have he25 := he25.up hle2); (try have he1 := he1.up hle2); (try have he2 := he2.up hle2); (try have hls := hls.up hle2); (try have hlsB := hlsB.up hle2)
      unfold Q6p
      all_goals (refine Q0 ?_; refine Q0 ?_; refine Q2 ?_; refine zm ?_; refine Q1 rfl ?_; refine zl hS ?_; refine zL ?_; refine Qr rfl rfl ?_; refine zn ?_)
      refine Qn rfl (fun hc => ?_) (fun hc => ?_)
      · skip
        all_goals (refine zsk ?_; refine Q0 ?_; refine Qa ?_; refine Q0 ?_; refine Q2 ?_; refine Q1 rfl ?_; refine zl hS ?_; refine zm ?_; refine zi ?_; intro b3 o3 cs3 x3 hat3 hx3 he3; obtain ⟨vr3, va3, rfl, hr3, ha3⟩ := Q1h he3; (first | (refine zv hS ?_) | (refine zvk hS ?_)); refine Qb hS ?_; intro p11 w1 hS; refine zsn hS ?_; intro w1 hS; have hS := hS.ns; refine zn ?_; refine Q0 ?_; have hsi := hsb.2.2.1 x3 (List.mem_of_getElem? hx3); refine zC [(0, none), (1, none), (3, none), (4, none), (2, some (some [4])), (6, none), (5, some (some [])), (7, some none), (8, none), (9, some none)] ?_; have hS := hS.drew; refine s_cq ?_; refine Q1 rfl ?_; refine zt ?_; refine s_cq ?_; refine zl hS ?_; refine zt ?_; refine s_cq ?_; refine Q1 rfl ?_; refine zt ?_; refine s_cq ?_; refine zl hS ?_; refine zt ?_; refine QE ?_)
        all_goals (refine zR1 (c := Q4D (by have := hsi.1; omega) hr3 hS) (h := ?_); rintro v1 w1 ⟨c4, hle2, hk4, hS⟩; obtain ⟨a4, n4, rfl⟩ := Rep.SR.shape hk4; (try have hle := hle.trans hle2); (try have hL0 := hL0.trans hle2); (try have hL1 := hL1.trans hle2); (try have hL2 := hL2.trans hle2); (try have hJ6 := hJ6.trans hle2); (try have hJ10 := hJ10.trans hle2); (try have hf := hf.up hle2); (try have hk1 := hk1.up hle2); (try have hk2 := hk2.up hle2); (try have hk3 := hk3.up hle2); (try have hp1 := hp1.up hle2); (try have hr1 := hr1.up hle2); (try have hb1 := hb1.up hle2); (try have hp2 := hp2.up hle2); (try have hc2 := hc2.up hle2); (try have he21 := he21.up hle2); (try have he22 := he22.up hle2); (try have he23 := he23.up hle2); (try have he24 := he24.up hle2); (try have he25 := he25.up hle2); (try have hr3 := hr3.up hle2); (try have ha3 := ha3.up hle2); (try have he1 := he1.up hle2); (try have he2 := he2.up hle2); (try have he3 := he3.up hle2); (try have hls := hls.up hle2); (try have hlsB := hlsB.up hle2); (try have hlsC := hlsC.up hle2))
        all_goals (refine zt ?_; refine zy ?_; refine s_cq ?_; refine Q1 rfl ?_; refine zt ?_; refine QE ?_)
        all_goals (refine zR1 (c := Q4D (by have := hsi.2; omega) ha3 hS) (h := ?_); rintro v1 w1 ⟨c5, hle2, hk5, hS⟩; obtain ⟨a5, n5, rfl⟩ := Rep.SR.shape hk5; (try have hle := hle.trans hle2); (try have hL0 := hL0.trans hle2); (try have hL1 := hL1.trans hle2); (try have hL2 := hL2.trans hle2); (try have hJ6 := hJ6.trans hle2); (try have hJ10 := hJ10.trans hle2); (try have hf := hf.up hle2); (try have hk1 := hk1.up hle2); (try have hk2 := hk2.up hle2); (try have hk3 := hk3.up hle2); (try have hk4 := hk4.up hle2); (try have hp1 := hp1.up hle2); (try have hr1 := hr1.up hle2); (try have hb1 := hb1.up hle2); (try have hp2 := hp2.up hle2); (try have hc2 := hc2.up hle2); (try have he21 := he21.up hle2); (try have he22 := he22.up hle2); (try have he23 := he23.up hle2); (try have he24 := he24.up hle2); (try have he25 := he25.up hle2); (try have hr3 := hr3.up hle2); (try have ha3 := ha3.up hle2); (try have he1 := he1.up hle2); (try have he2 := he2.up hle2); (try have he3 := he3.up hle2); (try have hls := hls.up hle2); (try have hlsB := hlsB.up hle2); (try have hlsC := hlsC.up hle2))
        all_goals (refine zt ?_; refine zy ?_; refine s_cf ?_; refine zst hS ?_; intro w1 hS; have hS := hS.ns; refine zt ?_; refine s_cq ?_; refine Q1 rfl ?_; refine zt ?_; refine s_cf ?_; refine zst hS ?_; intro w1 hS; have hS := hS.ns; refine zt ?_; refine zcn ?_; have hk9 : insR.at c5 _ x3 := ⟨_, _, rfl, hk4, hk5⟩; refine Q2 ?_; refine Q1 rfl ?_; refine zl hS ?_; refine zv hS ?_; refine zB1 hS [_, _, _, _, _, _, _, _] ?_; intro b1 w1 hS; refine za el_T40 u_T40 hS ?_; intro vp1 w1 css1 hls1 hv1 hS; have hS := hS.ns; refine Q1 rfl ?_; refine zst hS ?_; intro w1 hS; have hS := hS.ns; refine zn ?_; refine Q2 ?_; refine zm ?_; refine zad ?_; refine zm ?_; refine zn ?_; exact ⟨⟨_, k + 1, _, _, zh, zh, hL2, (by omega), by rw [Q1m hx3]; assumption, by assumption, hS.sp⟩, Qo (by omega)⟩)
      · skip
        all_goals (refine zex ?_)
        all_goals (obtain ⟨c6, hle2, hS, hk6⟩ := St.freezeL (r := insR) (l := x2.code) hS (by rw [List.take_of_length_le (by omega)] at hlsC; exact hlsC) rfl (by have := hsb.2.1; omega); obtain ⟨a6, n6, rfl⟩ := Rep.SR.shape hk6; (try have hle := hle.trans hle2); (try have hL0 := hL0.trans hle2); (try have hL1 := hL1.trans hle2); (try have hL2 := hL2.trans hle2); (try have hJ6 := hJ6.trans hle2); (try have hJ10 := hJ10.trans hle2); (try have hf := hf.up hle2); (try have hk1 := hk1.up hle2); (try have hk2 := hk2.up hle2); (try have hk3 := hk3.up hle2); (try have hp1 := hp1.up hle2); (try have hr1 := hr1.up hle2); (try have hb1 := hb1.up hle2); (try have hp2 := hp2.up hle2); (try have hc2 := hc2.up hle2); (try have he21 := he21.up hle2); (try have he22 := he22.up hle2); (try have he23 := he23.up hle2); (try have he24 := he24.up hle2); (try have he25 := he25.up hle2); (try have he1 := he1.up hle2); (try have he2 := he2.up hle2); (try have hls := hls.up hle2); (try have hlsB := hlsB.up hle2); (try have hlsC := hlsC.up hle2))
        all_goals (refine Q0 ?_; refine zC [(0, none), (1, none), (2, none), (3, none), (4, none), (5, none), (6, none), (7, none), (8, none), (10, none), (11, none), (12, none), (14, none), (15, none), (16, none), (9, some (some [2, 5, 12, 16])), (13, some (some [2, 5, 16])), (17, some (some [2, 5])), (18, none), (19, none), (20, some none)] ?_; have hS := hS.drew; refine s_cq ?_; refine Q1 rfl ?_; refine zt ?_; refine s_cq ?_; (first | refine Q1 rfl ?_ | refine Q12 rfl ?_); refine zt ?_; refine s_cq ?_; refine zl hS ?_; refine zt ?_; refine s_cq ?_; refine Q1 rfl ?_; refine zt ?_; refine s_cq ?_; (first | refine Q1 rfl ?_ | refine Q12 rfl ?_); refine zt ?_; refine s_cq ?_; refine zl hS ?_; refine zt ?_; refine s_cq ?_; refine Q1 rfl ?_; refine zt ?_; refine s_cq ?_; (first | refine Q1 rfl ?_ | refine Q12 rfl ?_); refine zt ?_; refine s_cq ?_; refine zv hS ?_; refine zt ?_; refine s_cq ?_; refine Q1 rfl ?_; refine zt ?_; refine s_cq ?_; (first | refine Q1 rfl ?_ | refine Q12 rfl ?_); refine zt ?_; refine s_cq ?_; refine zv hS ?_; refine zt ?_; refine s_cq ?_; refine Q1 rfl ?_)
        all_goals (refine zt ?_; refine s_cq ?_; (first | refine Q1 rfl ?_ | refine Q12 rfl ?_); refine zt ?_; refine s_cq ?_; refine zl hS ?_; refine zt ?_; refine QE ?_)
        all_goals (refine zR1 (c := Qv9 (x := x2.fin.yes) (by have := hsb.2.2.2.1.1; omega) (by have := hsb.2.2.2.1.2; omega) ⟨_, _, rfl, he21, he22⟩ hS) (h := ?_); rintro v1 w1 ⟨c7, ds, rfl, hle2, hk7, hS⟩; obtain ⟨y1, y2, rfl, hy1, hy2⟩ := Q3v hk7; obtain ⟨a7, n7, rfl⟩ := Rep.SR.shape hy1; obtain ⟨a8, n8, rfl⟩ := Rep.SR.shape hy2; (try have hle := hle.trans hle2); (try have hL0 := hL0.trans hle2); (try have hL1 := hL1.trans hle2); (try have hL2 := hL2.trans hle2); (try have hJ6 := hJ6.trans hle2); (try have hJ10 := hJ10.trans hle2); (try have hf := hf.up hle2); (try have hk1 := hk1.up hle2); (try have hk2 := hk2.up hle2); (try have hk3 := hk3.up hle2); (try have hk6 := hk6.up hle2); (try have hp1 := hp1.up hle2); (try have hr1 := hr1.up hle2); (try have hb1 := hb1.up hle2); (try have hp2 := hp2.up hle2); (try have hc2 := hc2.up hle2); (try have he21 := he21.up hle2); (try have he22 := he22.up hle2); (try have he23 := he23.up hle2); (try have he24 := he24.up hle2); (try have he25 := he25.up hle2); (try have he1 := he1.up hle2); (try have he2 := he2.up hle2); (try have hls := hls.up hle2); (try have hlsB := hlsB.up hle2); (try have hlsC := hlsC.up hle2))
        all_goals (refine zt ?_; refine zy ?_; refine QE ?_)
        all_goals (refine zR1 (c := Qv9 (x := x2.fin.no) (by have := hsb.2.2.2.2.1.1; omega) (by have := hsb.2.2.2.2.1.2; omega) ⟨_, _, rfl, he23, he24⟩ hS) (h := ?_); rintro v1 w1 ⟨c8, ds, rfl, hle2, hk8, hS⟩; obtain ⟨z1, z2, rfl, hz1, hz2⟩ := Q3v hk8; obtain ⟨a9, n9, rfl⟩ := Rep.SR.shape hz1; obtain ⟨a10, n10, rfl⟩ := Rep.SR.shape hz2; (try have hle := hle.trans hle2); (try have hL0 := hL0.trans hle2); (try have hL1 := hL1.trans hle2); (try have hL2 := hL2.trans hle2); (try have hJ6 := hJ6.trans hle2); (try have hJ10 := hJ10.trans hle2); (try have hf := hf.up hle2); (try have hk1 := hk1.up hle2); (try have hk2 := hk2.up hle2); (try have hk3 := hk3.up hle2); (try have hk6 := hk6.up hle2); (try have hk7 := hk7.up hle2); (try have hp1 := hp1.up hle2); (try have hr1 := hr1.up hle2); (try have hb1 := hb1.up hle2); (try have hp2 := hp2.up hle2); (try have hc2 := hc2.up hle2); (try have he21 := he21.up hle2); (try have he22 := he22.up hle2); (try have he23 := he23.up hle2); (try have he24 := he24.up hle2); (try have he25 := he25.up hle2); (try have he1 := he1.up hle2); (try have he2 := he2.up hle2); (try have hls := hls.up hle2); (try have hy1 := hy1.up hle2); (try have hy2 := hy2.up hle2); (try have hlsB := hlsB.up hle2); (try have hlsC := hlsC.up hle2))
        all_goals (refine zt ?_; refine zy ?_; refine QE ?_)
        all_goals (refine zR1 (c := Q4D (by have := hsb.2.2.2.2.2; omega) he25 hS) (h := ?_); rintro v1 w1 ⟨c9, hle2, hw1, hS⟩; obtain ⟨a11, n11, rfl⟩ := Rep.SR.shape hw1; (try have hle := hle.trans hle2); (try have hL0 := hL0.trans hle2); (try have hL1 := hL1.trans hle2); (try have hL2 := hL2.trans hle2); (try have hJ6 := hJ6.trans hle2); (try have hJ10 := hJ10.trans hle2); (try have hf := hf.up hle2); (try have hk1 := hk1.up hle2); (try have hk2 := hk2.up hle2); (try have hk3 := hk3.up hle2); (try have hk6 := hk6.up hle2); (try have hk7 := hk7.up hle2); (try have hk8 := hk8.up hle2); (try have hp1 := hp1.up hle2); (try have hr1 := hr1.up hle2); (try have hb1 := hb1.up hle2); (try have hp2 := hp2.up hle2); (try have hc2 := hc2.up hle2); (try have he21 := he21.up hle2); (try have he22 := he22.up hle2); (try have he23 := he23.up hle2); (try have he24 := he24.up hle2); (try have he25 := he25.up hle2); (try have he1 := he1.up hle2); (try have he2 := he2.up hle2); (try have hls := hls.up hle2); (try have hy1 := hy1.up hle2); (try have hy2 := hy2.up hle2); (try have hz1 := hz1.up hle2); (try have hz2 := hz2.up hle2); (try have hlsB := hlsB.up hle2); (try have hlsC := hlsC.up hle2))
        all_goals (refine zt ?_; refine zy ?_; refine s_cq ?_; refine zb5 [_, _, _, _, _, _, _, _, _] ?_; refine zt ?_; refine s_cq ?_; refine Q1 rfl ?_; refine zt ?_; refine s_cf ?_; (first | (refine zsn hS ?_; intro w1 hS; have hS := hS.ns) | (refine zsm hS ?_; intro w1 hS; have hS := hS.ns)); refine zt ?_; refine zcn ?_; have hk9 : blockR.at c9 _ x2 := Qip (x := x2) hk3 hk6 hy1 hy2 hz1 hz2 hw1; refine Q2 ?_; refine Q1 rfl ?_; refine zl hS ?_; refine zv hS ?_; refine zB1 hS [_, _, _, _, _, _, _, _, _, _, _, _] ?_; intro b1 w1 hS; refine za el_T51 u_T51 hS ?_; intro vp2 w2 css2 hls2 hv2 hS; have hS := hS.ns; refine Q1 rfl ?_; refine zst hS ?_; intro w1 hS; have hS := hS.ns; refine zn ?_; refine Q2 ?_; refine zm ?_; refine zad ?_; refine zm ?_; refine zn ?_; exact ⟨⟨_, i + 1, _, _, zh, zh, hL1, (by omega), by rw [Q1m hx2]; assumption, by assumption, hS.sp⟩, Qo (by omega)⟩)
    · skip
      all_goals (refine zex ?_)
      all_goals (obtain ⟨c10, hle2, hS, hk6⟩ := St.freezeL (r := blockR) (l := x1.blocks) hS (by rw [List.take_of_length_le (by omega)] at hlsB; exact hlsB) rfl (by have := hsh.2.2.1; omega); obtain ⟨a6, n6, rfl⟩ := Rep.SR.shape hk6; (try have hle := hle.trans hle2); (try have hL0 := hL0.trans hle2); (try have hL1 := hL1.trans hle2); (try have hJ6 := hJ6.trans hle2); (try have hf := hf.up hle2); (try have hk1 := hk1.up hle2); (try have hk2 := hk2.up hle2); (try have hp1 := hp1.up hle2); (try have hr1 := hr1.up hle2); (try have hb1 := hb1.up hle2); (try have he1 := he1.up hle2); (try have hls := hls.up hle2); (try have hlsB := hlsB.up hle2))
      all_goals (have hk9 : funcR.at c10 _ x1 := ⟨_, _, _, rfl, hk1, hk2, hk6⟩; refine Q2 ?_; refine Q1 rfl ?_; refine zl hS ?_; refine zv hS ?_; refine zB1 hS [_, _, _, _] ?_; intro b1 w1 hS; refine za el_T22 u_T22 hS ?_; intro vp3 w3 css3 hls3 hv3 hS; have hS := hS.ns; refine Q1 rfl ?_; refine zst hS ?_; intro w1 hS; have hS := hS.ns; refine zn ?_; refine Q2 ?_; refine zm ?_; refine zad ?_; refine zm ?_; refine zn ?_; exact ⟨⟨_, j + 1, _, _, zh, zh, hL0, (by omega), by rw [Q1m hx1]; assumption, by assumption, hS.sp⟩, Qo (by omega)⟩)
  · skip
    all_goals (refine zex ?_)
    all_goals (obtain ⟨c11, hle2, hS, hk6⟩ := St.freezeL (r := funcR) (l := l) hS (by rw [List.take_of_length_le (by omega)] at hls; exact hls) rfl (by omega); obtain ⟨a6, n6, rfl⟩ := Rep.SR.shape hk6; (try have hle := hle.trans hle2); (try have hL0 := hL0.trans hle2); (try have hf := hf.up hle2); (try have hls := hls.up hle2))
    all_goals (refine Q0 ?_; refine Q2 ?_; refine zv hS ?_; refine zsn hS ?_; intro w1 hS; have hS := hS.ns; refine zn ?_; refine zr ?_; refine Q1e vw (Qc (n := 1) (by kernel_rfl) (by kernel_rfl) (hS.blkAt fd) (by rfl) (by rfl)) ?_; exact ⟨_, rfl, c11, _, rfl, hle, ⟨_, rfl, hk6⟩, hS.sp⟩)
theorem Qx8 {x : Module} (hsm : x.Short) {cx : Cx} {w : World} {L : List Res} {cs : List Value} (hx : modR.at cx cs x) (hS : St cx w L) : Rets Tryz.prog Qvv [.agg ⟨cs⟩] w fun u w' => ∃ c' ds, u = .agg ⟨ds⟩ ∧ cx.Le c' ∧ modR.at c' ds x ∧ St c' w' L := by
  obtain ⟨vf, rfl, hf⟩ := Q1U hx
  obtain ⟨l⟩ := x
  have hf : funcR.sl cx vf l := hf
  have hsl : l.length ≤ 100000 := hsm.1
  have hsm : ∀ f ∈ l, f.Short := hsm.2
  have hle := St.refl hS
  all_goals refine Quf ?_
  all_goals (unfold code_Own_lc; refine Q0 ?_; refine Q2 ?_; refine zb hS ?_; intro p1 w1 hS; refine Qb hS ?_; intro p2 w1 hS; refine zn ?_; refine Q0 ?_; refine Q2 ?_; refine Qb hS ?_; intro p3 w1 hS; refine zn ?_; refine Q0 ?_; refine Q0 ?_; refine Q2 ?_; refine Q1 rfl ?_; refine zl hS ?_; refine zL ?_; refine zm ?_; refine zn ?_; refine Qa ?_)
  refine zo [2, 3, 13, 14] (fun A ρ' w' => ∃ (k0 : Cx) (j : Nat) (u : Value) (css : List (List Value)), Has ρ' A ∧ Has ρ' [(15, .int .i64 j)] ∧ (cx.Le k0) ∧ (j ≤ l.length) ∧ (funcR.ls k0 css (l.take j)) ∧ (oneC u = true) ∧ St k0 w' (sl 53 4 u css :: blk p3 24 [u] :: blk p2 24 [.slice none 0 0] :: blk p1 24 [vf] :: L)) (fun ρ' _ => (l.length - iv (ρ' 15)).toNat) ?_ ?_
  · exact ⟨cx, 0, .slice none 0 0, [], zh, zh, St.refl hS, (by omega), Rep.LR.nil _ _ _, rfl, by have hS := hS.nil (T := 53) (es := 4); exact hS⟩
  rintro ρ w1 ⟨k0, j, u, css, hA, hρ, hle2, hj, hls, hu, hS⟩; obtain ⟨ρ, rfl⟩ := env2 hA hρ; have hL0 := hle2; (try have hle := hle.trans hle2); (try have hf := hf.up hle2)
  unfold Qif
  all_goals (refine Q0 ?_; refine Q2 ?_; refine Qr rfl rfl ?_; refine zn ?_; refine Q0 ?_)
  refine Qn rfl (fun hc => ?_) (fun hc => ?_)
  · skip
    all_goals (refine zsk ?_; refine Q0 ?_; refine Qa ?_; refine Q0 ?_; refine Q2 ?_; refine zi ?_; intro b1 o1 cs1 x1 hat1 hx1 he1; obtain ⟨vp1, vr1, vb1, rfl, hp1, hr1, hb1⟩ := QO he1; (first | (refine zv hS ?_) | (refine zvk hS ?_)); refine Qb hS ?_; intro p5 w1 hS; refine zsn hS ?_; intro w1 hS; have hS := hS.ns; refine zn ?_; have hsh := hsm x1 (List.mem_of_getElem? hx1); have hlb := hsh.2.2.1)
    have hJ6 := St.refl hS
    refine zML hS [2, 3, 5, 13, 14, 15] (fun A LL ρ' w' => ∃ (k6 : Cx) (a1 a2 : Option Addr) (n1 n2 p6 : Nat), Has ρ' A ∧ Has ρ' [(6, .pointer (some ⟨p6, 0, none⟩))] ∧ (k0.Le k6) ∧ (tyR.sl k6 (.slice a1 x1.params.length n1) x1.params) ∧ (tyR.sl k6 (.slice a2 x1.results.length n2) x1.results) ∧ St k6 w' (blk p6 53 [.int .i64 x1.regs, .slice a1 x1.params.length n1, .slice a2 x1.results.length n2, .slice none 0 0] :: LL)) ?_ ?_
    · skip
      refine Q3N 4 9 (by kernel_rfl) ?_ ?_
      · skip
        refine Q3N 7 9 (by kernel_rfl) ?_ ?_
        · skip
          all_goals (refine zC [(0, none), (1, none), (2, none), (3, none), (5, none), (6, none), (4, some (some [1, 6])), (7, some (some [1])), (8, none), (9, some (some [1])), (10, some none)] ?_; have hS := hS.drew; refine s_cq ?_; refine Q1 rfl ?_; refine zt ?_; refine s_cq ?_; refine zl hS ?_; refine zt ?_; refine s_cq ?_; refine Q1 rfl ?_; refine zt ?_; refine s_cq ?_; refine zl hS ?_; refine zt ?_; refine s_cq ?_; refine Q1 rfl ?_; refine zt ?_; refine s_cq ?_; refine zl hS ?_; refine zt ?_; refine QE ?_)
          all_goals (refine zR1 (c := Q5U hsh.1.1 hsh.1.2 hp1 hS) (h := ?_); rintro v1 w1 ⟨c1, hle2, hk1, hS⟩; obtain ⟨a1, n1, rfl⟩ := Rep.SR.shape hk1; (try have hle := hle.trans hle2); (try have hL0 := hL0.trans hle2); (try have hJ6 := hJ6.trans hle2); (try have hf := hf.up hle2); (try have hp1 := hp1.up hle2); (try have hr1 := hr1.up hle2); (try have hb1 := hb1.up hle2); (try have he1 := he1.up hle2); (try have hls := hls.up hle2))
          all_goals (refine zt ?_; refine zy ?_; refine QE ?_)
          all_goals (refine zR1 (c := Q5U hsh.2.1.1 hsh.2.1.2 hr1 hS) (h := ?_); rintro v1 w1 ⟨c2, hle2, hk2, hS⟩; obtain ⟨a2, n2, rfl⟩ := Rep.SR.shape hk2; (try have hle := hle.trans hle2); (try have hL0 := hL0.trans hle2); (try have hJ6 := hJ6.trans hle2); (try have hf := hf.up hle2); (try have hk1 := hk1.up hle2); (try have hp1 := hp1.up hle2); (try have hr1 := hr1.up hle2); (try have hb1 := hb1.up hle2); (try have he1 := he1.up hle2); (try have hls := hls.up hle2))
          all_goals (refine zt ?_; refine zy ?_; refine s_cq ?_; refine zb3 [_, _, _, _] ?_; refine zt ?_; refine QE ?_; refine Qb hS ?_; intro p6 w1 hS; refine zt ?_; refine zy ?_; refine s_cf ?_; refine zsn hS ?_; intro w1 hS; have hS := hS.ns; refine zt ?_; refine zcn ?_; exact ⟨_, a1, a2, n1, n2, p6, zh, zh, hJ6, by assumption, by assumption, hS.sp⟩)
        · skip
          all_goals (refine zC [(0, none), (1, none), (2, none), (3, none), (5, none), (6, none), (4, some (some [1, 6])), (9, some (some [1, 6])), (7, some (some [1])), (8, none), (10, some none)] ?_; have hS := hS.drew; refine s_cq ?_; refine Q1 rfl ?_; refine zt ?_; refine s_cq ?_; refine zl hS ?_; refine zt ?_; refine s_cq ?_; refine Q1 rfl ?_; refine zt ?_; refine s_cq ?_; refine zl hS ?_; refine zt ?_; refine s_cq ?_; refine Q1 rfl ?_; refine zt ?_; refine s_cq ?_; refine zl hS ?_; refine zt ?_; refine QE ?_)
          all_goals (refine zR1 (c := Q5U hsh.1.1 hsh.1.2 hp1 hS) (h := ?_); rintro v1 w1 ⟨c1, hle2, hk1, hS⟩; obtain ⟨a1, n1, rfl⟩ := Rep.SR.shape hk1; (try have hle := hle.trans hle2); (try have hL0 := hL0.trans hle2); (try have hJ6 := hJ6.trans hle2); (try have hf := hf.up hle2); (try have hp1 := hp1.up hle2); (try have hr1 := hr1.up hle2); (try have hb1 := hb1.up hle2); (try have he1 := he1.up hle2); (try have hls := hls.up hle2))
          all_goals (refine zt ?_; refine zy ?_; refine QE ?_; refine Qb hS ?_; intro p6 w1 hS; refine zt ?_; refine zy ?_; refine QE ?_)
          all_goals (refine zR1 (c := Q5U hsh.2.1.1 hsh.2.1.2 hr1 hS) (h := ?_); rintro v1 w1 ⟨c2, hle2, hk2, hS⟩; obtain ⟨a2, n2, rfl⟩ := Rep.SR.shape hk2; (try have hle := hle.trans hle2); (try have hL0 := hL0.trans hle2); (try have hJ6 := hJ6.trans hle2); (try have hf := hf.up hle2); (try have hk1 := hk1.up hle2); (try have hp1 := hp1.up hle2); (try have hr1 := hr1.up hle2); (try have hb1 := hb1.up hle2); (try have he1 := he1.up hle2); (try have hls := hls.up hle2))
          all_goals (refine zt ?_; refine zy ?_; refine s_cq ?_; refine zb3 [_, _, _, _] ?_; refine zt ?_; refine s_cf ?_; refine zsn hS ?_; intro w1 hS; have hS := hS.ns; refine zt ?_; refine zcn ?_; exact ⟨_, a1, a2, n1, n2, p6, zh, zh, hJ6, by assumption, by assumption, hS.sp⟩)
      · skip
        all_goals (refine zC [(0, none), (1, none), (2, none), (3, none), (5, none), (6, none), (9, some (some [1, 3, 6])), (4, some (some [1, 6])), (7, some (some [1])), (8, none), (10, some none)] ?_; have hS := hS.drew; refine s_cq ?_; refine Q1 rfl ?_; refine zt ?_; refine s_cq ?_; refine zl hS ?_; refine zt ?_; refine s_cq ?_; refine Q1 rfl ?_; refine zt ?_; refine s_cq ?_; refine zl hS ?_; refine zt ?_; refine s_cq ?_; refine Q1 rfl ?_; refine zt ?_; refine s_cq ?_; refine zl hS ?_; refine zt ?_; refine QE ?_; refine Qb hS ?_; intro p6 w1 hS; refine zt ?_; refine zy ?_; refine QE ?_)
        all_goals (refine zR1 (c := Q5U hsh.1.1 hsh.1.2 hp1 hS) (h := ?_); rintro v1 w1 ⟨c1, hle2, hk1, hS⟩; obtain ⟨a1, n1, rfl⟩ := Rep.SR.shape hk1; (try have hle := hle.trans hle2); (try have hL0 := hL0.trans hle2); (try have hJ6 := hJ6.trans hle2); (try have hf := hf.up hle2); (try have hp1 := hp1.up hle2); (try have hr1 := hr1.up hle2); (try have hb1 := hb1.up hle2); (try have he1 := he1.up hle2); (try have hls := hls.up hle2))
        all_goals (refine zt ?_; refine zy ?_; refine QE ?_)
        all_goals (refine zR1 (c := Q5U hsh.2.1.1 hsh.2.1.2 hr1 hS) (h := ?_); rintro v1 w1 ⟨c2, hle2, hk2, hS⟩; obtain ⟨a2, n2, rfl⟩ := Rep.SR.shape hk2; (try have hle := hle.trans hle2); (try have hL0 := hL0.trans hle2); (try have hJ6 := hJ6.trans hle2); (try have hf := hf.up hle2); (try have hk1 := hk1.up hle2); (try have hp1 := hp1.up hle2); (try have hr1 := hr1.up hle2); (try have hb1 := hb1.up hle2); (try have he1 := he1.up hle2); (try have hls := hls.up hle2))
        all_goals (refine zt ?_; refine zy ?_; refine s_cq ?_; refine zb3 [_, _, _, _] ?_; refine zt ?_; refine s_cf ?_; refine zsn hS ?_; intro w1 hS; have hS := hS.ns; refine zt ?_; refine zcn ?_; exact ⟨_, a1, a2, n1, n2, p6, zh, zh, hJ6, by assumption, by assumption, hS.sp⟩)
    rintro ρ w1 ⟨k6, a1, a2, n1, n2, p6, hA, hρ, hle2, hk1, hk2, hS⟩; obtain ⟨ρ, rfl⟩ := env2 hA hρ; (try have hle := hle.trans hle2); (try have hL0 := hL0.trans hle2); (try have hJ6 := hJ6.trans hle2); (try have hf := hf.up hle2); (try have hp1 := hp1.up hle2); (try have hr1 := hr1.up hle2); (try have hb1 := hb1.up hle2); (try have he1 := he1.up hle2); (try have hls := hls.up hle2)
    all_goals (refine Q0 ?_; refine Q0 ?_; refine Q2 ?_; refine Q1 rfl ?_; refine zl hS ?_; refine zL ?_; refine zm ?_; refine zn ?_; refine Qa ?_)
    refine zo [2, 3, 6, 13, 14, 15, 29, 30] (fun A ρ' w' => ∃ (k1 : Cx) (i : Nat) (ub : Value) (cssB : List (List Value)), Has ρ' A ∧ Has ρ' [(31, .int .i64 i)] ∧ (k6.Le k1) ∧ (i ≤ x1.blocks.length) ∧ (blockR.ls k1 cssB (x1.blocks.take i)) ∧ (oneC ub = true) ∧ St k1 w' (sl 79 12 ub cssB :: blk p6 53 [.int .i64 x1.regs, .slice a1 x1.params.length n1, .slice a2 x1.results.length n2, ub] :: blk p5 53 [.int .i64 x1.regs, vp1, vr1, vb1] :: sl 53 4 u css :: blk p3 24 [u] :: blk p2 24 [.slice none 0 0] :: blk p1 24 [vf] :: L)) (fun ρ' _ => (x1.blocks.length - iv (ρ' 31)).toNat) ?_ ?_
    · exact ⟨k6, 0, .slice none 0 0, [], zh, zh, St.refl hS, (by omega), Rep.LR.nil _ _ _, rfl, by have hS := hS.nil (T := 79) (es := 12); exact hS.sp⟩
    rintro ρ w1 ⟨k1, i, ub, cssB, hA, hρ, hle2, hi, hlsB, hub, hS⟩; obtain ⟨ρ, rfl⟩ := env2 hA hρ; have hL1 := hle2; (try have hle := hle.trans hle2); (try have hL0 := hL0.trans hle2); (try have hJ6 := hJ6.trans hle2); (try have hf := hf.up hle2); (try have hk1 := hk1.up hle2); (try have hk2 := hk2.up hle2); (try have hp1 := hp1.up hle2); (try have hr1 := hr1.up hle2); (try have hb1 := hb1.up hle2); (try have he1 := he1.up hle2); (try have hls := hls.up hle2)
    unfold Qie
    all_goals (refine Q0 ?_; refine Q2 ?_; refine Qr rfl rfl ?_; refine zn ?_; refine Q0 ?_)
    refine Qn rfl (fun hc => ?_) (fun hc => ?_)
    · skip
      all_goals (refine zsk ?_; refine Q0 ?_; refine Qa ?_; refine Q0 ?_; refine Q2 ?_; refine zi ?_; intro b2 o2 cs2 x2 hat2 hx2 he2; obtain ⟨vp2, vc2, ve21, ve22, ve23, ve24, ve25, rfl, hp2, hc2, he21, he22, he23, he24, he25⟩ := Q1c he2; (first | (refine zv hS ?_) | (refine zvk hS ?_)); refine Qb hS ?_; intro p8 w1 hS; refine zsn hS ?_; intro w1 hS; have hS := hS.ns; refine zn ?_; have hsb := hsh.2.2.2 x2 (List.mem_of_getElem? hx2); have hlc := hsb.2.1)
      have hJ10 := St.refl hS
      refine zML hS [2, 3, 6, 8, 13, 14, 15, 29, 30, 31] (fun A LL ρ' w' => ∃ (k10 : Cx) (a3 : Option Addr) (n3 p9 : Nat), Has ρ' A ∧ Has ρ' [(9, .pointer (some ⟨p9, 0, none⟩))] ∧ (k1.Le k10) ∧ (tyR.sl k10 (.slice a3 x2.params.length n3) x2.params) ∧ St k10 w' (blk p9 79 [.int .i64 x2.regs, .slice a3 x2.params.length n3, .slice none 0 0, .int .i64 x2.fin.op, .int .i64 x2.fin.a, .int .i64 x2.fin.yes.block, ve21, ve22, .int .i64 x2.fin.no.block, ve23, ve24, ve25] :: LL)) ?_ ?_
      · skip
        all_goals (obtain ⟨q1, m1, rfl⟩ := Rep.SR.shape he21; obtain ⟨q2, m2, rfl⟩ := Rep.SR.shape he22; obtain ⟨q3, m3, rfl⟩ := Rep.SR.shape he23; obtain ⟨q4, m4, rfl⟩ := Rep.SR.shape he24; obtain ⟨q5, m5, rfl⟩ := Rep.SR.shape he25)
        refine Q3N 4 8 (by kernel_rfl) ?_ ?_
        · skip
          all_goals (refine zC [(0, none), (1, none), (2, none), (3, none), (5, none), (6, none), (4, some (some [1, 6])), (7, none), (8, some (some [1, 6])), (9, some none)] ?_; have hS := hS.drew; refine s_cq ?_; refine Q1 rfl ?_; refine zt ?_; refine s_cq ?_; refine zl hS ?_; refine zt ?_; refine s_cq ?_; refine Q1 rfl ?_; refine zt ?_; refine s_cq ?_; refine zl hS ?_; refine zt ?_; refine s_cq ?_; refine Q1 rfl ?_; refine zt ?_; refine s_cq ?_; refine zv hS ?_; refine zt ?_; refine QE ?_)
          all_goals (refine zR1 (c := Q5U hsb.1.1 hsb.1.2 hp2 hS) (h := ?_); rintro v1 w1 ⟨c3, hle2, hk3, hS⟩; obtain ⟨a3, n3, rfl⟩ := Rep.SR.shape hk3; (try have hle := hle.trans hle2); (try have hL0 := hL0.trans hle2); (try have hL1 := hL1.trans hle2); (try have hJ6 := hJ6.trans hle2); (try have hJ10 := hJ10.trans hle2); (try have hf := hf.up hle2); (try have hk1 := hk1.up hle2); (try have hk2 := hk2.up hle2); (try have hp1 := hp1.up hle2); (try have hr1 := hr1.up hle2); (try have hb1 := hb1.up hle2); (try have hp2 := hp2.up hle2); (try have hc2 := hc2.up hle2); (try have he21 := he21.up hle2); (try have he22 := he22.up hle2); (try have he23 := he23.up hle2); (try have he24 := he24.up hle2); (try have he25 := he25.up hle2); (try have he1 := he1.up hle2); (try have he2 := he2.up hle2); (try have hls := hls.up hle2); (try have hlsB := hlsB.up hle2))
          all_goals (refine zt ?_; refine zy ?_; refine s_cq ?_; refine zb3 [_, _, _, _, _, _, _, _, _, _, _, _] ?_; refine zt ?_; refine QE ?_; refine Qb hS ?_; intro p9 w1 hS; refine zt ?_; refine zy ?_; refine s_cf ?_; refine zsn hS ?_; intro w1 hS; have hS := hS.ns; refine zt ?_; refine zcn ?_; exact ⟨_, a3, n3, p9, zh, zh, hJ10, by assumption, hS.sp⟩)
        · skip
          all_goals (refine zC [(0, none), (1, none), (2, none), (3, none), (5, none), (6, none), (8, some (some [1, 3, 6])), (4, some (some [1, 6])), (7, none), (9, some none)] ?_; have hS := hS.drew; refine s_cq ?_; refine Q1 rfl ?_; refine zt ?_; refine s_cq ?_; refine zl hS ?_; refine zt ?_; refine s_cq ?_; refine Q1 rfl ?_; refine zt ?_; refine s_cq ?_; refine zl hS ?_; refine zt ?_; refine s_cq ?_; refine Q1 rfl ?_; refine zt ?_; refine s_cq ?_; refine zv hS ?_; refine zt ?_; refine QE ?_; refine Qb hS ?_; intro p9 w1 hS; refine zt ?_; refine zy ?_; refine QE ?_)
          all_goals (refine zR1 (c := Q5U hsb.1.1 hsb.1.2 hp2 hS) (h := ?_); rintro v1 w1 ⟨c3, hle2, hk3, hS⟩; obtain ⟨a3, n3, rfl⟩ := Rep.SR.shape hk3; (try have hle := hle.trans hle2); (try have hL0 := hL0.trans hle2); (try have hL1 := hL1.trans hle2); (try have hJ6 := hJ6.trans hle2); (try have hJ10 := hJ10.trans hle2); (try have hf := hf.up hle2); (try have hk1 := hk1.up hle2); (try have hk2 := hk2.up hle2); (try have hp1 := hp1.up hle2); (try have hr1 := hr1.up hle2); (try have hb1 := hb1.up hle2); (try have hp2 := hp2.up hle2); (try have hc2 := hc2.up hle2); (try have he21 := he21.up hle2); (try have he22 := he22.up hle2); (try have he23 := he23.up hle2); (try have he24 := he24.up hle2); (try have he25 := he25.up hle2); (try have he1 := he1.up hle2); (try have he2 := he2.up hle2); (try have hls := hls.up hle2); (try have hlsB := hlsB.up hle2))
          all_goals (refine zt ?_; refine zy ?_; refine s_cq ?_; refine zb3 [_, _, _, _, _, _, _, _, _, _, _, _] ?_; refine zt ?_; refine s_cf ?_; refine zsn hS ?_; intro w1 hS; have hS := hS.ns; refine zt ?_; refine zcn ?_; exact ⟨_, a3, n3, p9, zh, zh, hJ10, by assumption, hS.sp⟩)
      rintro ρ w1 ⟨k10, a3, n3, p9, hA, hρ, hle2, hk3, hS⟩; obtain ⟨ρ, rfl⟩ := env2 hA hρ; (try have hle := hle.trans hle2); (try have hL0 := hL0.trans hle2); (try have hL1 := hL1.trans hle2); (try have hJ6 := hJ6.trans hle2); (try have hJ10 := hJ10.trans hle2); (try have hf := hf.up hle2); (try have hk1 := hk1.up hle2); (try have hk2 := hk2.up hle2); (try have hp1 := hp1.up hle2); (try have hr1 := hr1.up hle2); (try have hb1 := hb1.up hle2); (try have hp2 := hp2.up hle2); (try have hc2 := hc2.up hle2); (try have he21 := he21.up hle2); (try have he22 := he22.up hle2); (try have he23 := he23.up hle2); (try have he24 := he24.up hle2); (try have he25 := he25.up hle2); (try have he1 := he1.up hle2); (try have he2 := he2.up hle2); (try have hls := hls.up hle2); (try have hlsB := hlsB.up hle2)
      all_goals (refine Q0 ?_; refine zC [(0, none), (1, none), (2, none), (4, none), (5, none), (6, none), (8, none), (9, none), (10, none), (3, some (some [6, 10])), (12, none), (13, none), (7, some (some [10])), (11, some (some [])), (14, some none), (15, none), (16, none), (17, some none), (18, none), (19, none), (20, some none)] ?_; have hS := hS.drew; refine s_cq ?_; refine Q1 rfl ?_; refine zt ?_; refine s_cq ?_; (first | refine Q1 rfl ?_ | refine Q12 rfl ?_); refine zt ?_; refine s_cq ?_; refine zv hS ?_; refine zt ?_; refine s_cq ?_; refine Q1 rfl ?_; refine zt ?_; refine s_cq ?_; (first | refine Q1 rfl ?_ | refine Q12 rfl ?_); refine zt ?_; refine s_cq ?_; refine zv hS ?_; refine zt ?_; refine s_cq ?_; refine Q1 rfl ?_; refine zt ?_; refine s_cq ?_; (first | refine Q1 rfl ?_ | refine Q12 rfl ?_); refine zt ?_; refine s_cq ?_; refine zl hS ?_; refine zt ?_; refine QE ?_)
      all_goals (refine zR1 (c := Qvf (x := x2.fin.yes) (by have := hsb.2.2.2.1.1; omega) (by have := hsb.2.2.2.1.2; omega) ⟨_, _, rfl, he21, he22⟩ hS) (h := ?_); rintro v1 w1 ⟨c7, ds, rfl, hle2, hk7, hS⟩; obtain ⟨y1, y2, rfl, hy1, hy2⟩ := Q3v hk7; obtain ⟨a7, n7, rfl⟩ := Rep.SR.shape hy1; obtain ⟨a8, n8, rfl⟩ := Rep.SR.shape hy2; (try have hle := hle.trans hle2); (try have hL0 := hL0.trans hle2); (try have hL1 := hL1.trans hle2); (try have hJ6 := hJ6.trans hle2); (try have hJ10 := hJ10.trans hle2); (try have hf := hf.up hle2); (try have hk1 := hk1.up hle2); (try have hk2 := hk2.up hle2); (try have hk3 := hk3.up hle2); (try have hp1 := hp1.up hle2); (try have hr1 := hr1.up hle2); (try have hb1 := hb1.up hle2); (try have hp2 := hp2.up hle2); (try have hc2 := hc2.up hle2); (try have he21 := he21.up hle2); (try have he22 := he22.up hle2); (try have he23 := he23.up hle2); (try have he24 := he24.up hle2); (try have he25 := he25.up hle2); (try have he1 := he1.up hle2); (try have he2 := he2.up hle2); (try have hls := hls.up hle2); (try have hlsB := hlsB.up hle2))
      all_goals (refine zt ?_; refine zy ?_; refine s_cq ?_; refine Q1 rfl ?_; refine zt ?_; refine s_cq ?_; (first | refine Q1 rfl ?_ | refine Q12 rfl ?_); refine zt ?_; refine QE ?_)
      all_goals (refine zR1 (c := Qvf (x := x2.fin.no) (by have := hsb.2.2.2.2.1.1; omega) (by have := hsb.2.2.2.2.1.2; omega) ⟨_, _, rfl, he23, he24⟩ hS) (h := ?_); rintro v1 w1 ⟨c8, ds, rfl, hle2, hk8, hS⟩; obtain ⟨z1, z2, rfl, hz1, hz2⟩ := Q3v hk8; obtain ⟨a9, n9, rfl⟩ := Rep.SR.shape hz1; obtain ⟨a10, n10, rfl⟩ := Rep.SR.shape hz2; (try have hle := hle.trans hle2); (try have hL0 := hL0.trans hle2); (try have hL1 := hL1.trans hle2); (try have hJ6 := hJ6.trans hle2); (try have hJ10 := hJ10.trans hle2); (try have hf := hf.up hle2); (try have hk1 := hk1.up hle2); (try have hk2 := hk2.up hle2); (try have hk3 := hk3.up hle2); (try have hk7 := hk7.up hle2); (try have hp1 := hp1.up hle2); (try have hr1 := hr1.up hle2); (try have hb1 := hb1.up hle2); (try have hp2 := hp2.up hle2); (try have hc2 := hc2.up hle2); (try have he21 := he21.up hle2); (try have he22 := he22.up hle2); (try have he23 := he23.up hle2); (try have he24 := he24.up hle2); (try have he25 := he25.up hle2); (try have he1 := he1.up hle2); (try have he2 := he2.up hle2); (try have hls := hls.up hle2); (try have hy1 := hy1.up hle2); (try have hy2 := hy2.up hle2); (try have hlsB := hlsB.up hle2))
      all_goals (refine zt ?_; refine zy ?_; refine QE ?_)
      all_goals (refine zR1 (c := Q9C (by have := hsb.2.2.2.2.2; omega) he25 hS) (h := ?_); rintro v1 w1 ⟨c9, hle2, hw1, hS⟩; obtain ⟨a11, n11, rfl⟩ := Rep.SR.shape hw1; (try have hle := hle.trans hle2); (try have hL0 := hL0.trans hle2); (try have hL1 := hL1.trans hle2); (try have hJ6 := hJ6.trans hle2); (try have hJ10 := hJ10.trans hle2); (try have hf := hf.up hle2); (try have hk1 := hk1.up hle2); (try have hk2 := hk2.up hle2); (try have hk3 := hk3.up hle2); (try have hk7 := hk7.up hle2); (try have hk8 := hk8.up hle2); (try have hp1 := hp1.up hle2); (try have hr1 := hr1.up hle2); (try have hb1 := hb1.up hle2); (try have hp2 := hp2.up hle2); (try have hc2 := hc2.up hle2); (try have he21 := he21.up hle2); (try have he22 := he22.up hle2); (try have he23 := he23.up hle2); (try have he24 := he24.up hle2); (try have he25 := he25.up hle2); (try have he1 := he1.up hle2); (try have he2 := he2.up hle2); (try have hls := hls.up hle2); (try have hy1 := hy1.up hle2); (try have hy2 := hy2.up hle2); (try have hz1 := hz1.up hle2); (try have hz2 := hz2.up hle2); (try have hlsB := hlsB.up hle2))
      all_goals (refine zt ?_; refine zy ?_; refine s_cf ?_; (first | (refine zsn hS ?_; intro w1 hS; have hS := hS.ns) | (refine zsm hS ?_; intro w1 hS; have hS := hS.ns)); refine zt ?_; refine s_cq ?_; refine Q1 rfl ?_; refine zt ?_; refine s_cq ?_; (first | refine Q1 rfl ?_ | refine Q12 rfl ?_); refine zt ?_; refine s_cf ?_; (first | (refine zsn hS ?_; intro w1 hS; have hS := hS.ns) | (refine zsm hS ?_; intro w1 hS; have hS := hS.ns)); refine zt ?_; refine s_cq ?_; refine Q1 rfl ?_; refine zt ?_; refine s_cq ?_; (first | refine Q1 rfl ?_ | refine Q12 rfl ?_); refine zt ?_; refine s_cf ?_; refine zst hS ?_; intro w1 hS; have hS := hS.ns; refine zt ?_; refine zcn ?_; refine Q0 ?_; refine Q0 ?_; refine Q2 ?_; refine Q1 rfl ?_; refine zl hS ?_; refine zL ?_; refine zm ?_; refine zn ?_; refine Qa ?_)
      refine zo [2, 3, 6, 9, 13, 14, 15, 29, 30, 31, 62, 63] (fun A ρ' w' => ∃ (k2 : Cx) (k : Nat) (uc : Value) (cssC : List (List Value)), Has ρ' A ∧ Has ρ' [(64, .int .i64 k)] ∧ (c9.Le k2) ∧ (k ≤ x2.code.length) ∧ (insR.ls k2 cssC (x2.code.take k)) ∧ (oneC uc = true) ∧ St k2 w' (sl 57 8 uc cssC :: blk p9 79 [.int .i64 x2.regs, .slice a3 x2.params.length n3, uc, .int .i64 x2.fin.op, .int .i64 x2.fin.a, .int .i64 x2.fin.yes.block, .slice a7 x2.fin.yes.regs.length n7, .slice a8 x2.fin.yes.args.length n8, .int .i64 x2.fin.no.block, .slice a9 x2.fin.no.regs.length n9, .slice a10 x2.fin.no.args.length n10, .slice a11 x2.fin.args.length n11] :: blk p8 79 [.int .i64 x2.regs, vp2, vc2, .int .i64 x2.fin.op, .int .i64 x2.fin.a, .int .i64 x2.fin.yes.block, ve21, ve22, .int .i64 x2.fin.no.block, ve23, ve24, ve25] :: sl 79 12 ub cssB :: blk p6 53 [.int .i64 x1.regs, .slice a1 x1.params.length n1, .slice a2 x1.results.length n2, ub] :: blk p5 53 [.int .i64 x1.regs, vp1, vr1, vb1] :: sl 53 4 u css :: blk p3 24 [u] :: blk p2 24 [.slice none 0 0] :: blk p1 24 [vf] :: L)) (fun ρ' _ => (x2.code.length - iv (ρ' 64)).toNat) ?_ ?_
      · exact ⟨c9, 0, .slice none 0 0, [], zh, zh, St.refl hS, (by omega), Rep.LR.nil _ _ _, rfl, by have hS := hS.nil (T := 57) (es := 8); exact hS.sp⟩
      rintro ρ w1 ⟨k2, k, uc, cssC, hA, hρ, hle2, hkk, hlsC, huc, hS⟩; obtain ⟨ρ, rfl⟩ := env2 hA hρ; have hL2 := hle2; (try have hle := hle.trans hle2); (try have hL0 := hL0.trans hle2); (try have hL1 := hL1.trans hle2); (try have hJ6 := hJ6.trans hle2); (try have hJ10 := hJ10.trans hle2); (try have hf := hf.up hle2); (try have hk1 := hk1.up hle2); (try have hk2 := hk2.up hle2); (try have hk3 := hk3.up hle2); (try have hk7 := hk7.up hle2); (try have hk8 := hk8.up hle2); (try have hp1 := hp1.up hle2); (try have hr1 := hr1.up hle2); (try have hb1 := hb1.up hle2); (try have hp2 := hp2.up hle2); (try have hc2 := hc2.up hle2); (try have he21 := he21.up hle2); (try have he22 := he22.up hle2); (try have he23 := he23.up hle2); (try have he24 := he24.up hle2); (try have he25 := he25.up hle2); (try have he1 := he1.up hle2); (try have he2 := he2.up hle2); (try have hls := hls.up hle2); (try have hy1 := hy1.up hle2); (try have hy2 := hy2.up hle2); (try have hz1 := hz1.up hle2); (try have hz2 := hz2.up hle2); (try have hw1 := hw1.up hle2); (try have hlsB := hlsB.up hle2)
      unfold QeC
      all_goals (refine Q0 ?_; refine Q2 ?_; refine Qr rfl rfl ?_; refine zn ?_; refine Q0 ?_)
      refine Qn rfl (fun hc => ?_) (fun hc => ?_)
      · skip
        all_goals (refine zsk ?_; refine Q0 ?_; refine Qa ?_; refine Q0 ?_; refine Q2 ?_; refine zi ?_; intro b3 o3 cs3 x3 hat3 hx3 he3; obtain ⟨vr3, va3, rfl, hr3, ha3⟩ := Q1h he3; (first | (refine zv hS ?_) | (refine zvk hS ?_)); refine Qb hS ?_; intro p11 w1 hS; refine zsn hS ?_; intro w1 hS; have hS := hS.ns; refine zn ?_; refine Q0 ?_; have hsi := hsb.2.2.1 x3 (List.mem_of_getElem? hx3); refine zC [(0, none), (1, none), (3, none), (4, none), (2, some (some [4])), (6, none), (5, some (some [])), (7, some none), (8, none), (9, some none)] ?_; have hS := hS.drew; refine s_cq ?_; refine Q1 rfl ?_; refine zt ?_; refine s_cq ?_; refine zl hS ?_; refine zt ?_; refine s_cq ?_; refine Q1 rfl ?_; refine zt ?_; refine s_cq ?_; refine zl hS ?_; refine zt ?_; refine QE ?_)
        all_goals (refine zR1 (c := Q9C (by have := hsi.1; omega) hr3 hS) (h := ?_); rintro v1 w1 ⟨c4, hle2, hk4, hS⟩; obtain ⟨a4, n4, rfl⟩ := Rep.SR.shape hk4; (try have hle := hle.trans hle2); (try have hL0 := hL0.trans hle2); (try have hL1 := hL1.trans hle2); (try have hL2 := hL2.trans hle2); (try have hJ6 := hJ6.trans hle2); (try have hJ10 := hJ10.trans hle2); (try have hf := hf.up hle2); (try have hk1 := hk1.up hle2); (try have hk2 := hk2.up hle2); (try have hk3 := hk3.up hle2); (try have hk7 := hk7.up hle2); (try have hk8 := hk8.up hle2); (try have hp1 := hp1.up hle2); (try have hr1 := hr1.up hle2); (try have hb1 := hb1.up hle2); (try have hp2 := hp2.up hle2); (try have hc2 := hc2.up hle2); (try have he21 := he21.up hle2); (try have he22 := he22.up hle2); (try have he23 := he23.up hle2); (try have he24 := he24.up hle2); (try have he25 := he25.up hle2); (try have hr3 := hr3.up hle2); (try have ha3 := ha3.up hle2); (try have he1 := he1.up hle2); (try have he2 := he2.up hle2); (try have he3 := he3.up hle2); (try have hls := hls.up hle2); (try have hy1 := hy1.up hle2); (try have hy2 := hy2.up hle2); (try have hz1 := hz1.up hle2); (try have hz2 := hz2.up hle2); (try have hw1 := hw1.up hle2); (try have hlsB := hlsB.up hle2); (try have hlsC := hlsC.up hle2))
        all_goals (refine zt ?_; refine zy ?_; refine s_cq ?_; refine Q1 rfl ?_; refine zt ?_; refine QE ?_)
        all_goals (refine zR1 (c := Q9C (by have := hsi.2; omega) ha3 hS) (h := ?_); rintro v1 w1 ⟨c5, hle2, hk5, hS⟩; obtain ⟨a5, n5, rfl⟩ := Rep.SR.shape hk5; (try have hle := hle.trans hle2); (try have hL0 := hL0.trans hle2); (try have hL1 := hL1.trans hle2); (try have hL2 := hL2.trans hle2); (try have hJ6 := hJ6.trans hle2); (try have hJ10 := hJ10.trans hle2); (try have hf := hf.up hle2); (try have hk1 := hk1.up hle2); (try have hk2 := hk2.up hle2); (try have hk3 := hk3.up hle2); (try have hk4 := hk4.up hle2); (try have hk7 := hk7.up hle2); (try have hk8 := hk8.up hle2); (try have hp1 := hp1.up hle2); (try have hr1 := hr1.up hle2); (try have hb1 := hb1.up hle2); (try have hp2 := hp2.up hle2); (try have hc2 := hc2.up hle2); (try have he21 := he21.up hle2); (try have he22 := he22.up hle2); (try have he23 := he23.up hle2); (try have he24 := he24.up hle2); (try have he25 := he25.up hle2); (try have hr3 := hr3.up hle2); (try have ha3 := ha3.up hle2); (try have he1 := he1.up hle2); (try have he2 := he2.up hle2); (try have he3 := he3.up hle2); (try have hls := hls.up hle2); (try have hy1 := hy1.up hle2); (try have hy2 := hy2.up hle2); (try have hz1 := hz1.up hle2); (try have hz2 := hz2.up hle2); (try have hw1 := hw1.up hle2); (try have hlsB := hlsB.up hle2); (try have hlsC := hlsC.up hle2))
        all_goals (refine zt ?_; refine zy ?_; refine s_cf ?_; refine zst hS ?_; intro w1 hS; have hS := hS.ns; refine zt ?_; refine s_cq ?_; refine Q1 rfl ?_; refine zt ?_; refine s_cf ?_; refine zst hS ?_; intro w1 hS; have hS := hS.ns; refine zt ?_; refine zcn ?_; have hk9 : insR.at c5 _ x3 := ⟨_, _, rfl, hk4, hk5⟩; refine Q2 ?_; refine Q1 rfl ?_; refine zl hS ?_; refine zv hS ?_; refine zB1 hS [_, _, _, _, _, _, _, _] ?_; intro b1 w1 hS; refine za el_T40 u_T40 hS ?_; intro vp1 w1 css1 hls1 hv1 hS; have hS := hS.ns; refine Q1 rfl ?_; refine zst hS ?_; intro w1 hS; have hS := hS.ns; refine zn ?_; refine Q2 ?_; refine zad ?_; refine zm ?_; refine zn ?_; exact ⟨⟨_, k + 1, _, _, zh, zh, hL2, (by omega), by rw [Q1m hx3]; assumption, by assumption, hS.sp⟩, Qo (by omega)⟩)
      · skip
        all_goals (refine zex ?_)
        all_goals (obtain ⟨c6, hle2, hS, hk6⟩ := St.freezeL (r := insR) (l := x2.code) hS (by rw [List.take_of_length_le (by omega)] at hlsC; exact hlsC) rfl (by have := hsb.2.1; omega); obtain ⟨a6, n6, rfl⟩ := Rep.SR.shape hk6; (try have hle := hle.trans hle2); (try have hL0 := hL0.trans hle2); (try have hL1 := hL1.trans hle2); (try have hL2 := hL2.trans hle2); (try have hJ6 := hJ6.trans hle2); (try have hJ10 := hJ10.trans hle2); (try have hf := hf.up hle2); (try have hk1 := hk1.up hle2); (try have hk2 := hk2.up hle2); (try have hk3 := hk3.up hle2); (try have hk7 := hk7.up hle2); (try have hk8 := hk8.up hle2); (try have hp1 := hp1.up hle2); (try have hr1 := hr1.up hle2); (try have hb1 := hb1.up hle2); (try have hp2 := hp2.up hle2); (try have hc2 := hc2.up hle2); (try have he21 := he21.up hle2); (try have he22 := he22.up hle2); (try have he23 := he23.up hle2); (try have he24 := he24.up hle2); (try have he25 := he25.up hle2); (try have he1 := he1.up hle2); (try have he2 := he2.up hle2); (try have hls := hls.up hle2); (try have hy1 := hy1.up hle2); (try have hy2 := hy2.up hle2); (try have hz1 := hz1.up hle2); (try have hz2 := hz2.up hle2); (try have hw1 := hw1.up hle2); (try have hlsB := hlsB.up hle2); (try have hlsC := hlsC.up hle2))
        all_goals (have hk9 : blockR.at c6 _ x2 := Qip (x := x2) hk3 hk6 hy1 hy2 hz1 hz2 hw1; refine Q2 ?_; refine Q1 rfl ?_; refine zl hS ?_; refine zv hS ?_; refine zB1 hS [_, _, _, _, _, _, _, _, _, _, _, _] ?_; intro b1 w1 hS; refine za el_T51 u_T51 hS ?_; intro vp2 w2 css2 hls2 hv2 hS; have hS := hS.ns; refine Q1 rfl ?_; refine zst hS ?_; intro w1 hS; have hS := hS.ns; refine zn ?_; refine Q2 ?_; refine zad ?_; refine zm ?_; refine zn ?_; exact ⟨⟨_, i + 1, _, _, zh, zh, hL1, (by omega), by rw [Q1m hx2]; assumption, by assumption, hS.sp⟩, Qo (by omega)⟩)
    · skip
      all_goals (refine zex ?_)
      all_goals (obtain ⟨c10, hle2, hS, hk6⟩ := St.freezeL (r := blockR) (l := x1.blocks) hS (by rw [List.take_of_length_le (by omega)] at hlsB; exact hlsB) rfl (by have := hsh.2.2.1; omega); obtain ⟨a6, n6, rfl⟩ := Rep.SR.shape hk6; (try have hle := hle.trans hle2); (try have hL0 := hL0.trans hle2); (try have hL1 := hL1.trans hle2); (try have hJ6 := hJ6.trans hle2); (try have hf := hf.up hle2); (try have hk1 := hk1.up hle2); (try have hk2 := hk2.up hle2); (try have hp1 := hp1.up hle2); (try have hr1 := hr1.up hle2); (try have hb1 := hb1.up hle2); (try have he1 := he1.up hle2); (try have hls := hls.up hle2); (try have hlsB := hlsB.up hle2))
      all_goals (have hk9 : funcR.at c10 _ x1 := ⟨_, _, _, rfl, hk1, hk2, hk6⟩; refine Q2 ?_; refine Q1 rfl ?_; refine zl hS ?_; refine zv hS ?_; refine zB1 hS [_, _, _, _] ?_; intro b1 w1 hS; refine za el_T22 u_T22 hS ?_; intro vp3 w3 css3 hls3 hv3 hS; have hS := hS.ns; refine Q1 rfl ?_; refine zst hS ?_; intro w1 hS; have hS := hS.ns; refine zn ?_; refine Q2 ?_; refine zad ?_; refine zm ?_; refine zn ?_; exact ⟨⟨_, j + 1, _, _, zh, zh, hL0, (by omega), by rw [Q1m hx1]; assumption, by assumption, hS.sp⟩, Qo (by omega)⟩)
  · skip
    all_goals (refine zex ?_)
    all_goals (obtain ⟨c11, hle2, hS, hk6⟩ := St.freezeL (r := funcR) (l := l) hS (by rw [List.take_of_length_le (by omega)] at hls; exact hls) rfl (by omega); obtain ⟨a6, n6, rfl⟩ := Rep.SR.shape hk6; (try have hle := hle.trans hle2); (try have hL0 := hL0.trans hle2); (try have hf := hf.up hle2); (try have hls := hls.up hle2))
    all_goals (refine Q0 ?_; refine Q2 ?_; refine zv hS ?_; refine zsn hS ?_; intro w1 hS; have hS := hS.ns; refine zn ?_; refine zr ?_; refine Q1e vw (Qc (n := 1) (by kernel_rfl) (by kernel_rfl) (hS.blkAt fd) (by rfl) (by rfl)) ?_; exact ⟨_, rfl, c11, _, rfl, hle, ⟨_, rfl, hk6⟩, hS.sp⟩)
end Go.Proofs.YtanlkfeogoganaaGreat
namespace Go.Proofs.YtanlkfeogoganaaGreat
open Go.Lir
set_option maxHeartbeats 1000000
attribute [local irreducible] LC.wp Q5 Q11 Q1f retQ Q2h LO.wp QD Calls
set_option linter.unusedSimpArgs false
set_option linter.unusedVariables false
attribute [local irreducible] hasB Q21 Q1N Q1Q Q3S upTo Module.fault
variable {cx : Cx} {w : World} {L : List Res} {j : JP} {h : List Bool} {vl : Value} {css : List (List Value)} {i : Nat} {m : Module}
theorem clonet_c {l : List Ty} {v : Value} (hl : tyR.sl cx v l) (hb : l.length ≤ 1000000) (hS : St cx w L) : Rets Tryz.prog Q1n [v] w fun u w' => oneC u = true ∧ ∃ css, tyR.ls cx css l ∧ St cx w' (sl 112 3 u css :: L) := by
  obtain ⟨a, c, hv⟩ := Rep.SR.shape hl
  cases a with
  | none =>
    have hl0 := Rep.SR.nil_of hl hv
    subst hl0
    subst hv
    all_goals refine Q1Z ?_
    all_goals (unfold slices_Clone_api_Type_api_Type_lc; refine Q0 ?_; refine Q2 ?_; refine zm ?_; refine zn ?_; refine Q0 ?_; refine Q0 ?_; refine Q2 ?_; refine zm ?_; refine Qoz (e := 112) (by kernel_rfl) rfl rfl ?_; refine zn ?_)
    all_goals
      first
      | (refine Q3 rfl ?_ -- Q1n c0
         all_goals (refine Q0 ?_; refine Q2 ?_; refine zm ?_; refine zn ?_; refine zr ?_; refine zf ?_)
         all_goals (exact ⟨_, rfl, rfl, [], Rep.LR.nil _ _ _, hS.nil⟩))
    all_goals (refine Q0 ?_; refine Q2 ?_; fail "no law for buildSlice"; refine zm ?_; refine za Q3s Q6O hS ?_; intro vp1 w1 css1 hls1 hv1 hS; have hS := hS.ns; refine zm ?_; refine zn ?_; refine zr ?_; refine zf ?_; exact ⟨_, rfl, rfl, [], Rep.LR.nil _ _ _, hS.nil⟩)
  | some a =>
    have hn : tyR.ls cx [] [] := Rep.LR.nil _ _ _
    all_goals refine Q1Z ?_
    all_goals (unfold slices_Clone_api_Type_api_Type_lc; refine Q0 ?_; refine Q2 ?_; refine zm ?_; refine zn ?_; refine Q0 ?_; refine Q0 ?_; refine Q2 ?_; refine zm ?_; refine Qoz (e := 112) (by kernel_rfl) hv rfl ?_; refine zn ?_)
    all_goals refine Q4 rfl ?_
    all_goals (refine zsk ?_; refine Q0 ?_; refine Q2 ?_; refine QwE Q3s ?_; intro v1 w1 hf1 hs1 hz1; have hS := hS.new (r := sl 112 3 v1 []) hs1 hf1 (fun b hb => Nat.le_of_eq hb.symm); refine zm ?_; (first | (refine za Q3s Q6O hS ?_; intro vp1 w1 css1 hls1 hv1 hS; have hS := hS.ns) | (refine zak Q3s Q6O hS ?_; intro vp1 w1 css1 hls1 hv1 hS; have hS := hS.ns)); refine zm ?_; refine zn ?_; refine zr ?_; refine zf ?_; exact ⟨_, rfl, by assumption, _, hls1, hS.sp⟩)
theorem JP.shut {v : Value} (hS : St cx w (blk j.sp 68 (j.cells vl) :: blk j.hp 124 [v] :: sl 4 1 v (h.map QL) :: sl 112 3 vl css :: L)) : St cx w (j.res h vl css :: L) := by
  have h1 : St cx w (QoO j.hp h :: sl 112 3 vl css :: blk j.sp 68 (j.cells vl) :: L) := Q40 (hS.perm (by
    refine List.Perm.trans (List.Perm.swap _ _ _) (List.Perm.cons _ ?_)
    refine List.Perm.trans (List.Perm.swap _ _ _) (List.Perm.cons _ ?_)
    exact List.Perm.swap _ _ _))
  exact St.star' (St.mv1 (St.star' h1))
theorem jNew_c {f b : Int} {cs : List Value} (hm : m.Short) (hx : modR.at cx cs m) (hS : St cx w L) :
    Rets Tryz.prog Q3W [.agg ⟨cs⟩, .int .i64 f, .int .i64 b] w fun u w' =>
      (m.fault.1 ≠ 0 ∧ u = .tuple #[.pointer none, fltV m.fault] ∧ St cx w' L) ∨
      (m.fault.1 = 0 ∧ ((f < 0 ∨ m.funcs.length ≤ f) ∨ ∃ fn, m.funcs[f.toNat]? = some fn ∧ (b < 0 ∨ fn.blocks.length ≤ b)) ∧ u = .tuple #[.pointer none, fltV (1, -1)] ∧ St cx w' L) ∨
      (∃ (fn : Fun) (y : Block) (j : JP) (c' : Cx) (vl : Value) (css : List (List Value)), m.fault.1 = 0 ∧ 0 ≤ f ∧ 0 ≤ b ∧ m.funcs[f.toNat]? = some fn ∧ fn.blocks[b.toNat]? = some y ∧ u = .tuple #[.pointer (some ⟨j.sp, 0, none⟩), fltV (0, 0)] ∧ cx.Le c' ∧ j.Fits c' m ∧ j.f = fn ∧ tyR.ls c' css y.params ∧ St c' w' (j.res (Q2n y).h vl css :: L)) := by
  obtain ⟨vf, rfl, hf⟩ := Q1U hx
  obtain ⟨a0, n0, rfl⟩ := Rep.SR.shape hf
  have hlf := hf.len
  all_goals refine QrB ?_
  all_goals (unfold judge_New_lc; refine Q0 ?_; refine Q2 ?_; refine zb hS ?_; intro p3 w1 hS; refine zm ?_; refine Qb hS ?_; intro p7 w1 hS; refine zn ?_; refine Q0 ?_; refine Q0 ?_; refine Q2 ?_; refine zv hS ?_; refine zR1 (c := Qvh hm hx hS) (h := ?_); rintro v1 w1 ⟨rfl, hS⟩; unfold fltV; refine Qb hS ?_; intro p8 w1 hS; refine zsn hS ?_; intro w1 hS; have hS := hS.ns; refine zn ?_; refine Q0 ?_; refine Q2 ?_; refine Q1 rfl ?_; refine zl hS ?_)
  all_goals (first | (refine QQ ?_) | (refine QR ?_) | (refine Qm rfl rfl (fun hc => ?_) (fun hc => ?_)))
  all_goals (refine zn ?_)
  all_goals
    first
    | (refine Q3 rfl ?_ -- Q3W c0
       all_goals (refine Q0 ?_; refine zD [(0, none), (1, none), (2, some none)] ?_; have hS := hS.drew; refine zv hS ?_; refine zm ?_; refine zsn hS ?_; intro w1 hS; have hS := hS.ns; refine zn ?_; refine zr ?_; refine QtD vw vw (Qc (n := 2) (by kernel_rfl) (by kernel_rfl) (hS.blkAt fd) (by rfl) (by rfl)) ?_)
       all_goals (exact ⟨_, rfl, .inl ⟨by omega, rfl, hS.sp⟩⟩))
    | (refine Q4 rfl ?_ -- Q3W c0
       all_goals refine zsk ?_)
  refine zML hS [1, 2, 3, 7] (fun A LL ρ' w' => Has ρ' A ∧ Has ρ' [] ∧ (m.fault.1 = 0) ∧ (0 ≤ f ∧ f < m.funcs.length ∧ ∃ fn, m.funcs[f.toNat]? = some fn ∧ 0 ≤ b ∧ b < fn.blocks.length) ∧ St cx w' (LL)) ?_ ?_
  · skip
    all_goals (refine Q0 ?_; refine Q2 ?_; refine zm ?_)
    all_goals (first | (refine Q1V ?_) | (refine Q1W ?_) | (refine QG rfl rfl (fun hc => ?_) (fun hc => ?_)))
    all_goals (refine zm ?_; (first | refine s_gn rfl rfl ?_ | (refine s_gy rfl ?_; refine zm ?_)); (first | refine s_gn rfl rfl ?_ | (refine s_gy rfl ?_; refine Q1 rfl ?_)); (first | refine s_gn rfl rfl ?_ | (refine s_gy rfl ?_; refine zl hS ?_)); (first | refine s_gn rfl rfl ?_ | (refine s_gy rfl ?_; refine zL ?_)))
    all_goals (first | refine s_gn rfl rfl ?_ | (refine s_gy rfl ?_; (first | (refine Q3t ?_) | (refine Q3u ?_) | (refine Q1F rfl rfl (fun hc => ?_) (fun hc => ?_)))))
    all_goals ((first | (refine zpt ?_) | (refine zpf ?_)); refine zm ?_; (first | refine s_gn rfl rfl ?_ | (refine s_gy rfl ?_; refine zm ?_)))
    all_goals (first | refine s_gn rfl rfl ?_ | (refine s_gy rfl ?_; (first | (refine Q1V ?_) | (refine Q1W ?_) | (refine QG rfl rfl (fun hc => ?_) (fun hc => ?_)))))
    all_goals ((first | (refine zpt ?_) | (refine zpf ?_)); refine zm ?_; (first | refine s_gn rfl rfl ?_ | (refine s_gy rfl ?_; refine zm ?_)); (first | refine s_gn rfl rfl ?_ | (refine s_gy rfl ?_; refine Q1 rfl ?_)); (first | refine s_gn rfl rfl ?_ | (refine s_gy rfl ?_; refine zl hS ?_)); (first | refine s_gn rfl rfl ?_ | (refine s_gy rfl ?_; refine zm ?_)); (first | refine s_gn rfl rfl ?_ | (refine s_gy rfl ?_; ((first | refine zi ?_ | refine zj ?_); intro b1 o1 cs1 x1 hat1 hx1 he1; obtain ⟨vp1, vr1, vb1, rfl, hp1, hr1, hb1⟩ := QO he1))); (first | refine s_gn rfl rfl ?_ | (refine s_gy rfl ?_; (first | refine Q1 rfl ?_ | refine Q12 rfl ?_))); (first | refine s_gn rfl rfl ?_ | (refine s_gy rfl ?_; (first | (refine zl hS ?_) | (refine zlk hS ?_) | (refine zlj hS ?_)))); (first | refine s_gn rfl rfl ?_ | (refine s_gy rfl ?_; refine zL ?_)))
    all_goals (first | refine s_gn rfl rfl ?_ | (refine s_gy rfl ?_; (first | (refine Q3t ?_) | (refine Q3u ?_) | (refine Q1F rfl rfl (fun hc => ?_) (fun hc => ?_)))))
    all_goals ((first | (refine zpt ?_) | (refine zpf ?_)); refine zn ?_; skip)
    all_goals
      first
      | (refine Q4 rfl ?_ -- Q3W c1
         all_goals refine zsk ?_)
      | (refine Q3 rfl ?_ -- Q3W c1
         all_goals (refine Q0 ?_; refine Q2 ?_; refine zb2 [_, _] ?_; refine zm ?_; refine zsn hS ?_; intro w1 hS; have hS := hS.ns; refine zn ?_; refine zr ?_; refine QtD vw vw (Qc (n := 2) (by kernel_rfl) (by kernel_rfl) (hS.blkAt fd) (by rfl) (by rfl)) ?_)
         all_goals (first | (exact ⟨_, rfl, .inl ⟨by omega, rfl, hS.sp⟩⟩) | (exact ⟨_, rfl, .inr (.inl ⟨by omega, .inl (.inl (by omega)), rfl, hS.sp⟩)⟩) | (exact ⟨_, rfl, .inr (.inl ⟨by omega, .inl (.inr (by omega)), rfl, hS.sp⟩)⟩) | (exact ⟨_, rfl, .inr (.inl ⟨by omega, .inr ⟨_, List.getElem?_eq_getElem (i := f.toNat) (by omega), .inl (by omega)⟩, rfl, hS.sp⟩)⟩) | (exact ⟨_, rfl, .inr (.inl ⟨by omega, .inr ⟨x1, hx1, .inr (by omega)⟩, rfl, hS.sp⟩)⟩)))
    all_goals (exact ⟨zh, zh, by omega, by refine ⟨by omega, by omega, x1, hx1, by omega, by omega⟩, hS.sp⟩)
  rintro ρ w1 ⟨hA, hρ, hz, hb, hS⟩; obtain ⟨ρ, rfl⟩ := env2 hA hρ
  all_goals (refine Q0 ?_; refine Q2 ?_; refine zv hS ?_; refine zR1 (c := Qx8 hm hx hS) (h := ?_); rintro v1 w1 ⟨c1, ds, rfl, hle, hm2, hS⟩; obtain ⟨vm, rfl, hf2⟩ := Q1U hm2; obtain ⟨hb1, hb2, fn, hfn, hb3, hb4⟩ := hb; refine zb1 [_, _, _, _, _, _, _] ?_; refine zb hS ?_; intro p45 w1 hS; refine zm ?_; refine zn ?_; skip; refine Q0 ?_; refine Q2 ?_; refine zm ?_; refine zm ?_; refine Qk rfl ?_; refine Q1 rfl ?_; (first | refine Q1 rfl ?_ | refine Q12 rfl ?_); refine zl hS ?_; refine zm ?_; (first | refine zi ?_ | refine zj ?_); intro b2 o2 cs2 x2 hat2 hx2 he2; obtain ⟨vp2, vr2, vb2, rfl, hp2, hr2, hb2⟩ := QO he2; (first | (refine zv hS ?_) | (refine zvk hS ?_)); refine Qk rfl ?_; refine Q1 rfl ?_; (first | (refine zsn hS ?_; intro w1 hS; have hS := hS.ns) | (refine zsm hS ?_; intro w1 hS; have hS := hS.ns)); refine zn ?_; obtain rfl : fn = x2 := Option.some.inj (hfn.symm.trans hx2); have hsf := hm.2 fn (List.mem_of_getElem? hfn); refine Q0 ?_; refine Q2 ?_; refine zm ?_; refine Qk rfl ?_; refine Q1 rfl ?_; (first | refine Q1 rfl ?_ | refine Q12 rfl ?_); refine zl hS ?_; refine zm ?_; (first | refine zi ?_ | refine zj ?_); intro b3 o3 cs3 x3 hat3 hx3 he3; obtain ⟨vp3, vc3, ve31, ve32, ve33, ve34, ve35, rfl, hp3, hc3, he31, he32, he33, he34, he35⟩ := Q1c he3)
  all_goals ((first | (refine zv hS ?_) | (refine zvk hS ?_)); refine Qb hS ?_; intro p10 w1 hS; refine zsn hS ?_; intro w1 hS; have hS := hS.ns; refine zn ?_; refine Q0 ?_; refine Q2 ?_; refine zm ?_; refine Q1 rfl ?_; refine zl hS ?_; refine zR1 (c := new_u hS) (h := ?_); rintro v1 w1 ⟨hp, vh, rfl, hS⟩; refine Qk rfl ?_; refine Q1 rfl ?_; refine zst hS ?_; intro w1 hS; have hS := hS.ns; refine zn ?_; refine Q0 ?_; refine Q2 ?_; refine zm ?_; refine Q1 rfl ?_; refine zl hS ?_; refine zR1 (c := clonet_c hp3 (by have := (hsf.2.2.2 x3 (List.mem_of_getElem? hx3)).1.1; omega) hS) (h := ?_); rintro v1 w1 ⟨hvl, css4, hls4, hS⟩; refine Qk rfl ?_; refine Q1 rfl ?_; refine zst hS ?_; intro w1 hS; have hS := hS.ns; refine zn ?_; refine Q0 ?_; refine Q2 ?_; refine zm ?_; refine zb0 [_, _] ?_; refine zm ?_; refine zsn hS ?_; intro w1 hS; have hS := hS.ns; refine zn ?_; refine zr ?_; refine QtD vw vw (Qc (n := 2) (by kernel_rfl) (by kernel_rfl) (hS.blkAt fd) (by rfl) (by rfl)) ?_)
  all_goals ((first | (exact ⟨_, rfl, .inl ⟨by omega, rfl, hS.sp⟩⟩) | (exact ⟨_, rfl, .inr (.inl ⟨by omega, .inl (.inl (by omega)), rfl, hS.sp⟩)⟩) | (exact ⟨_, rfl, .inr (.inl ⟨by omega, .inl (.inr (by omega)), rfl, hS.sp⟩)⟩) | (exact ⟨_, rfl, .inr (.inl ⟨by omega, .inr ⟨_, List.getElem?_eq_getElem (i := f.toNat) (by omega), .inl (by omega)⟩, rfl, hS.sp⟩)⟩) | (exact ⟨_, rfl, .inr (.inl ⟨by omega, .inr ⟨x1, hx1, .inr (by omega)⟩, rfl, hS.sp⟩)⟩) | (exact ⟨_, rfl, .inr (.inr ⟨fn, x3, ⟨p45, hp, fn, vm, vp2, vr2, vb2⟩, c1, _, css4, hz, by omega, by omega, hfn, hx3, rfl, hle, ⟨hf2, hp2, hr2, hb2⟩, rfl, hls4, JP.shut (v := vh) hS.sp⟩)⟩)))
end Go.Proofs.YtanlkfeogoganaaGreat
namespace Go.Proofs.YtanlkfeogoganaaGreat
open Go.Lir
set_option maxHeartbeats 1000000
attribute [local irreducible] LC.wp Q5 Q11 Q1f retQ Q2h LO.wp QD Calls
set_option linter.unusedSimpArgs false
set_option linter.unusedVariables false
theorem QnZ {x y : Block} {cx : Cx} {w : World} {L : List Res} {cs ds : List Value} (hx : blockR.at cx cs x) (hy : blockR.at cx ds y) (hS : St cx w L) : Rets Tryz.prog Q3n [.agg ⟨cs⟩, .agg ⟨ds⟩] w fun u w' => u = .bool (decide (x = y)) ∧ St cx w' L := by
  obtain ⟨vp, vc, v1, v2, v3, v4, v5, rfl, hp, hc0, h1, h2, h3, h4, h5⟩ := Q1c hx
  obtain ⟨up, uc, u1, u2, u3, u4, u5, rfl, gp, gc, g1, g2, g3, g4, g5⟩ := Q1c hy
  have hlen := hc0.len
  obtain ⟨xr, xp, xc, ⟨xo, xa, xy, xn, xg⟩⟩ := x
  obtain ⟨yr, yp, yc, ⟨yo, ya, yy, yn, yg⟩⟩ := y
  simp only [Block.mk.injEq, Tail.mk.injEq] at *
  all_goals refine Qm7 ?_
  all_goals (unfold R_sameBlock_lc; refine Q0 ?_; refine Q2 ?_; refine zb hS ?_; intro p2 w1 hS; refine zb hS ?_; intro p3 w1 hS; refine zm ?_; refine zn ?_)
  refine zML hS [2, 3] (fun A LL ρ' w' => Has ρ' A ∧ Has ρ' [] ∧ (xr = yr) ∧ (xp = yp) ∧ (xc.length = yc.length) ∧ St cx w' (LL)) ?_ ?_
  · skip
    all_goals (refine Q0 ?_; refine Q2 ?_; refine Q1 rfl ?_; refine zl hS ?_; refine Q1 rfl ?_; refine zl hS ?_)
    all_goals (first | (refine QQ ?_) | (refine QR ?_) | (refine Qm rfl rfl (fun hc => ?_) (fun hc => ?_)))
    all_goals (refine zm ?_; (first | refine s_gn rfl rfl ?_ | (refine s_gy rfl ?_; refine Q1 rfl ?_)); (first | refine s_gn rfl rfl ?_ | (refine s_gy rfl ?_; refine zl hS ?_)); (first | refine s_gn rfl rfl ?_ | (refine s_gy rfl ?_; refine Q1 rfl ?_)); (first | refine s_gn rfl rfl ?_ | (refine s_gy rfl ?_; refine zl hS ?_)))
    all_goals ((first | (refine s_gn rfl rfl ?_) | (refine s_gy rfl ?_; refine zR2 (c := Q6B hp gp hS) (h := ?_); rintro v1 w1 ⟨rfl, hS⟩; (cases hdec : decide (xp = yp)); have hg := of_decide_eq_false hdec; rotate_left; have hg := of_decide_eq_true hdec; all_goals skip)))
    all_goals ((first | refine s_gn rfl rfl ?_ | (refine s_gy rfl ?_; refine Q1o rfl ?_)); (first | (refine zpt ?_) | (refine zpf ?_)); refine zm ?_; (first | refine s_gn rfl rfl ?_ | (refine s_gy rfl ?_; refine Q1 rfl ?_)); (first | refine s_gn rfl rfl ?_ | (refine s_gy rfl ?_; refine zl hS ?_)); (first | refine s_gn rfl rfl ?_ | (refine s_gy rfl ?_; refine zL ?_)); (first | refine s_gn rfl rfl ?_ | (refine s_gy rfl ?_; refine Q1 rfl ?_)); (first | refine s_gn rfl rfl ?_ | (refine s_gy rfl ?_; refine zl hS ?_)); (first | refine s_gn rfl rfl ?_ | (refine s_gy rfl ?_; refine zL ?_)))
    all_goals (first | refine s_gn rfl rfl ?_ | (refine s_gy rfl ?_; (first | (refine QQ ?_) | (refine QR ?_) | (refine Qm rfl rfl (fun hc => ?_) (fun hc => ?_)))))
    all_goals ((first | (refine zpt ?_) | (refine zpf ?_)); refine zn ?_)
    all_goals
      first
      | (refine Q3 rfl ?_ -- Q3n c0
         all_goals (refine Q0 ?_; refine Q2 ?_; refine zm ?_; refine zn ?_; refine zr ?_; refine zf ?_)
         all_goals (refine ⟨_, rfl, ?_, hS.sp⟩; rw [decide_eq_false]; rintro ⟨e1, e2, e3, _⟩; have := congrArg List.length e3; first | omega | (simp_all; done); done))
      | (refine Q4 rfl ?_ -- Q3n c0
         all_goals refine zsk ?_)
    all_goals (exact ⟨zh, zh, by omega, by assumption, by omega, hS.sp⟩)
  rintro ρ w1 ⟨hA, hρ, hr, hpp, hll, hS⟩; obtain ⟨ρ, rfl⟩ := env2 hA hρ
  all_goals (refine Q0 ?_; refine Q0 ?_; refine Q2 ?_; refine zm ?_; refine zn ?_; refine Qa ?_)
  refine zoL hS [2, 3] (fun A LL ρ' w' => ∃ (j : Nat), Has ρ' A ∧ Has ρ' [(5, .int .i64 j)] ∧ (j ≤ xc.length) ∧ (xc = yc ↔ xc.drop j = yc.drop j) ∧ St cx w' (LL)) (fun ρ' _ => (xc.length - iv (ρ' 5)).toNat) ?_ ?_
  · exact ⟨0, zh, zh, (by omega), by simp, hS.sp⟩
  rintro ρ w1 ⟨j, hA, hρ, hj, hd, hS⟩; obtain ⟨ρ, rfl⟩ := env2 hA hρ
  unfold Q7G
  all_goals (refine Q0 ?_; refine Q0 ?_; refine Q2 ?_; refine zm ?_; refine Q1 rfl ?_; refine zl hS ?_; refine zL ?_; refine Qr rfl rfl ?_; refine zn ?_)
  refine Qn rfl (fun hc => ?_) (fun hc => ?_)
  · skip
    all_goals (refine zsk ?_; refine Q0 ?_; refine Qa ?_; refine Q0 ?_; refine zD [(0, none), (1, none), (2, none), (3, none), (4, none), (5, none), (6, none), (7, none), (8, none), (9, none), (10, some none), (11, some none)] ?_; have hS := hS.drew; refine Q1 rfl ?_; refine zl hS ?_; refine zm ?_; refine zi ?_; intro b1 o1 cs1 x1 hat1 hx1 he1; obtain ⟨vr1, va1, rfl, hr1, ha1⟩ := Q1h he1; (first | (refine zv hS ?_) | (refine zvk hS ?_)); refine Q1 rfl ?_; refine zl hS ?_; refine zm ?_; refine zi ?_; intro b2 o2 cs2 x2 hat2 hx2 he2; obtain ⟨vr2, va2, rfl, hr2, ha2⟩ := Q1h he2; (first | (refine zv hS ?_) | (refine zvk hS ?_)))
    all_goals (refine zR2 (c := QvJ he1 he2 hS) (h := ?_); rintro v1 w1 ⟨rfl, hS⟩; (cases hdec : decide (x1 = x2)); have hg := of_decide_eq_false hdec; rotate_left; have hg := of_decide_eq_true hdec; all_goals skip)
    all_goals (refine Q1o rfl ?_; refine zn ?_)
    all_goals
      first
      | (refine Q3 rfl ?_ -- Q3n c2
         all_goals (refine Q0 ?_; refine Q2 ?_; refine zm ?_; refine zn ?_; refine zr ?_; refine zf ?_)
         all_goals (refine ⟨_, rfl, ?_, hS.sp⟩; rw [decide_eq_false]; rintro ⟨e1, e2, e3, _⟩; have := congrArg List.length e3; first | omega | (simp_all; done); done))
      | (refine Q4 rfl ?_ -- Q3n c2
         all_goals refine zsk ?_)
    all_goals (refine Q2 ?_; refine zm ?_; refine zad ?_; refine zm ?_; refine zn ?_; exact ⟨⟨j + 1, zh, zh, (by omega), by rw [hd, Q7 hx1, Q7 hx2, hg]; simp, hS.sp⟩, Qo (by omega)⟩)
  · skip
    all_goals (refine zex ?_; refine Q0 ?_; refine Q2 ?_; refine Q1 rfl ?_; (first | refine Q1 rfl ?_ | refine Q12 rfl ?_); refine zl hS ?_; refine Q1 rfl ?_; (first | refine Q1 rfl ?_ | refine Q12 rfl ?_); refine zl hS ?_)
    all_goals (first | (refine Qw ?_) | (refine Qy ?_) | (refine Ql rfl rfl (fun hc => ?_) (fun hc => ?_)))
    all_goals (refine zm ?_; (first | refine s_gn rfl rfl ?_ | (refine s_gy rfl ?_; refine Q1 rfl ?_)); (first | refine s_gn rfl rfl ?_ | (refine s_gy rfl ?_; (first | refine Q1 rfl ?_ | refine Q12 rfl ?_))); (first | refine s_gn rfl rfl ?_ | (refine s_gy rfl ?_; refine zl hS ?_)); (first | refine s_gn rfl rfl ?_ | (refine s_gy rfl ?_; refine Q1 rfl ?_)); (first | refine s_gn rfl rfl ?_ | (refine s_gy rfl ?_; (first | refine Q1 rfl ?_ | refine Q12 rfl ?_))); (first | refine s_gn rfl rfl ?_ | (refine s_gy rfl ?_; refine zl hS ?_)))
    all_goals (first | refine s_gn rfl rfl ?_ | (refine s_gy rfl ?_; (first | (refine Qw ?_) | (refine Qy ?_) | (refine Ql rfl rfl (fun hc => ?_) (fun hc => ?_)))))
    all_goals ((first | (refine zpt ?_) | (refine zpf ?_)); refine zm ?_; (first | refine s_gn rfl rfl ?_ | (refine s_gy rfl ?_; refine Q1 rfl ?_)); (first | refine s_gn rfl rfl ?_ | (refine s_gy rfl ?_; (first | refine Q1 rfl ?_ | refine Q12 rfl ?_))); (first | refine s_gn rfl rfl ?_ | (refine s_gy rfl ?_; refine zv hS ?_)); (first | refine s_gn rfl rfl ?_ | (refine s_gy rfl ?_; refine Q1 rfl ?_)); (first | refine s_gn rfl rfl ?_ | (refine s_gy rfl ?_; (first | refine Q1 rfl ?_ | refine Q12 rfl ?_))); (first | refine s_gn rfl rfl ?_ | (refine s_gy rfl ?_; refine zv hS ?_)))
    all_goals ((first | (refine s_gn rfl rfl ?_) | (refine s_gy rfl ?_; refine zR2 (c := Qrd (x := xy) (y := yy) ⟨_, _, rfl, h1, h2⟩ ⟨_, _, rfl, g1, g2⟩ hS) (h := ?_); rintro v1 w1 ⟨rfl, hS⟩; (cases hdec : decide (xy = yy)); have hg := of_decide_eq_false hdec; rotate_left; have hg := of_decide_eq_true hdec; all_goals skip)))
    all_goals ((first | (refine zpt ?_) | (refine zpf ?_)); refine zm ?_; (first | refine s_gn rfl rfl ?_ | (refine s_gy rfl ?_; refine Q1 rfl ?_)); (first | refine s_gn rfl rfl ?_ | (refine s_gy rfl ?_; (first | refine Q1 rfl ?_ | refine Q12 rfl ?_))); (first | refine s_gn rfl rfl ?_ | (refine s_gy rfl ?_; refine zv hS ?_)); (first | refine s_gn rfl rfl ?_ | (refine s_gy rfl ?_; refine Q1 rfl ?_)); (first | refine s_gn rfl rfl ?_ | (refine s_gy rfl ?_; (first | refine Q1 rfl ?_ | refine Q12 rfl ?_))); (first | refine s_gn rfl rfl ?_ | (refine s_gy rfl ?_; refine zv hS ?_)))
    all_goals ((first | (refine s_gn rfl rfl ?_) | (refine s_gy rfl ?_; refine zR2 (c := Qrd (x := xn) (y := yn) ⟨_, _, rfl, h3, h4⟩ ⟨_, _, rfl, g3, g4⟩ hS) (h := ?_); rintro v1 w1 ⟨rfl, hS⟩; (cases hdec : decide (xn = yn)); have hg := of_decide_eq_false hdec; rotate_left; have hg := of_decide_eq_true hdec; all_goals skip)))
    all_goals ((first | (refine zpt ?_) | (refine zpf ?_)); refine zm ?_; (first | refine s_gn rfl rfl ?_ | (refine s_gy rfl ?_; refine Q1 rfl ?_)); (first | refine s_gn rfl rfl ?_ | (refine s_gy rfl ?_; (first | refine Q1 rfl ?_ | refine Q12 rfl ?_))); (first | refine s_gn rfl rfl ?_ | (refine s_gy rfl ?_; refine zl hS ?_)); (first | refine s_gn rfl rfl ?_ | (refine s_gy rfl ?_; refine Q1 rfl ?_)); (first | refine s_gn rfl rfl ?_ | (refine s_gy rfl ?_; (first | refine Q1 rfl ?_ | refine Q12 rfl ?_))); (first | refine s_gn rfl rfl ?_ | (refine s_gy rfl ?_; refine zl hS ?_)); (first | (refine s_gn rfl rfl ?_) | (refine s_gy rfl ?_; refine zR2 (c := QhA h5 g5 hS) (h := ?_); rintro v1 w1 ⟨rfl, hS⟩)); (first | (refine zpt ?_) | (refine zpf ?_)); refine zm ?_; refine zn ?_; refine zr ?_; refine zf ?_; (first | (refine ⟨_, rfl, ?_, hS.sp⟩; rw [decide_eq_false]; rintro ⟨e1, e2, e3, _⟩; have := congrArg List.length e3; first | omega | (simp_all; done); done) | (refine ⟨_, rfl, ?_, hS.sp⟩; rw [decide_eq_false]; rintro ⟨e1, e2, e3, _⟩; rw [hd, Q7 hx1, Q7 hx2, List.cons.injEq] at e3; exact hg e3.1; done) | (refine ⟨_, rfl, ?_, hS.sp⟩; have hcc : xc = yc := (by rw [hd, List.drop_of_length_le (by omega), List.drop_of_length_le (by omega)]); simp [*]; done)))
theorem QvI {x y : Module} {cx : Cx} {w : World} {L : List Res} {cs ds : List Value} (hx : modR.at cx cs x) (hy : modR.at cx ds y) (hS : St cx w L) : Rets Tryz.prog Q1g [.agg ⟨cs⟩, .agg ⟨ds⟩] w fun u w' => u = .bool (decide (x = y)) ∧ St cx w' L := by
  obtain ⟨vf, rfl, hl⟩ := Q1U hx
  obtain ⟨uf, rfl, hm⟩ := Q1U hy
  obtain ⟨l⟩ := x
  obtain ⟨m⟩ := y
  have hlen := hl.len
  simp only [Module.mk.injEq] at *
  all_goals refine Qj6 ?_
  all_goals (unfold R_SameModule_lc; refine Q0 ?_; refine Q2 ?_; refine zb hS ?_; intro p2 w1 hS; refine zb hS ?_; intro p3 w1 hS; refine zm ?_; refine zn ?_; refine Q0 ?_; refine Q0 ?_; refine Q2 ?_; refine Q1 rfl ?_; refine zl hS ?_; refine zL ?_; refine Q1 rfl ?_; refine zl hS ?_; refine zL ?_)
  all_goals (first | (refine QQ ?_) | (refine QR ?_) | (refine Qm rfl rfl (fun hc => ?_) (fun hc => ?_)))
  all_goals (refine zn ?_)
  all_goals
    first
    | (refine Q3 rfl ?_ -- Q1g c0
       all_goals (refine Q0 ?_; refine Q2 ?_; refine zm ?_; refine zn ?_; refine zr ?_; refine zf ?_)
       all_goals (refine ⟨_, rfl, ?_, hS.sp⟩; rw [decide_eq_false]; exact fun e => absurd (congrArg List.length e) (by omega); done))
    | (refine Q4 rfl ?_ -- Q1g c0
       all_goals refine zsk ?_)
  all_goals (refine Q0 ?_; refine Q0 ?_; refine Q2 ?_; refine zm ?_; refine zn ?_; refine Qa ?_)
  refine zoL hS [2, 3] (fun A LL ρ' w' => ∃ (j : Nat), Has ρ' A ∧ Has ρ' [(5, .int .i64 j)] ∧ (j ≤ l.length) ∧ (l.length = m.length) ∧ (l = m ↔ l.drop j = m.drop j) ∧ St cx w' (LL)) (fun ρ' _ => (l.length - iv (ρ' 5)).toNat) ?_ ?_
  · exact ⟨0, zh, zh, (by omega), (by omega), by simp, hS.sp⟩
  rintro ρ w1 ⟨j, hA, hρ, hj, hlm, hd, hS⟩; obtain ⟨ρ, rfl⟩ := env2 hA hρ
  unfold Q6o
  all_goals (refine Q0 ?_; refine Q0 ?_; refine Q2 ?_; refine zm ?_; refine Q1 rfl ?_; refine zl hS ?_; refine zL ?_; refine Qr rfl rfl ?_; refine zn ?_)
  refine Qn rfl (fun hc => ?_) (fun hc => ?_)
  · skip
    all_goals (refine zsk ?_; refine Q0 ?_; refine Qa ?_; refine Q0 ?_)
    refine Q3N 10 11 (by kernel_rfl) ?_ ?_
    · skip
      all_goals (refine zC [(0, none), (1, none), (2, none), (3, none), (4, none), (5, none), (6, none), (7, none), (8, none), (9, none), (10, some (some [1, 4, 6, 9])), (11, some (some [1, 4, 6, 9])), (12, some (some [6, 9])), (13, some none)] ?_; have hS := hS.drew; refine s_cq ?_; refine Q1 rfl ?_; refine zt ?_; refine s_cq ?_; refine zl hS ?_; refine zt ?_; refine s_cq ?_; refine zm ?_; refine zt ?_; refine s_cq ?_; refine zi ?_; intro b1 o1 cs1 x1 hat1 hx1 he1; obtain ⟨vp1, vr1, vb1, rfl, hp1, hr1, hb1⟩ := QO he1; refine zt ?_; refine s_cq ?_; (first | (refine zv hS ?_) | (refine zvk hS ?_)); refine zt ?_; refine s_cq ?_; refine Q1 rfl ?_; refine zt ?_; refine s_cq ?_; refine zl hS ?_; refine zt ?_; refine s_cq ?_; refine zm ?_; refine zt ?_; refine s_cq ?_; refine zi ?_; intro b2 o2 cs2 x2 hat2 hx2 he2; obtain ⟨vp2, vr2, vb2, rfl, hp2, hr2, hb2⟩ := QO he2; refine zt ?_; refine s_cq ?_; (first | (refine zv hS ?_) | (refine zvk hS ?_)); refine zt ?_; refine QE ?_; refine Qb hS ?_; intro p6 w1 hS; refine zt ?_; refine zy ?_; refine QE ?_; refine Qb hS ?_; intro p7 w1 hS; refine zt ?_; refine zy ?_; refine QE ?_; refine zsn hS ?_; intro w1 hS; have hS := hS.ns)
      all_goals (refine zt ?_; refine zy ?_; refine s_cf ?_; refine zsn hS ?_; intro w1 hS; have hS := hS.ns; refine zt ?_; refine zcn ?_; refine Q0 ?_; refine Q0 ?_; refine Q2 ?_; refine Q1 rfl ?_; refine zl hS ?_; refine Q1 rfl ?_; refine zl hS ?_)
      all_goals (first | (refine QQ ?_) | (refine QR ?_) | (refine Qm rfl rfl (fun hc => ?_) (fun hc => ?_)))
      all_goals (refine zm ?_; (first | refine s_gn rfl rfl ?_ | (refine s_gy rfl ?_; refine Q1 rfl ?_)); (first | refine s_gn rfl rfl ?_ | (refine s_gy rfl ?_; refine zl hS ?_)); (first | refine s_gn rfl rfl ?_ | (refine s_gy rfl ?_; refine Q1 rfl ?_)); (first | refine s_gn rfl rfl ?_ | (refine s_gy rfl ?_; refine zl hS ?_)))
      all_goals ((first | (refine s_gn rfl rfl ?_) | (refine s_gy rfl ?_; refine zR2 (c := Q6B (l := x1.params) (m := x2.params) hp1 hp2 hS) (h := ?_); rintro v1 w1 ⟨rfl, hS⟩; (cases hdec : decide (x1.params = x2.params)); have hg := of_decide_eq_false hdec; rotate_left; have hg := of_decide_eq_true hdec; all_goals skip)))
      all_goals ((first | refine s_gn rfl rfl ?_ | (refine s_gy rfl ?_; refine Q1o rfl ?_)); (first | (refine zpt ?_) | (refine zpf ?_)); refine zm ?_; (first | refine s_gn rfl rfl ?_ | (refine s_gy rfl ?_; refine Q1 rfl ?_)); (first | refine s_gn rfl rfl ?_ | (refine s_gy rfl ?_; refine zl hS ?_)); (first | refine s_gn rfl rfl ?_ | (refine s_gy rfl ?_; refine Q1 rfl ?_)); (first | refine s_gn rfl rfl ?_ | (refine s_gy rfl ?_; refine zl hS ?_)))
      all_goals ((first | (refine s_gn rfl rfl ?_) | (refine s_gy rfl ?_; refine zR2 (c := Q6B (l := x1.results) (m := x2.results) hr1 hr2 hS) (h := ?_); rintro v1 w1 ⟨rfl, hS⟩; (cases hdec : decide (x1.results = x2.results)); have hg := of_decide_eq_false hdec; rotate_left; have hg := of_decide_eq_true hdec; all_goals skip)))
      all_goals ((first | refine s_gn rfl rfl ?_ | (refine s_gy rfl ?_; refine Q1o rfl ?_)); (first | (refine zpt ?_) | (refine zpf ?_)); refine zm ?_; (first | refine s_gn rfl rfl ?_ | (refine s_gy rfl ?_; refine Q1 rfl ?_)); (first | refine s_gn rfl rfl ?_ | (refine s_gy rfl ?_; refine zl hS ?_)); (first | refine s_gn rfl rfl ?_ | (refine s_gy rfl ?_; refine zL ?_)); (first | refine s_gn rfl rfl ?_ | (refine s_gy rfl ?_; refine Q1 rfl ?_)); (first | refine s_gn rfl rfl ?_ | (refine s_gy rfl ?_; refine zl hS ?_)); (first | refine s_gn rfl rfl ?_ | (refine s_gy rfl ?_; refine zL ?_)))
      all_goals (first | refine s_gn rfl rfl ?_ | (refine s_gy rfl ?_; (first | (refine QQ ?_) | (refine QR ?_) | (refine Qm rfl rfl (fun hc => ?_) (fun hc => ?_)))))
      all_goals ((first | (refine zpt ?_) | (refine zpf ?_)); refine zn ?_)
      all_goals
        first
        | (refine Q3 rfl ?_ -- Q1g c2
           all_goals (refine Q0 ?_; refine Q2 ?_; refine zm ?_; refine zn ?_; refine zr ?_; refine zf ?_)
           all_goals (first | (refine ⟨_, rfl, ?_, hS.sp⟩; rw [decide_eq_false]; exact fun e => absurd (congrArg List.length e) (by omega); done) | (refine ⟨_, rfl, ?_, hS.sp⟩; rw [decide_eq_false]; rw [hd, Q7 hx1, Q7 hx2, List.cons.injEq]; rintro ⟨rfl, _⟩; first | (simp_all; done) | (simp at *; omega); done)))
        | (refine Q4 rfl ?_ -- Q1g c2
           all_goals refine zsk ?_)
      all_goals (refine Q0 ?_; have hlb := hb1.len; refine Q2 ?_; refine zm ?_; refine zn ?_; refine Qa ?_)
      refine zoL hS [2, 3, 5, 6, 7] (fun A LL ρ' w' => ∃ (i : Nat), Has ρ' A ∧ Has ρ' [(8, .int .i64 i)] ∧ (i ≤ x1.blocks.length) ∧ (x1.blocks.length = x2.blocks.length) ∧ (x1.regs = x2.regs) ∧ (x1.params = x2.params) ∧ (x1.results = x2.results) ∧ (x1.blocks = x2.blocks ↔ x1.blocks.drop i = x2.blocks.drop i) ∧ St cx w' (LL)) (fun ρ' _ => (x1.blocks.length - iv (ρ' 8)).toNat) ?_ ?_
      · exact ⟨0, zh, zh, (by omega), (by omega), (by omega), by assumption, by assumption, by simp, hS.sp⟩
      rintro ρ w1 ⟨i, hA, hρ, hi, hlb2, hre, hpe, hrr, hd2, hS⟩; obtain ⟨ρ, rfl⟩ := env2 hA hρ
      unfold Q42
      all_goals (refine Q0 ?_; refine Q0 ?_; refine Q2 ?_; refine zm ?_; refine Q1 rfl ?_; refine zl hS ?_; refine zL ?_; refine Qr rfl rfl ?_; refine zn ?_)
      refine Qn rfl (fun hc => ?_) (fun hc => ?_)
      · skip
        all_goals (refine zsk ?_; refine Q0 ?_; refine Qa ?_; refine Q0 ?_; refine zD [(0, none), (1, none), (2, none), (3, none), (4, none), (5, none), (6, none), (7, none), (8, none), (9, none), (10, some none), (11, some none)] ?_; have hS := hS.drew; refine Q1 rfl ?_; refine zl hS ?_; refine zm ?_; refine zi ?_; intro b3 o3 cs3 x3 hat3 hx3 he3; obtain ⟨vp3, vc3, ve31, ve32, ve33, ve34, ve35, rfl, hp3, hc3, he31, he32, he33, he34, he35⟩ := Q1c he3; (first | (refine zv hS ?_) | (refine zvk hS ?_)); refine Q1 rfl ?_; refine zl hS ?_; refine zm ?_; refine zi ?_; intro b4 o4 cs4 x4 hat4 hx4 he4; obtain ⟨vp4, vc4, ve41, ve42, ve43, ve44, ve45, rfl, hp4, hc4, he41, he42, he43, he44, he45⟩ := Q1c he4; (first | (refine zv hS ?_) | (refine zvk hS ?_)))
        all_goals (refine zR2 (c := QnZ he3 he4 hS) (h := ?_); rintro v1 w1 ⟨rfl, hS⟩; (cases hdec : decide (x3 = x4)); have hg := of_decide_eq_false hdec; rotate_left; have hg := of_decide_eq_true hdec; all_goals skip)
        all_goals (refine Q1o rfl ?_; refine zn ?_)
        all_goals
          first
          | (refine Q3 rfl ?_ -- Q1g c4
             all_goals (refine Q0 ?_; refine Q2 ?_; refine zm ?_; refine zn ?_; refine zr ?_; refine zf ?_)
             all_goals (first | (refine ⟨_, rfl, ?_, hS.sp⟩; rw [decide_eq_false]; exact fun e => absurd (congrArg List.length e) (by omega); done) | (refine ⟨_, rfl, ?_, hS.sp⟩; rw [decide_eq_false]; rw [hd, Q7 hx1, Q7 hx2, List.cons.injEq]; rintro ⟨rfl, _⟩; first | (simp_all; done) | (simp at *; omega); done)))
          | (refine Q4 rfl ?_ -- Q1g c4
             all_goals refine zsk ?_)
        all_goals (refine Q2 ?_; refine zm ?_; refine zad ?_; refine zm ?_; refine zn ?_; exact ⟨⟨i + 1, zh, zh, (by omega), (by omega), (by omega), by assumption, by assumption, by rw [hd2, Q7 hx3, Q7 hx4, hg]; simp, hS.sp⟩, Qo (by omega)⟩)
      · skip
        all_goals (refine zex ?_; refine Q2 ?_; refine zm ?_; refine zad ?_; refine zm ?_; refine zn ?_; exact ⟨⟨j + 1, zh, zh, (by omega), (by omega), by rw [hd, Q7 hx1, Q7 hx2, Fun.eq_of hre hpe hrr (by rw [hd2, List.drop_of_length_le (by omega), List.drop_of_length_le (by omega)])]; simp, hS.sp⟩, Qo (by omega)⟩)
    · skip
      all_goals (refine zC [(0, none), (1, none), (2, none), (3, none), (4, none), (5, none), (6, none), (7, none), (8, none), (9, none), (11, some (some [1, 4, 6, 9])), (10, some (some [1, 4, 6, 9])), (12, some (some [6, 9])), (13, some none)] ?_; have hS := hS.drew; refine s_cq ?_; refine Q1 rfl ?_; refine zt ?_; refine s_cq ?_; refine zl hS ?_; refine zt ?_; refine s_cq ?_; refine zm ?_; refine zt ?_; refine s_cq ?_; refine zi ?_; intro b1 o1 cs1 x1 hat1 hx1 he1; obtain ⟨vp1, vr1, vb1, rfl, hp1, hr1, hb1⟩ := QO he1; refine zt ?_; refine s_cq ?_; (first | (refine zv hS ?_) | (refine zvk hS ?_)); refine zt ?_; refine s_cq ?_; refine Q1 rfl ?_; refine zt ?_; refine s_cq ?_; refine zl hS ?_; refine zt ?_; refine s_cq ?_; refine zm ?_; refine zt ?_; refine s_cq ?_; refine zi ?_; intro b2 o2 cs2 x2 hat2 hx2 he2; obtain ⟨vp2, vr2, vb2, rfl, hp2, hr2, hb2⟩ := QO he2; refine zt ?_; refine s_cq ?_; (first | (refine zv hS ?_) | (refine zvk hS ?_)); refine zt ?_; refine QE ?_; refine Qb hS ?_; intro p7 w1 hS; refine zt ?_; refine zy ?_; refine QE ?_; refine Qb hS ?_; intro p6 w1 hS; refine zt ?_; refine zy ?_; refine QE ?_; refine zsn hS ?_; intro w1 hS; have hS := hS.ns)
      all_goals (refine zt ?_; refine zy ?_; refine s_cf ?_; refine zsn hS ?_; intro w1 hS; have hS := hS.ns; refine zt ?_; refine zcn ?_; refine Q0 ?_; refine Q0 ?_; refine Q2 ?_; refine Q1 rfl ?_; refine zl hS ?_; refine Q1 rfl ?_; refine zl hS ?_)
      all_goals (first | (refine QQ ?_) | (refine QR ?_) | (refine Qm rfl rfl (fun hc => ?_) (fun hc => ?_)))
      all_goals (refine zm ?_; (first | refine s_gn rfl rfl ?_ | (refine s_gy rfl ?_; refine Q1 rfl ?_)); (first | refine s_gn rfl rfl ?_ | (refine s_gy rfl ?_; refine zl hS ?_)); (first | refine s_gn rfl rfl ?_ | (refine s_gy rfl ?_; refine Q1 rfl ?_)); (first | refine s_gn rfl rfl ?_ | (refine s_gy rfl ?_; refine zl hS ?_)))
      all_goals ((first | (refine s_gn rfl rfl ?_) | (refine s_gy rfl ?_; refine zR2 (c := Q6B (l := x1.params) (m := x2.params) hp1 hp2 hS) (h := ?_); rintro v1 w1 ⟨rfl, hS⟩; (cases hdec : decide (x1.params = x2.params)); have hg := of_decide_eq_false hdec; rotate_left; have hg := of_decide_eq_true hdec; all_goals skip)))
      all_goals ((first | refine s_gn rfl rfl ?_ | (refine s_gy rfl ?_; refine Q1o rfl ?_)); (first | (refine zpt ?_) | (refine zpf ?_)); refine zm ?_; (first | refine s_gn rfl rfl ?_ | (refine s_gy rfl ?_; refine Q1 rfl ?_)); (first | refine s_gn rfl rfl ?_ | (refine s_gy rfl ?_; refine zl hS ?_)); (first | refine s_gn rfl rfl ?_ | (refine s_gy rfl ?_; refine Q1 rfl ?_)); (first | refine s_gn rfl rfl ?_ | (refine s_gy rfl ?_; refine zl hS ?_)))
      all_goals ((first | (refine s_gn rfl rfl ?_) | (refine s_gy rfl ?_; refine zR2 (c := Q6B (l := x1.results) (m := x2.results) hr1 hr2 hS) (h := ?_); rintro v1 w1 ⟨rfl, hS⟩; (cases hdec : decide (x1.results = x2.results)); have hg := of_decide_eq_false hdec; rotate_left; have hg := of_decide_eq_true hdec; all_goals skip)))
      all_goals ((first | refine s_gn rfl rfl ?_ | (refine s_gy rfl ?_; refine Q1o rfl ?_)); (first | (refine zpt ?_) | (refine zpf ?_)); refine zm ?_; (first | refine s_gn rfl rfl ?_ | (refine s_gy rfl ?_; refine Q1 rfl ?_)); (first | refine s_gn rfl rfl ?_ | (refine s_gy rfl ?_; refine zl hS ?_)); (first | refine s_gn rfl rfl ?_ | (refine s_gy rfl ?_; refine zL ?_)); (first | refine s_gn rfl rfl ?_ | (refine s_gy rfl ?_; refine Q1 rfl ?_)); (first | refine s_gn rfl rfl ?_ | (refine s_gy rfl ?_; refine zl hS ?_)); (first | refine s_gn rfl rfl ?_ | (refine s_gy rfl ?_; refine zL ?_)))
      all_goals (first | refine s_gn rfl rfl ?_ | (refine s_gy rfl ?_; (first | (refine QQ ?_) | (refine QR ?_) | (refine Qm rfl rfl (fun hc => ?_) (fun hc => ?_)))))
      all_goals ((first | (refine zpt ?_) | (refine zpf ?_)); refine zn ?_)
      all_goals
        first
        | (refine Q3 rfl ?_ -- Q1g c2
           all_goals (refine Q0 ?_; refine Q2 ?_; refine zm ?_; refine zn ?_; refine zr ?_; refine zf ?_)
           all_goals (first | (refine ⟨_, rfl, ?_, hS.sp⟩; rw [decide_eq_false]; exact fun e => absurd (congrArg List.length e) (by omega); done) | (refine ⟨_, rfl, ?_, hS.sp⟩; rw [decide_eq_false]; rw [hd, Q7 hx1, Q7 hx2, List.cons.injEq]; rintro ⟨rfl, _⟩; first | (simp_all; done) | (simp at *; omega); done)))
        | (refine Q4 rfl ?_ -- Q1g c2
           all_goals refine zsk ?_)
      all_goals (refine Q0 ?_; have hlb := hb1.len; refine Q2 ?_; refine zm ?_; refine zn ?_; refine Qa ?_)
      refine zoL hS [2, 3, 5, 6, 7] (fun A LL ρ' w' => ∃ (i : Nat), Has ρ' A ∧ Has ρ' [(8, .int .i64 i)] ∧ (i ≤ x1.blocks.length) ∧ (x1.blocks.length = x2.blocks.length) ∧ (x1.regs = x2.regs) ∧ (x1.params = x2.params) ∧ (x1.results = x2.results) ∧ (x1.blocks = x2.blocks ↔ x1.blocks.drop i = x2.blocks.drop i) ∧ St cx w' (LL)) (fun ρ' _ => (x1.blocks.length - iv (ρ' 8)).toNat) ?_ ?_
      · exact ⟨0, zh, zh, (by omega), (by omega), (by omega), by assumption, by assumption, by simp, hS.sp⟩
      rintro ρ w1 ⟨i, hA, hρ, hi, hlb2, hre, hpe, hrr, hd2, hS⟩; obtain ⟨ρ, rfl⟩ := env2 hA hρ
      unfold Q42
      all_goals (refine Q0 ?_; refine Q0 ?_; refine Q2 ?_; refine zm ?_; refine Q1 rfl ?_; refine zl hS ?_; refine zL ?_; refine Qr rfl rfl ?_; refine zn ?_)
      refine Qn rfl (fun hc => ?_) (fun hc => ?_)
      · skip
        all_goals (refine zsk ?_; refine Q0 ?_; refine Qa ?_; refine Q0 ?_; refine zD [(0, none), (1, none), (2, none), (3, none), (4, none), (5, none), (6, none), (7, none), (8, none), (9, none), (10, some none), (11, some none)] ?_; have hS := hS.drew; refine Q1 rfl ?_; refine zl hS ?_; refine zm ?_; refine zi ?_; intro b3 o3 cs3 x3 hat3 hx3 he3; obtain ⟨vp3, vc3, ve31, ve32, ve33, ve34, ve35, rfl, hp3, hc3, he31, he32, he33, he34, he35⟩ := Q1c he3; (first | (refine zv hS ?_) | (refine zvk hS ?_)); refine Q1 rfl ?_; refine zl hS ?_; refine zm ?_; refine zi ?_; intro b4 o4 cs4 x4 hat4 hx4 he4; obtain ⟨vp4, vc4, ve41, ve42, ve43, ve44, ve45, rfl, hp4, hc4, he41, he42, he43, he44, he45⟩ := Q1c he4; (first | (refine zv hS ?_) | (refine zvk hS ?_)))
        all_goals (refine zR2 (c := QnZ he3 he4 hS) (h := ?_); rintro v1 w1 ⟨rfl, hS⟩; (cases hdec : decide (x3 = x4)); have hg := of_decide_eq_false hdec; rotate_left; have hg := of_decide_eq_true hdec; all_goals skip)
        all_goals (refine Q1o rfl ?_; refine zn ?_)
        all_goals
          first
          | (refine Q3 rfl ?_ -- Q1g c4
             all_goals (refine Q0 ?_; refine Q2 ?_; refine zm ?_; refine zn ?_; refine zr ?_; refine zf ?_)
             all_goals (first | (refine ⟨_, rfl, ?_, hS.sp⟩; rw [decide_eq_false]; exact fun e => absurd (congrArg List.length e) (by omega); done) | (refine ⟨_, rfl, ?_, hS.sp⟩; rw [decide_eq_false]; rw [hd, Q7 hx1, Q7 hx2, List.cons.injEq]; rintro ⟨rfl, _⟩; first | (simp_all; done) | (simp at *; omega); done)))
          | (refine Q4 rfl ?_ -- Q1g c4
             all_goals refine zsk ?_)
        all_goals (refine Q2 ?_; refine zm ?_; refine zad ?_; refine zm ?_; refine zn ?_; exact ⟨⟨i + 1, zh, zh, (by omega), (by omega), (by omega), by assumption, by assumption, by rw [hd2, Q7 hx3, Q7 hx4, hg]; simp, hS.sp⟩, Qo (by omega)⟩)
      · skip
        all_goals (refine zex ?_; refine Q2 ?_; refine zm ?_; refine zad ?_; refine zm ?_; refine zn ?_; exact ⟨⟨j + 1, zh, zh, (by omega), (by omega), by rw [hd, Q7 hx1, Q7 hx2, Fun.eq_of hre hpe hrr (by rw [hd2, List.drop_of_length_le (by omega), List.drop_of_length_le (by omega)])]; simp, hS.sp⟩, Qo (by omega)⟩)
  · skip
    all_goals (refine zex ?_; refine Q0 ?_; refine Q2 ?_; refine zm ?_; refine zn ?_; refine zr ?_; refine zf ?_)
    all_goals (first | (refine ⟨_, rfl, ?_, hS.sp⟩; rw [decide_eq_false]; exact fun e => absurd (congrArg List.length e) (by omega); done) | (refine ⟨_, rfl, ?_, hS.sp⟩; rw [decide_eq_false]; rw [hd, Q7 hx1, Q7 hx2, List.cons.injEq]; rintro ⟨rfl, _⟩; first | (simp_all; done) | (simp at *; omega); done) | (refine ⟨_, rfl, ?_, hS.sp⟩; rw [decide_eq_false]; rw [hd, Q7 hx1, Q7 hx2, List.cons.injEq]; rintro ⟨rfl, _⟩; rw [hx3] at hx4; cases hx4; exact hg rfl; done) | (refine ⟨_, rfl, ?_, hS.sp⟩; rw [decide_eq_true]; rw [hd, List.drop_of_length_le (by omega), List.drop_of_length_le (by omega)]; done))
end Go.Proofs.YtanlkfeogoganaaGreat
namespace Go.Proofs.YtanlkfeogoganaaGreat
open Go.Lir
set_option maxHeartbeats 1000000
attribute [local irreducible] LC.wp Q5 Q11 Q1f retQ Q2h LO.wp QD Calls
set_option linter.unusedSimpArgs false
set_option linter.unusedVariables false
variable {cx : Cx} {w : World} {L : List Res} {i : Nat}
def leastB : Block := ⟨0, [], [], ⟨3, 0, ⟨0, [], []⟩, ⟨0, [], []⟩, []⟩⟩
def leastM : Module := ⟨[⟨0, [], [], [leastB]⟩]⟩
abbrev Q6E (vc : Value) : List Value := [.int .i64 0, .slice none 0 0, vc, .int .i64 3, .int .i64 0, .int .i64 0, .slice none 0 0, .slice none 0 0, .int .i64 0, .slice none 0 0, .slice none 0 0, .slice none 0 0]
theorem Qvq : Int2 Tryz.prog 30 := int2_of (by kernel_rfl)
theorem Qxf (hS : St cx w L) : Rets Tryz.prog Qtn [] w fun u w' => ∃ a b, u = .agg ⟨[.slice (some ⟨a, 0, none⟩) 1 1]⟩ ∧ St cx w' (blk a 53 [.int .i64 0, .slice none 0 0, .slice none 0 0, .slice (some ⟨b, 0, none⟩) 1 1] :: blk b 79 (Q6E (.slice none 0 0)) :: L) := by
  all_goals refine Qtm ?_
  all_goals (unfold Law_least_lc; refine Q0 ?_; refine Q2 ?_; refine Qb hS ?_; intro p0 w1 hS; refine zn ?_; refine Q0 ?_; refine Q2 ?_; refine zb1 [_, _, _, _, _, _, _, _, _] ?_; refine zb1 [_, _, _, _, _, _, _, _, _, _, _, _] ?_; refine Q35 (cs := [_, _, _, _, _, _, _, _, _, _, _, _]) vw (by rfl) ?_; intro q1 w1 hb1 hf1 _ hk1; have hS := hS.laid hb1 hf1 hk1; refine zb1 [_, _, _, _] ?_; refine Q35 (cs := [_, _, _, _]) vw (by rfl) ?_; intro q2 w1 hb1 hf1 _ hk1; have hS := hS.laid hb1 hf1 hk1; refine zb1 [_] ?_; refine zsn hS ?_; intro w1 hS; have hS := hS.ns; refine zn ?_; refine zr ?_; refine Q1e vw (Qc (n := 1) (by kernel_rfl) (by kernel_rfl) (hS.blkAt fd) (by rfl) (by rfl)) ?_; exact ⟨_, rfl, q2, q1, rfl, hS.sp⟩)
/-- Such a module, from now on only read. -/
theorem Qvm {a b : Nat} {code : List Ins} {vc : Value} (hk : insR.sl cx vc code) (hS : St cx w (blk a 53 [.int .i64 0, .slice none 0 0, .slice none 0 0, .slice (some ⟨b, 0, none⟩) 1 1] :: blk b 79 (Q6E vc) :: L)) :
    ∃ c', cx.Le c' ∧ St c' w L ∧ modR.at c' [.slice (some ⟨a, 0, none⟩) 1 1] ⟨[⟨0, [], [], [⟨0, [], code, ⟨3, 0, ⟨0, [], []⟩, ⟨0, [], []⟩, []⟩⟩]⟩]⟩ := by
  have n1 : ∀ c : Cx, intR.sl c (.slice none 0 0) [] := fun c => Rep.SR.nil _ _ _
  have n2 : ∀ c : Cx, tyR.sl c (.slice none 0 0) [] := fun c => Rep.SR.nil _ _ _
  obtain ⟨c1, hle1, hS, h1⟩ := St.freeze1 (r := blockR) (x := ⟨0, [], code, ⟨3, 0, ⟨0, [], []⟩, ⟨0, [], []⟩, []⟩⟩) hS.mv1 (Qip (x := ⟨0, [], code, ⟨3, 0, ⟨0, [], []⟩, ⟨0, [], []⟩, []⟩⟩) (n2 _) hk (n1 _) (n1 _) (n1 _) (n1 _) (n1 _))
  obtain ⟨c2, hle2, hS, h2⟩ := St.freeze1 (r := funcR) (x := ⟨0, [], [], [⟨0, [], code, ⟨3, 0, ⟨0, [], []⟩, ⟨0, [], []⟩, []⟩⟩]⟩) hS ⟨_, _, _, rfl, n2 _, n2 _, h1⟩
  exact ⟨c2, hle1.trans hle2, hS, _, rfl, h2⟩
end Go.Proofs.YtanlkfeogoganaaGreat
namespace Go.Proofs.YtanlkfeogoganaaGreat
open Go.Lir
set_option maxHeartbeats 1000000
attribute [local irreducible] LC.wp Q5 Q11 Q1f retQ Q2h LO.wp QD Calls
set_option linter.unusedSimpArgs false
set_option linter.unusedVariables false
attribute [local irreducible] hasB Q21 Q1N Q1Q Q3S upTo Module.fault jIns jEnd
variable {cx : Cx} {w : World} {L : List Res} {j : JP} {h : List Bool} {vl : Value} {css : List (List Value)} {i : Nat} {m : Module}
theorem Qrq : leastM.Short := by
  refine ⟨by decide, fun f hf => ?_⟩
  simp [leastM] at hf; subst hf
  refine ⟨⟨by decide, by simp⟩, ⟨by decide, by simp⟩, by decide, fun b hb => ?_⟩
  simp [leastB] at hb; subst hb
  exact ⟨⟨by decide, by simp⟩, by decide, by simp, ⟨by decide, by decide⟩, ⟨by decide, by decide⟩, by decide⟩
@[reducible] def insK (op : Int) : Ins := ⟨op, 0, 0, 0, 0, 0, [], []⟩
theorem Qxr (c : Cx) (op : Int) : insR.at c [.int .i64 op, .int .i64 0, .int .i64 0, .int .i64 0, .int .i64 0, .int .i64 0, .slice none 0 0, .slice none 0 0] (insK op) := ⟨_, _, rfl, Rep.SR.nil _ _ _, Rep.SR.nil _ _ _⟩
end Go.Proofs.YtanlkfeogoganaaGreat
namespace Go.Lir
set_option linter.unusedVariables false
/-! ### A module of the right form -/
theorem Q9E {a b : Flt} (h : (orF a b).1 = 0) : a.1 = 0 ∧ b.1 = 0 := by
  unfold orF at h
  split at h
  · rename_i hc; exact absurd h hc.2
  · rename_i hc
    refine ⟨h, ?_⟩
    exact Classical.byContradiction fun hb => hc ⟨h, hb⟩
theorem QaY {n f b : Nat} : ∀ {l : List Ins} {i : Nat}, (Q16 n f b i l).1 = 0 → ∀ x ∈ l, QF n x = 0
  | [], _, _, x, hx => by cases hx
  | y :: l, i, h, x, hx => by
    rw [Q16] at h
    obtain ⟨h1, h2⟩ := Q9E h
    rw [Q2a] at h1
    rcases List.mem_cons.1 hx with rfl | hx
    · exact h1
    · exact QaY h2 x hx
theorem Q6k {n f : Nat} {x : Fun} : ∀ {l : List Block} {b0 : Nat}, (QX n f x b0 l).1 = 0 → ∀ (b : Nat) (y : Block), l[b]? = some y → (QW n f x (b0 + b) y).1 = 0
  | [], _, _, b, y, hy => by cases hy
  | z :: l, b0, h, b, y, hy => by
    rw [QX] at h
    obtain ⟨h1, h2⟩ := Q9E h
    cases b with
    | zero => rw [List.getElem?_cons_zero] at hy; cases hy; exact h1
    | succ b => rw [List.getElem?_cons_succ] at hy; rw [show b0 + (b + 1) = b0 + 1 + b by omega]; exact Q6k h2 b y hy
theorem Q5n {n : Nat} : ∀ {l : List Fun} {f0 : Nat}, (Q1q n f0 l).1 = 0 → ∀ (f : Nat) (x : Fun), l[f]? = some x → (Q2c n (f0 + f) x).1 = 0
  | [], _, _, b, y, hy => by cases hy
  | z :: l, b0, h, b, y, hy => by
    rw [Q1q] at h
    obtain ⟨h1, h2⟩ := Q9E h
    cases b with
    | zero => rw [List.getElem?_cons_zero] at hy; cases hy; exact h1
    | succ b => rw [List.getElem?_cons_succ] at hy; rw [show b0 + (b + 1) = b0 + 1 + b by omega]; exact Q5n h2 b y hy
theorem QaD {m : Module} (h : m.fault.1 = 0) {f : Nat} {x : Fun} (hx : m.funcs[f]? = some x) : QC f x = 0 := by
  have h1 := Q5n (Q9E h).2 f x hx
  rw [Nat.zero_add] at h1
  have h2 := (Q9E h1).1
  rwa [Q2a] at h2
theorem Q95 {m : Module} (h : m.fault.1 = 0) {f b : Nat} {x : Fun} {y : Block} (hx : m.funcs[f]? = some x) (hy : x.blocks[b]? = some y) : Qz x b y = 0 ∧ (∀ i ∈ y.code, QF m.funcs.length i = 0) ∧ Q1P x.blocks.length y.fin = 0 := by
  have h1 := Q5n (Q9E h).2 f x hx
  have h2 := Q6k (Q9E h1).2 b y hy
  obtain ⟨h3, h4⟩ := Q9E h2
  obtain ⟨h5, h6⟩ := Q9E h4
  rw [Q2a] at h3 h6
  rw [Nat.zero_add] at h3
  exact ⟨h3, QaY h5, h6⟩
theorem Q9l {x : Fun} {b : Nat} {y : Block} (h : Qz x b y = 0) : x.regs ≤ y.regs ∧ y.regs ≤ 16 ∧ Qv y.params y.regs = 0 ∧ (b = 0 → y.regs = x.regs ∧ y.params = x.params) ∧ y.code.length ≤ 40 := by
  unfold Qz at h
  split at h
  · cases h
  · rename_i h1
    split at h
    · rename_i h2; exact absurd h h2
    · rename_i h2
      split at h
      · cases h
      · rename_i h3
        split at h
        · cases h
        · refine ⟨by omega, by omega, Classical.not_not.1 h2, fun hb => ?_, by omega⟩
          refine ⟨Classical.byContradiction fun hr => h3 ⟨hb, .inl hr⟩, Classical.byContradiction fun hr => h3 ⟨hb, .inr hr⟩⟩
theorem Q5q {f : Nat} {x : Fun} (h : QC f x = 0) : 0 ≤ x.regs ∧ x.regs ≤ 6 ∧ Qv x.params x.regs = 0 ∧ Qv x.results x.regs = 0 ∧ 1 ≤ x.blocks.length ∧ x.blocks.length ≤ 12 := by
  unfold QC at h
  split at h
  · cases h
  · rename_i h1
    split at h
    · rename_i h2; exact absurd h h2
    · rename_i h2
      split at h
      · rename_i h3; exact absurd h h3
      · rename_i h3
        split at h
        · cases h
        · exact ⟨by omega, by omega, Classical.not_not.1 h2, Classical.not_not.1 h3, by omega, by omega⟩
theorem Qrn {l : List Ty} {r : Int} (h : Qv l r = 0) : l.length ≤ 8 := by
  unfold Qv at h
  split at h
  · cases h
  · omega
theorem orC_z {a b : Int} (h : orC a b = 0) : a = 0 ∧ b = 0 := by
  unfold orC at h
  split at h
  · rename_i h1; exact absurd h h1
  · rename_i h1; exact ⟨Classical.not_not.1 h1, h⟩
theorem QgY {r : Int} : ∀ {l : List Ty}, Q2L r l = 0 → ∀ t ∈ l, t.fault r = 0
  | [], _, t, ht => by cases ht
  | x :: l, h, t, ht => by
    rw [Q2L] at h
    obtain ⟨h1, h2⟩ := orC_z h
    rcases List.mem_cons.1 ht with rfl | ht
    · exact h1
    · exact QgY h2 t ht
theorem Qew {l : List Ty} {r : Int} (h : Qv l r = 0) : ∀ t ∈ l, t.fault r = 0 := by
  unfold Qv at h
  split at h
  · cases h
  · exact QgY h
/-! ### What is renamed is short -/
theorem Ty.ren_short : ∀ (t : Ty) {to : List Int} {u : Ty}, t.Short → t.ren to = some u → u.Short := by
  intro t
  induction t using Ty.ind with
  | h k r l ih =>
    intro to u hs h
    obtain ⟨hl, hp⟩ := hs.parts
    rw [Ty.ren] at h
    split at h
    · cases h
    · split at h
      · cases h
      · rename_i m hm
        cases h
        have key : ∀ (l : List Ty) (m : List Ty), (∀ x ∈ l, x.Short ∧ ∀ {u : Ty}, x.Short → x.ren to = some u → u.Short) → Tys.ren l to = some m → m.length = l.length ∧ ∀ y ∈ m, y.Short := by
          intro l
          induction l with
          | nil => intro m _ h; rw [Tys.ren] at h; cases h; exact ⟨rfl, by simp⟩
          | cons x l ihl =>
            intro m hx h
            rw [Tys.ren] at h
            cases h1 : x.ren to with
            | none => rw [h1] at h; cases h
            | some y =>
              rw [h1] at h
              cases h2 : Tys.ren l to with
              | none => rw [h2] at h; cases h
              | some m2 =>
                rw [h2] at h
                simp only [Option.some.injEq] at h
                subst h
                obtain ⟨h3, h4⟩ := ihl m2 (fun z hz => hx z (List.mem_cons_of_mem _ hz)) h2
                refine ⟨by simp [h3], fun z hz => ?_⟩
                rcases List.mem_cons.1 hz with rfl | hz
                · obtain ⟨h5, h6⟩ := hx x (List.mem_cons_self ..); exact h6 h5 h1
                · exact h4 z hz
        obtain ⟨h3, h4⟩ := key l m (fun x hx => ⟨hp x hx, fun hs h => ih x hx hs h⟩) hm
        exact .mk (by omega) h4
theorem Ty.Short.part {t : Ty} (h : t.Short) : ∀ u ∈ t.l, u.Short := by
  obtain ⟨k, r, l⟩ := t
  exact h.parts.2
theorem QvL {t : Ty} {to : List Int} (h : t.Short) : (renT to t).Short := by
  unfold renT
  cases hn : t.ren to with
  | none => exact .mk (by decide) (by simp)
  | some u => exact Ty.ren_short t h hn
/-! ### What stays so -/
structure JGood (s : JS) : Prop where
  n : s.l.length ≤ 80
  h : s.h.length ≤ 16
  s : ∀ t ∈ s.l, t.Short
theorem JGood.get {s : JS} (hg : JGood s) {k : Int} {t : Ty} (h : jval s k = .ok t) : t.Short := hg.s t (List.mem_of_getElem? (QtL h).2)
theorem JGood.put {s s' : JS} {t : Ty} (hg : JGood s) (ht : t.Short) (h : jput s t = .ok s') : JGood s' := by
  obtain ⟨h1, h2, h3⟩ := QtN h
  refine ⟨by rw [h3, List.length_append]; have := hg.n; simp only [List.length_cons, List.length_nil]; omega, by rw [h2]; exact hg.h, fun u hu => ?_⟩
  rw [h3] at hu
  rcases List.mem_append.1 hu with hu | hu
  · exact hg.s u hu
  · simp at hu; subst hu; exact ht
theorem Qht {k r : Int} : (Ty.mk k r []).Short := .mk (by decide) (by simp)
theorem Q6b {s : JS} (hg : JGood s) : ∀ {l : List Int} {ts : List Ty}, jfields s l = .ok ts → ts.length = l.length ∧ ∀ t ∈ ts, t.Short
  | [], ts, h => by rw [jfields] at h; cases h; exact ⟨rfl, by simp⟩
  | k :: l, ts, h => by
    rw [jfields] at h
    obtain ⟨t, h1, h⟩ := Qg h
    obtain ⟨us, h2, h⟩ := Qg h
    cases h
    obtain ⟨h3, h4⟩ := Q6b hg h2
    refine ⟨by simp [h3], fun u hu => ?_⟩
    rcases List.mem_cons.1 hu with rfl | hu
    · exact hg.get h1
    · exact h4 u hu
theorem jat_val {s : JS} {k kd : Int} {t : Ty} (h : jat s k kd = .ok t) : jval s k = .ok t := by have := Qez h; exact Q4c this.1 this.2.1
theorem QrL {t u : Ty} {k : Int} (h : Q3c t k = .ok u) : t.l[k.toNat]? = some u := by
  unfold Q3c at h
  split at h
  · cases h
  · rename_i v hv; cases h; exact hv
theorem QrF {m : Module} {f : Fun} {s s' : JS} {x : Ins} (hm : m.Short) (hg : JGood s) (hF : QF m.funcs.length x = 0) (h : jins m f s x = .ok s') : JGood s' := by
  have hop := Q4K hF
  have hst := Qxj hop h
  have hn : s'.l.length ≤ 80 := hst.len hg.n
  by_cases h3 : x.op = 3
  · rw [QrH h3] at h
    split at h
    · cases h
    · rename_i hc
      cases h
      refine ⟨hn, by have := hg.h; simp only [List.length_append, List.length_cons, List.length_nil]; omega, fun u hu => ?_⟩
      rcases List.mem_append.1 hu with hu | hu
      · exact hg.s u hu
      · simp at hu; subst hu; exact Qht
  by_cases h4 : x.op = 4
  · rw [Qo1 h4] at h
    obtain ⟨t, h1, h⟩ := Qg h
    split at h
    · cases h
    · cases h; exact ⟨hn, by rw [List.length_set]; exact hg.h, hg.s⟩
  rcases op_cases (op := x.op) (by omega) (by omega) with e | e | e | e | e | e | e | e | e | e | e | e | e | e
  · rw [Qey (by omega)] at h; exact hg.put Qht h
  · rw [QhR (by omega)] at h; obtain ⟨_, _, h⟩ := Qg h; obtain ⟨_, _, h⟩ := Qg h; exact hg.put Qht h
  · exact absurd e h3
  · exact absurd e h4
  · rw [QrG (by omega)] at h
    unfold Q7C at h
    obtain ⟨t, _, h⟩ := Qg h; obtain ⟨ts, h2, h⟩ := Qg h
    split at h
    · cases h
    · obtain ⟨h5, h6⟩ := Q6b hg h2
      have hal : x.args.length ≤ 8 := by
        unfold QF Q1S at hF
        simp [e] at hF; omega
      exact hg.put (.mk (by omega) h6) h
  · rw [QhQ (by omega)] at h; obtain ⟨t, h1, h⟩ := Qg h; obtain ⟨u, h2, h⟩ := Qg h
    exact hg.put (Ty.Short.part (hg.get (jat_val h1)) u (List.mem_of_getElem? (QrL h2))) h
  · rw [Q3i (by omega)] at h; obtain ⟨_, _, h⟩ := Qg h; obtain ⟨_, _, h⟩ := Qg h; obtain ⟨_, _, h⟩ := Qg h
    split at h
    · cases h
    · cases h; exact hg
  · rw [QhP (by omega)] at h; obtain ⟨_, _, h⟩ := Qg h; obtain ⟨_, _, h⟩ := Qg h; exact hg.put Qht h
  · rw [QhO (by omega)] at h; obtain ⟨_, _, h⟩ := Qg h; obtain ⟨_, _, h⟩ := Qg h; exact hg.put Qht h
  · rw [Q93 (by omega)] at h; obtain ⟨_, _, h⟩ := Qg h; obtain ⟨_, _, h⟩ := Qg h; obtain ⟨_, _, h⟩ := Qg h; cases h; exact hg
  · rw [QbR (by omega)] at h; obtain ⟨_, _, h⟩ := Qg h; exact hg.put Qht h
  · rw [Qey (by omega)] at h; exact hg.put Qht h
  · rw [QhT (by omega)] at h; obtain ⟨_, _, h⟩ := Qg h; cases h; exact hg
  · rw [QhS (by omega)] at h
    unfold Qf1 at h
    split at h
    · cases h
    · rename_i g hgf
      split at h
      · cases h
      · obtain ⟨_, _, h⟩ := Qg h; obtain ⟨_, _, h⟩ := Qg h
        split at h
        · cases h
        · cases h
          refine ⟨hn, hg.h, fun u hu => ?_⟩
          rcases List.mem_append.1 hu with hu | hu
          · exact hg.s u hu
          · obtain ⟨t, ht, rfl⟩ := List.mem_map.1 hu
            exact QvL ((hm.2 g (List.mem_of_getElem? hgf)).2.1.2 t ht)
theorem Qxp {m : Module} {f : Fun} {s : JS} {x : Ins} (hm : m.Short) (hg : JGood s) : JGood (jIns m f s x).2 := by
  by_cases h : (jIns m f s x).1 = 0
  · obtain ⟨h1, h2⟩ := Qxn h; exact QrF hm hg h1 h2
  · rw [Qxo h]; exact hg
theorem QhY {m : Module} (hm : m.Short) (hF : m.fault.1 = 0) {f b : Nat} {x : Fun} {y : Block} (hx : m.funcs[f]? = some x) (hy : x.blocks[b]? = some y) : JGood (Q2n y) := by
  have h1 := Q9l (Q95 hF hx hy).1
  have h2 := Qrn h1.2.2.1
  refine ⟨by unfold Q2n; simp only; omega, by unfold Q2n; simp only [List.length_replicate]; omega, ?_⟩
  exact ((hm.2 x (List.mem_of_getElem? hx)).2.2.2 y (List.mem_of_getElem? hy)).1.2
/-! ### What was freed -/
theorem QrD {h : List Bool} : ∀ {l p : List Int}, Q2N h p l = .ok () → ∀ r ∈ l, hasB h r = true
  | [], _, _, r, hr => by cases hr
  | x :: l, p, hd, r, hr => by
    rw [Q2N] at hd
    split at hd
    · cases hd
    · rename_i h1
      split at hd
      · cases hd
      · rcases List.mem_cons.1 hr with rfl | hr
        · simpa using h1
        · exact QrD hd r hr
theorem jat_gone {s : JS} {k kd : Int} {t : Ty} (h0 : 0 ≤ k) (h : s.l[k.toNat]? = some t) (hk : t.kind = kd) (hh : hasB s.h t.r = false) : jat s k kd = .error 10 := by
  unfold jat jkind
  rw [Q9 (Q4c h0 h), if_neg (fun h => h hk), Q9 rfl, if_pos hh]
/-! ### What is held, as a list -/
end Go.Lir
namespace Go.Lir
set_option linter.unusedVariables false
def QM {α : Type} (x : Except Int α) : Int := match x with
  | .error c => c
  | .ok _ => 0
theorem Qgw {α : Type} {x : Except Int α} (hn : NZ x) (h : QM x = 0) : ∃ a, x = .ok a := by
  cases x with
  | error c => exact absurd h (hn c rfl)
  | ok a => exact ⟨a, rfl⟩
section
variable {α : Type} {x : Except Int α} {v : Value}
theorem Q2E {c : Int} {p : α → Prop} (h : x = .error c) : ∀ a, x = .ok a → p a := fun a ha => by rw [h] at ha; cases ha
theorem Q1j {b : α} {p : α → Prop} (h : x = .ok b) (hp : p b) : ∀ a, x = .ok a → p a := fun a ha => by rw [h] at ha; cases ha; exact hp
theorem Q6l {b : α} {p : α → Prop} (h : ∀ a, x = .ok a → a = b) (hp : p b) : ∀ a, x = .ok a → p a := fun a ha => by rw [h a ha]; exact hp
theorem cd_e {c : Int} (h : x = .error c) : (Value.tuple #[v, .int .i64 c]) = .tuple #[v, .int .i64 (QM x)] := by rw [h]; rfl
theorem cd_o {b : α} (h : x = .ok b) : (Value.tuple #[v, .int .i64 0]) = .tuple #[v, .int .i64 (QM x)] := by rw [h]; rfl
theorem cd_w {b : α} {c : Int} (h : x = .ok b) (hc : c = 0) : (Value.tuple #[v, .int .i64 c]) = .tuple #[v, .int .i64 (QM x)] := by rw [h, hc]; rfl
theorem cd_c {c : Int} (h : QM x = c) : (Value.tuple #[v, .int .i64 c]) = .tuple #[v, .int .i64 (QM x)] := by rw [h]
end
def Q1b (s : JS) (k kd : Int) (held : Bool) : Int := QM (if held then jat s k kd else jkind s k kd)
section
variable {s : JS} {k kd : Int} {held : Bool} {t : Ty}
theorem Qv2 (h : k < 0 ∨ (s.l.length : Int) ≤ k) : Q1b s k kd held = 1 := by
  unfold Q1b
  cases held
  · simp only [Bool.false_eq_true, if_false, jkind, Qu (Q63 h)]; rfl
  · simp only [if_true, jat, jkind, Qu (Q63 h)]; rfl
theorem Qwn (h0 : 0 ≤ k) (ht : s.l[k.toNat]? = some t) (hk : t.kind ≠ kd) : Q1b s k kd held = 9 := by
  have h1 : jkind s k kd = .error 9 := by unfold jkind; rw [Q9 (Q4c h0 ht)]; exact if_pos hk
  unfold Q1b
  cases held
  · simp only [Bool.false_eq_true, if_false, h1]; rfl
  · simp only [if_true, jat, Qu h1]; rfl
theorem Qwo (h0 : 0 ≤ k) (ht : s.l[k.toNat]? = some t) (hk : t.kind = kd) (hh : hasB s.h t.r = false) : Q1b s k kd true = 10 := by
  unfold Q1b; simp only [if_true, jat_gone h0 ht hk hh]; rfl
theorem QrE (h0 : 0 ≤ k) (ht : s.l[k.toNat]? = some t) (hk : t.kind = kd) : jkind s k kd = .ok t := by
  unfold jkind; rw [Q9 (Q4c h0 ht)]; exact if_neg (fun h => h hk)
theorem jat_yes (h0 : 0 ≤ k) (ht : s.l[k.toNat]? = some t) (hk : t.kind = kd) (hh : hasB s.h t.r = true) : jat s k kd = .ok t := by
  unfold jat; rw [Q9 (QrE h0 ht hk)]; exact if_neg (by rw [hh]; decide)
theorem want_0 (h0 : 0 ≤ k) (ht : s.l[k.toNat]? = some t) (hk : t.kind = kd) (hh : held = true → hasB s.h t.r = true) : Q1b s k kd held = 0 := by
  unfold Q1b
  cases held
  · simp only [Bool.false_eq_true, if_false, QrE h0 ht hk]; rfl
  · simp only [if_true, jat_yes h0 ht hk (hh rfl)]; rfl
theorem want_at (h : Q1b s k kd true = 0) : ∃ t, jat s k kd = .ok t := Qgw (QhV s k kd) (by unfold Q1b at h; simpa using h)
theorem Qwm (h : Q1b s k kd false = 0) : ∃ t, jkind s k kd = .ok t := Qgw (Q3p s k kd) (by unfold Q1b at h; simpa using h)
theorem QgA (h : Q1b s k kd true ≠ 0) : jat s k kd = .error (Q1b s k kd true) := by
  unfold Q1b at h ⊢
  simp only [if_true] at h ⊢
  cases hj : jat s k kd with
  | error c => rfl
  | ok a => rw [hj] at h; exact absurd rfl h
theorem Qtp (h : Q1b s k kd false ≠ 0) : jkind s k kd = .error (Q1b s k kd false) := by
  unfold Q1b at h ⊢
  simp only [Bool.false_eq_true, if_false] at h ⊢
  cases hj : jkind s k kd with
  | error c => rfl
  | ok a => rw [hj] at h; exact absurd rfl h
end
def Q24 : List Int → Int
  | [] => 0
  | x :: l => if x ≠ 0 then x else Q24 l
/-- What a call makes. -/
def Qx5 (m : Module) (s : JS) (x : Ins) : Except Int (List Ty) := match m.funcs[x.k.toNat]? with
  | none => .error 1
  | some g => if (x.regs.length : Int) ≠ g.regs then .error 2 else ebind (Q2N s.h [] x.regs) fun _ => ebind (Q6c s x.args g.params x.regs) fun _ => .ok (g.results.map (renT x.regs))
/-- What an instruction makes. -/
def rmk (m : Module) (f : Fun) (s : JS) (x : Ins) : Except Int (List Ty) :=
  if x.op = 1 ∨ x.op = 12 then (.ok [number])
  else if x.op = 2 then (ebind (jkind s x.a 1) fun _ => ebind (jkind s x.b 1) fun _ => .ok [number])
  else if x.op = 3 then (if s.h.length = 16 then .error 2 else .ok [.mk 2 s.h.length []])
  else if x.op = 4 then (ebind (jat s x.a 2) fun t => if t.r < f.regs then .error 11 else .ok [])
  else if x.op = 5 then (ebind (jat s x.a 2) fun t => ebind (jfields s x.args) fun ts => if 4 < (Ty.mk 3 t.r ts).depth 4 then .error 19 else .ok [.mk 3 t.r ts])
  else if x.op = 6 then (ebind (jat s x.a 3) fun t => ebind (Q3c t x.k) fun u => .ok [u])
  else if x.op = 7 then (ebind (jat s x.a 3) fun t => ebind (Q3c t x.k) fun u => ebind (jval s x.b) fun v => if u ≠ v then .error 9 else .ok [])
  else if x.op = 8 then (ebind (jat s x.a 2) fun t => ebind (jkind s x.b 1) fun _ => .ok [.mk 4 t.r []])
  else if x.op = 9 then (ebind (jat s x.a 4) fun _ => ebind (jkind s x.b 1) fun _ => .ok [number])
  else if x.op = 10 then (ebind (jat s x.a 4) fun _ => ebind (jkind s x.b 1) fun _ => ebind (jkind s x.c 1) fun _ => .ok [])
  else if x.op = 11 then (ebind (jat s x.a 4) fun _ => .ok [number])
  else if x.op = 13 then (ebind (jkind s x.a 1) fun _ => .ok [])
  else Qx5 m s x
section
variable {m : Module} {f : Fun} {s : JS} {x : Ins}
theorem rmk_1 (h : x.op = 1 ∨ x.op = 12) : rmk m f s x = (.ok [number]) := by
  unfold rmk; rw [if_pos (by omega)]
theorem rmk_2 (h : x.op = 2) : rmk m f s x = (ebind (jkind s x.a 1) fun _ => ebind (jkind s x.b 1) fun _ => .ok [number]) := by
  unfold rmk; rw [if_neg (by omega), if_pos (by omega)]
theorem rmk_3 (h : x.op = 3) : rmk m f s x = (if s.h.length = 16 then .error 2 else .ok [.mk 2 s.h.length []]) := by
  unfold rmk; rw [if_neg (by omega), if_neg (by omega), if_pos (by omega)]
theorem Qtz (h : x.op = 4) : rmk m f s x = (ebind (jat s x.a 2) fun t => if t.r < f.regs then .error 11 else .ok []) := by
  unfold rmk; rw [if_neg (by omega), if_neg (by omega), if_neg (by omega), if_pos (by omega)]
theorem QwX (h : x.op = 5) : rmk m f s x = (ebind (jat s x.a 2) fun t => ebind (jfields s x.args) fun ts => if 4 < (Ty.mk 3 t.r ts).depth 4 then .error 19 else .ok [.mk 3 t.r ts]) := by
  unfold rmk; rw [if_neg (by omega), if_neg (by omega), if_neg (by omega), if_neg (by omega), if_pos (by omega)]
theorem rmk_6 (h : x.op = 6) : rmk m f s x = (ebind (jat s x.a 3) fun t => ebind (Q3c t x.k) fun u => .ok [u]) := by
  unfold rmk; rw [if_neg (by omega), if_neg (by omega), if_neg (by omega), if_neg (by omega), if_neg (by omega), if_pos (by omega)]
theorem QvK (h : x.op = 7) : rmk m f s x = (ebind (jat s x.a 3) fun t => ebind (Q3c t x.k) fun u => ebind (jval s x.b) fun v => if u ≠ v then .error 9 else .ok []) := by
  unfold rmk; rw [if_neg (by omega), if_neg (by omega), if_neg (by omega), if_neg (by omega), if_neg (by omega), if_neg (by omega), if_pos (by omega)]
theorem rmk_8 (h : x.op = 8) : rmk m f s x = (ebind (jat s x.a 2) fun t => ebind (jkind s x.b 1) fun _ => .ok [.mk 4 t.r []]) := by
  unfold rmk; rw [if_neg (by omega), if_neg (by omega), if_neg (by omega), if_neg (by omega), if_neg (by omega), if_neg (by omega), if_neg (by omega), if_pos (by omega)]
theorem rmk_9 (h : x.op = 9) : rmk m f s x = (ebind (jat s x.a 4) fun _ => ebind (jkind s x.b 1) fun _ => .ok [number]) := by
  unfold rmk; rw [if_neg (by omega), if_neg (by omega), if_neg (by omega), if_neg (by omega), if_neg (by omega), if_neg (by omega), if_neg (by omega), if_neg (by omega), if_pos (by omega)]
theorem Qx0 (h : x.op = 10) : rmk m f s x = (ebind (jat s x.a 4) fun _ => ebind (jkind s x.b 1) fun _ => ebind (jkind s x.c 1) fun _ => .ok []) := by
  unfold rmk; rw [if_neg (by omega), if_neg (by omega), if_neg (by omega), if_neg (by omega), if_neg (by omega), if_neg (by omega), if_neg (by omega), if_neg (by omega), if_neg (by omega), if_pos (by omega)]
theorem QwZ (h : x.op = 11) : rmk m f s x = (ebind (jat s x.a 4) fun _ => .ok [number]) := by
  unfold rmk; rw [if_neg (by omega), if_neg (by omega), if_neg (by omega), if_neg (by omega), if_neg (by omega), if_neg (by omega), if_neg (by omega), if_neg (by omega), if_neg (by omega), if_neg (by omega), if_pos (by omega)]
theorem QwY (h : x.op = 13) : rmk m f s x = (ebind (jkind s x.a 1) fun _ => .ok []) := by
  unfold rmk; rw [if_neg (by omega), if_neg (by omega), if_neg (by omega), if_neg (by omega), if_neg (by omega), if_neg (by omega), if_neg (by omega), if_neg (by omega), if_neg (by omega), if_neg (by omega), if_neg (by omega), if_pos (by omega)]
theorem rmk_14 (h : x.op = 14) : rmk m f s x = (Qx5 m s x) := by
  unfold rmk; rw [if_neg (by omega), if_neg (by omega), if_neg (by omega), if_neg (by omega), if_neg (by omega), if_neg (by omega), if_neg (by omega), if_neg (by omega), if_neg (by omega), if_neg (by omega), if_neg (by omega), if_neg (by omega)]
end
section
variable {α β γ δ : Type} {x : Except Int α} {y : Except Int β} {z : Except Int γ}
theorem QaC {c : Int} {l : List Int} (h : c ≠ 0) : Q24 (c :: l) = c := if_pos h
theorem Qvr (l : List Int) : Q24 (0 :: l) = Q24 l := if_neg (fun h => h rfl)
theorem Qvt (hx : NZ x) (h : Q24 [QM x, QM y] ≠ 0) (g : α → β → Except Int δ) : ebind x (fun a => ebind y (g a)) = .error (Q24 [QM x, QM y]) := by
  cases x with
  | error c => rw [show QM (.error c : Except Int α) = c from rfl, QaC (hx c rfl)]; rfl
  | ok a =>
    rw [show QM (.ok a : Except Int α) = 0 from rfl, Qvr] at h ⊢
    cases y with
    | error c =>
      rw [show QM (.error c : Except Int β) = c from rfl] at h ⊢
      by_cases hc : c = 0
      · subst hc; exact absurd rfl h
      · rw [QaC hc]; rfl
    | ok b => exact absurd rfl h
theorem Qvs (hx : NZ x) (hy : NZ y) (h : Q24 [QM x, QM y] = 0) : ∃ a b, x = .ok a ∧ y = .ok b := by
  cases x with
  | error c => rw [show QM (.error c : Except Int α) = c from rfl, QaC (hx c rfl)] at h; exact absurd h (hx c rfl)
  | ok a =>
    rw [show QM (.ok a : Except Int α) = 0 from rfl, Qvr] at h
    cases y with
    | error c => rw [show QM (.error c : Except Int β) = c from rfl, QaC (hy c rfl)] at h; exact absurd h (hy c rfl)
    | ok b => exact ⟨a, b, rfl, rfl⟩
theorem QoR (hx : NZ x) (hy : NZ y) (d : δ) : QM (ebind x fun _ => ebind y fun _ => (.ok d : Except Int δ)) = Q24 [QM x, QM y] := by
  by_cases h : Q24 [QM x, QM y] = 0
  · obtain ⟨a, b, h1, h2⟩ := Qvs hx hy h
    rw [h, Q9 h1, Q9 h2]; rfl
  · rw [Qvt hx h]; rfl
theorem first3_c (hx : NZ x) (hy : NZ y) (hz : NZ z) (d : δ) : QM (ebind x fun _ => ebind y fun _ => ebind z fun _ => (.ok d : Except Int δ)) = Q24 [QM x, QM y, QM z] := by
  cases x with
  | error c => rw [show QM (.error c : Except Int α) = c from rfl, QaC (hx c rfl)]; rfl
  | ok a =>
    have : Q24 [QM (.ok a : Except Int α), QM y, QM z] = Q24 [QM y, QM z] := rfl
    rw [this, ← QoR hy hz d]; rfl
theorem ok1 {x : Except Int α} {f : α → Except Int β} {b : β} (h : ebind x f = .ok b) {p : Prop} (hp : ∀ a, f a = .ok b → p) : p := by
  obtain ⟨a, _, h2⟩ := Qg h; exact hp a h2
end
section
variable {s : JS} {k kd : Int}
theorem Qbi : Q1b s k kd true = QM (jat s k kd) := rfl
theorem Q4W : Q1b s k kd false = QM (jkind s k kd) := rfl
end
section
variable {s : JS} {k kd : Int} {m : Module} {f : Fun} {x : Ins}
theorem Qog (h : Q1b s k kd true = 0) : ∃ t, 0 ≤ k ∧ k < s.l.length ∧ s.l[k.toNat]? = some t ∧ t.kind = kd ∧ hasB s.h t.r = true ∧ jat s k kd = .ok t := by
  obtain ⟨t, ht⟩ := want_at h
  obtain ⟨h1, h2, h3, h4⟩ := Qez ht
  have := (List.getElem?_eq_some_iff.1 h2).1
  exact ⟨t, h1, by omega, h2, h3, h4, ht⟩
theorem Qgx {α : Type} {y : Except Int α} (h : QM y ≠ 0) : y = .error (QM y) := by
  cases y with
  | error c => rfl
  | ok a => exact absurd rfl h
theorem Qph {y : Except Int Unit} (hn : NZ y) (h : QM y = 0) : y = .ok () := by
  obtain ⟨_, h⟩ := Qgw hn h; exact h
theorem rmk_67e {c : Int} (h : x.op = 6 ∨ x.op = 7) (hj : jat s x.a 3 = .error c) : rmk m f s x = .error c := by
  rcases h with h | h
  · rw [rmk_6 h, Qu hj]
  · rw [QvK h, Qu hj]
theorem rmk_67f {t : Ty} (h : x.op = 6 ∨ x.op = 7) (hj : jat s x.a 3 = .ok t) (hf : t.l[x.k.toNat]? = none) : rmk m f s x = .error 9 := by
  have h1 : Q3c t x.k = .error 9 := by unfold Q3c; rw [hf]
  rcases h with h | h
  · rw [rmk_6 h, Q9 hj, Qu h1]
  · rw [QvK h, Q9 hj, Qu h1]
theorem QvV {t u : Ty} {k : Int} (h : t.l[k.toNat]? = some u) : Q3c t k = .ok u := by unfold Q3c; rw [h]
theorem rcall_k {g : Fun} (h : x.op = 14) (hg : m.funcs[x.k.toNat]? = some g) : rmk m f s x = (if (x.regs.length : Int) ≠ g.regs then .error 2 else ebind (Q2N s.h [] x.regs) fun _ => ebind (Q6c s x.args g.params x.regs) fun _ => .ok (g.results.map (renT x.regs))) := by
  rw [rmk_14 h]; unfold Qx5; rw [hg]
end
theorem QeA {n : Nat} {x : Ins} (hF : QF n x = 0) (e : x.op = 5) : x.args.length ≤ 8 := by
  unfold QF Q1S at hF
  simp [e] at hF; omega
end Go.Lir
namespace Go.Lir
set_option linter.unusedVariables false
theorem Tys.wrong_all {n : Int} {fields : Nat} : ∀ {l : List Ty}, Tys.wrong fields l n = 0 ↔ ∀ t ∈ l, t.wrong fields n = 0
  | [] => by simp [Tys.wrong]
  | x :: l => by
    rw [Tys.wrong]
    constructor
    · intro h
      split at h
      · rename_i h1; exact absurd h h1
      · rename_i h1
        intro t ht
        rcases List.mem_cons.1 ht with rfl | ht
        · exact Classical.not_not.1 h1
        · exact Tys.wrong_all.1 h t ht
    · intro h
      rw [if_neg (fun hn => hn (h x (List.mem_cons_self ..)))]
      exact Tys.wrong_all.2 fun t ht => h t (List.mem_cons_of_mem _ ht)
theorem Ty.wrong_iff {k r n : Int} {l : List Ty} {fields : Nat} : (Ty.mk k r l).wrong fields n = 0 ↔ (1 ≤ k ∧ k ≤ 4) ∧ (k = 1 → r = 0) ∧ (k ≠ 3 → l.length = 0) ∧ l.length ≤ fields ∧ (k ≠ 1 → 0 ≤ r ∧ r < n) ∧ ∀ t ∈ l, t.wrong fields n = 0 := by
  rw [Ty.wrong]
  constructor
  · intro h
    split at h
    · cases h
    · rename_i h1
      split at h
      · cases h
      · rename_i h2
        split at h
        · cases h
        · rename_i h3
          split at h
          · cases h
          · exact ⟨by omega, by omega, by omega, by omega, by omega, Tys.wrong_all.1 h⟩
  · rintro ⟨h1, h2, h3, h4, h5, h6⟩
    rw [if_neg (by omega), if_neg (by omega), if_neg (by omega), if_neg (by omega)]
    exact Tys.wrong_all.2 h6
theorem Ty.wrong_up {fields : Nat} {n n' : Int} (hn : n ≤ n') : ∀ t : Ty, t.wrong fields n = 0 → t.wrong fields n' = 0 := by
  intro t
  induction t using Ty.ind with
  | h k r l ih =>
    intro h
    obtain ⟨h1, h2, h3, h4, h5, h6⟩ := Ty.wrong_iff.1 h
    exact Ty.wrong_iff.2 ⟨h1, h2, h3, h4, fun hk => by have := h5 hk; omega, fun t ht => ih t ht (h6 t ht)⟩
mutual
/-- What is renamed to numbers below n is right below n. -/
theorem Ty.ren_right {fields : Nat} {f : List Int} {n : Int} (hf : ∀ i : Nat, i < f.length → 0 ≤ f.getD i 0 ∧ f.getD i 0 < n) : ∀ (t : Ty), t.wrong fields f.length = 0 → ∃ u, t.ren f = some u ∧ u.wrong fields n = 0
  | .mk k r l, ht => by
    obtain ⟨h1, h2, h3, h4, h5, h6⟩ := Ty.wrong_iff.1 ht
    obtain ⟨m, hm, hml, hmw⟩ := Tys.ren_right hf l h6
    have hr : k ≠ 1 → 0 ≤ f.getD r.toNat 0 ∧ f.getD r.toNat 0 < n := fun hk => hf r.toNat (by have := h5 hk; omega)
    refine ⟨.mk k (if k ≠ 1 then f.getD r.toNat 0 else r) m, ?_, ?_⟩
    · rw [Ty.ren, if_neg (by rintro ⟨hk, hb⟩; have := h5 hk; have := hr hk; omega), hm]
    · refine Ty.wrong_iff.2 ⟨h1, fun hk => by rw [if_neg (by omega)]; exact h2 hk, fun hk => by rw [hml]; exact h3 hk, by omega, fun hk => by rw [if_pos hk]; exact hr hk, hmw⟩
theorem Tys.ren_right {fields : Nat} {f : List Int} {n : Int} (hf : ∀ i : Nat, i < f.length → 0 ≤ f.getD i 0 ∧ f.getD i 0 < n) : ∀ (l : List Ty), (∀ t ∈ l, t.wrong fields f.length = 0) → ∃ m, Tys.ren l f = some m ∧ m.length = l.length ∧ ∀ u ∈ m, u.wrong fields n = 0
  | [], _ => ⟨[], by rw [Tys.ren], rfl, by simp⟩
  | x :: l, h => by
    obtain ⟨y, h1, h2⟩ := Ty.ren_right hf x (h x (List.mem_cons_self ..))
    obtain ⟨m, h3, h4, h5⟩ := Tys.ren_right hf l (fun t ht => h t (List.mem_cons_of_mem _ ht))
    refine ⟨y :: m, by rw [Tys.ren, h1, h3], by simp [h4], fun u hu => ?_⟩
    rcases List.mem_cons.1 hu with rfl | hu
    · exact h2
    · exact h5 u hu
end
/-- What stays true of what is known. -/
structure JInv (m : Module) (f : Fun) (z : JS) : Prop extends JGood z where
  wf : ∀ t ∈ z.l, t.wrong 8 z.h.length = 0
  keep : ∀ r : Int, 0 ≤ r → r < f.regs → hasB z.h r = true
theorem Qgv {h : List Bool} {r : Int} (hr : hasB h r = true) : 0 ≤ r ∧ r < h.length := by have := Q6H hr; omega
theorem Ty.fault_wrong {t : Ty} {n : Int} (h : t.fault n = 0) : t.wrong 8 n = 0 := by
  unfold Ty.fault at h
  split at h
  · cases h
  · exact h
theorem Qo2 {s : JS} {n : Int} (hw : ∀ t ∈ s.l, t.wrong 8 n = 0) : ∀ {l : List Int} {ts : List Ty}, jfields s l = .ok ts → ∀ t ∈ ts, t.wrong 8 n = 0
  | [], ts, h => by rw [jfields] at h; cases h; simp
  | k :: l, ts, h => by
    rw [jfields] at h
    obtain ⟨t, h1, h⟩ := Qg h
    obtain ⟨us, h2, h⟩ := Qg h
    cases h
    intro u hu
    rcases List.mem_cons.1 hu with rfl | hu
    · exact hw _ (List.mem_of_getElem? (QtL h1).2)
    · exact Qo2 hw h2 u hu
theorem JInv.at {m : Module} {f : Fun} {s : JS} (hg : JInv m f s) {k kd : Int} {t : Ty} (h : jat s k kd = .ok t) : t.wrong 8 s.h.length = 0 ∧ 0 ≤ t.r ∧ t.r < s.h.length ∧ t ∈ s.l := by
  have h1 := Qez h
  have h2 := Qgv h1.2.2.2
  exact ⟨hg.wf _ (List.mem_of_getElem? h1.2.1), h2.1, h2.2, List.mem_of_getElem? h1.2.1⟩
theorem Qhq {m : Module} {f : Fun} {s : JS} {x : Ins} {t : Ty} {ts : List Ty} (hF : QF m.funcs.length x = 0) (e : x.op = 5) (hg : JInv m f s) (h1 : jat s x.a 2 = .ok t) (h2 : jfields s x.args = .ok ts) :
    (Ty.mk 3 t.r ts).wrong 8 s.h.length = 0 ∧ ((Ty.mk 3 t.r ts).fault s.h.length ≠ 0 ↔ 4 < (Ty.mk 3 t.r ts).depth 4) := by
  have h3 := hg.at h1
  have h4 := (Q6b hg.toJGood h2).1
  have h5 := QeA hF e
  have hw : (Ty.mk 3 t.r ts).wrong 8 s.h.length = 0 := Ty.wrong_iff.2 ⟨by omega, by omega, by omega, by omega, fun _ => by omega, Qo2 hg.wf h2⟩
  refine ⟨hw, ?_⟩
  have hd := Ty.depth_iff (Ty.mk 3 t.r ts) (most := 4) (by omega)
  unfold Ty.fault
  rw [hw]
  constructor
  · intro h
    split at h
    · rename_i hb
      exact Classical.byContradiction fun hn => by rw [hd.1 (by omega)] at hb; cases hb
    · exact absurd rfl h
  · intro h
    rw [if_pos]
    · decide
    · cases hb : (Ty.mk 3 t.r ts).deepB 4 with
      | false => rfl
      | true => have := hd.2 hb; omega
/-- What comes behind what an instruction makes. -/
def vAdd (s : JS) (x : Ins) (ts : List Ty) : Except Int JS := if 80 < s.l.length + ts.length then .error 2 else
  .ok ⟨if x.op = 3 then s.h ++ [true] else if x.op = 4 then (match s.l[x.a.toNat]? with | some t => s.h.set t.r.toNat false | none => s.h) else s.h, s.l ++ ts⟩
theorem Q49 {s : JS} {x : Ins} {t : Ty} (hn : s.l.length ≤ 80) (h3 : x.op ≠ 3) (h4 : x.op ≠ 4) : vAdd s x [t] = jput s t := by
  unfold vAdd jput
  rw [if_neg h3, if_neg h4]
  by_cases h : s.l.length = 80
  · rw [if_pos h, if_pos (by simp; omega)]
  · rw [if_neg h, if_neg (by simp; omega)]
theorem Qtq {s : JS} {x : Ins} (hn : s.l.length ≤ 80) (h3 : x.op ≠ 3) (h4 : x.op ≠ 4) : vAdd s x [] = .ok s := by
  unfold vAdd
  rw [if_neg h3, if_neg h4, if_neg (by simp; omega), List.append_nil]
theorem QI {α β γ : Type} (x : Except Int α) (f : α → Except Int β) (g : β → Except Int γ) : ebind (ebind x f) g = ebind x fun a => ebind (f a) g := by cases x <;> rfl
theorem QH {α β : Type} {x : Except Int α} {f g : α → Except Int β} (h : ∀ a, x = .ok a → f a = g a) : ebind x f = ebind x g := by
  cases x with
  | error e => rfl
  | ok a => exact h a rfl
theorem jins_rmk {m : Module} {f : Fun} {s : JS} {x : Ins} (hF : QF m.funcs.length x = 0) (hg : JInv m f s) : jins m f s x = ebind (rmk m f s x) (vAdd s x) := by
  have hop := Q4K hF
  have hn := hg.n
  rcases op_cases (op := x.op) (by omega) (by omega) with e | e | e | e | e | e | e | e | e | e | e | e | e | e
  · rw [Qey (by omega), rmk_1 (by omega), Q9 rfl, Q49 hn (by omega) (by omega)]
  · rw [QhR e, rmk_2 e, QI]; refine QH fun _ _ => ?_; rw [QI]; refine QH fun _ _ => ?_; rw [Q9 rfl, Q49 hn (by omega) (by omega)]
  · rw [QrH e, rmk_3 e]
    by_cases h : s.h.length = 16
    · rw [if_pos (.inl h), if_pos h, Qu rfl]
    · rw [if_neg h, Q9 rfl]
      unfold vAdd
      rw [if_pos e]
      by_cases h8 : s.l.length = 80
      · rw [if_pos (.inr h8), if_pos (by simp; omega)]
      · rw [if_neg (by omega), if_neg (by simp; omega)]
  · rw [Qo1 e, Qtz e, QI]
    refine QH fun t ht => ?_
    by_cases h : t.r < f.regs
    · rw [if_pos h, if_pos h, Qu rfl]
    · rw [if_neg h, if_neg h, Q9 rfl]
      unfold vAdd
      rw [if_neg (show ¬ x.op = 3 by omega), if_pos e, if_neg (by simp; omega), (Qez ht).2.1, List.append_nil]
  · rw [QrG e, QwX e, QI]; unfold Q7C
    refine QH fun t ht => ?_
    rw [QI]
    refine QH fun ts hts => ?_
    have := (Qhq hF e hg ht hts).2
    by_cases h : 4 < (Ty.mk 3 t.r ts).depth 4
    · rw [if_pos (this.2 h), if_pos h, Qu rfl]
    · rw [if_neg (fun hh => h (this.1 hh)), if_neg h, Q9 rfl, Q49 hn (by omega) (by omega)]
  · rw [QhQ e, rmk_6 e, QI]; refine QH fun _ _ => ?_; rw [QI]; refine QH fun _ _ => ?_; rw [Q9 rfl, Q49 hn (by omega) (by omega)]
  · rw [Q3i e, QvK e, QI]; refine QH fun _ _ => ?_; rw [QI]; refine QH fun u _ => ?_; rw [QI]; refine QH fun v _ => ?_
    by_cases h : u ≠ v
    · rw [if_pos h, if_pos h, Qu rfl]
    · rw [if_neg h, if_neg h, Q9 rfl, Qtq hn (by omega) (by omega)]
  · rw [QhP e, rmk_8 e, QI]; refine QH fun _ _ => ?_; rw [QI]; refine QH fun _ _ => ?_; rw [Q9 rfl, Q49 hn (by omega) (by omega)]
  · rw [QhO e, rmk_9 e, QI]; refine QH fun _ _ => ?_; rw [QI]; refine QH fun _ _ => ?_; rw [Q9 rfl, Q49 hn (by omega) (by omega)]
  · rw [Q93 e, Qx0 e, QI]; refine QH fun _ _ => ?_; rw [QI]; refine QH fun _ _ => ?_; rw [QI]; refine QH fun _ _ => ?_; rw [Q9 rfl, Qtq hn (by omega) (by omega)]
  · rw [QbR e, QwZ e, QI]; refine QH fun _ _ => ?_; rw [Q9 rfl, Q49 hn (by omega) (by omega)]
  · rw [Qey (by omega), rmk_1 (by omega), Q9 rfl, Q49 hn (by omega) (by omega)]
  · rw [QhT e, QwY e, QI]; refine QH fun _ _ => ?_; rw [Q9 rfl, Qtq hn (by omega) (by omega)]
  · rw [QhS e, rmk_14 e]; unfold Qf1 Qx5
    cases hgf : m.funcs[x.k.toNat]? with
    | none => rfl
    | some g =>
      dsimp only
      by_cases hr : (x.regs.length : Int) ≠ g.regs
      · rw [if_pos hr, if_pos hr]; rfl
      · rw [if_neg hr, if_neg hr, QI]; refine QH fun _ _ => ?_; rw [QI]; refine QH fun _ _ => ?_; rw [Q9 rfl]
        unfold vAdd
        rw [if_neg (show ¬ x.op = 3 by omega), if_neg (show ¬ x.op = 4 by omega), List.length_map]
theorem Q6a {s s' : JS} {t : Ty} {f : Fun} (hw : ∀ t ∈ s.l, t.wrong 8 s.h.length = 0) (hk : ∀ r : Int, 0 ≤ r → r < f.regs → hasB s.h r = true) (ht : t.wrong 8 s.h.length = 0) (h : jput s t = .ok s') :
    (∀ t ∈ s'.l, t.wrong 8 s'.h.length = 0) ∧ (∀ r : Int, 0 ≤ r → r < f.regs → hasB s'.h r = true) := by
  obtain ⟨h1, h2, h3⟩ := QtN h
  refine ⟨fun u hu => ?_, fun r => by rw [h2]; exact hk r⟩
  rw [h3] at hu
  rw [h2]
  rcases List.mem_append.1 hu with hu | hu
  · exact hw u hu
  · simp at hu; subst hu; exact ht
theorem Qrk (n : Int) : number.wrong 8 n = 0 := by unfold number; exact Ty.wrong_iff.2 ⟨by omega, by omega, by simp, by simp, by omega, by simp⟩
theorem hasB_app {h : List Bool} {r : Int} (hr : hasB h r = true) : hasB (h ++ [true]) r = true := by
  obtain ⟨h1, h2, h3⟩ := Q6H hr
  unfold hasB
  rw [List.getD_eq_getElem?_getD] at h3 ⊢
  rw [List.getElem?_append_left (by omega), h3, List.length_append]
  simp; omega
theorem QtZ {h : List Bool} {r k : Int} (hr : hasB h r = true) (hk : 0 ≤ k) (hne : k ≠ r) : hasB (h.set k.toNat false) r = true := by
  obtain ⟨h1, h2, h3⟩ := Q6H hr
  unfold hasB
  rw [List.getD_eq_getElem?_getD] at h3 ⊢
  rw [List.getElem?_set_ne (by omega), h3, List.length_set]
  simp; omega
theorem jins_inv {m : Module} {f : Fun} {s s' : JS} {x : Ins} (hM : m.fault.1 = 0) (hm : m.Short) (hg : JInv m f s) (hF : QF m.funcs.length x = 0) (h : jins m f s x = .ok s') : JInv m f s' := by
  have hG := QrF hm hg.toJGood hF h
  suffices hh : (∀ t ∈ s'.l, t.wrong 8 s'.h.length = 0) ∧ (∀ r : Int, 0 ≤ r → r < f.regs → hasB s'.h r = true) from ⟨hG, hh.1, hh.2⟩
  have hop := Q4K hF
  have hw := hg.wf
  have hk := hg.keep
  rcases op_cases (op := x.op) (by omega) (by omega) with e | e | e | e | e | e | e | e | e | e | e | e | e | e
  · rw [Qey (by omega)] at h; exact Q6a hw hk (Qrk _) h
  · rw [QhR e] at h; obtain ⟨_, _, h⟩ := Qg h; obtain ⟨_, _, h⟩ := Qg h; exact Q6a hw hk (Qrk _) h
  · rw [QrH e] at h
    split at h
    · cases h
    · cases h
      refine ⟨fun u hu => ?_, fun r h0 h1 => hasB_app (hk r h0 h1)⟩
      rw [List.length_append]
      rcases List.mem_append.1 hu with hu | hu
      · exact Ty.wrong_up (by simp; omega) u (hw u hu)
      · simp at hu; subst hu
        exact Ty.wrong_iff.2 ⟨by omega, by omega, by simp, by simp, fun _ => by simp; omega, by simp⟩
  · rw [Qo1 e] at h
    obtain ⟨t, h1, h⟩ := Qg h
    split at h
    · cases h
    · rename_i hlt
      cases h
      have := hg.at h1
      refine ⟨fun u hu => by rw [List.length_set]; exact hw u hu, fun r h0 h1 => QtZ (hk r h0 h1) (by omega) (by omega)⟩
  · rw [QrG e] at h; unfold Q7C at h
    obtain ⟨t, h1, h⟩ := Qg h; obtain ⟨ts, h2, h⟩ := Qg h
    split at h
    · cases h
    · exact Q6a hw hk (Qhq hF e hg h1 h2).1 h
  · rw [QhQ e] at h; obtain ⟨t, h1, h9⟩ := Qg h; obtain ⟨u, h2, h8⟩ := Qg h9
    have h3 := (hg.at h1).1
    clear h h9
    obtain ⟨k, r, l⟩ := t
    exact Q6a hw hk ((Ty.wrong_iff.1 h3).2.2.2.2.2 u (List.mem_of_getElem? (QrL h2))) h8
  · rw [Q3i e] at h; obtain ⟨_, _, h⟩ := Qg h; obtain ⟨_, _, h⟩ := Qg h; obtain ⟨_, _, h⟩ := Qg h
    split at h
    · cases h
    · cases h; exact ⟨hw, hk⟩
  · rw [QhP e] at h; obtain ⟨t, h1, h⟩ := Qg h; obtain ⟨_, _, h⟩ := Qg h
    have := hg.at h1
    exact Q6a hw hk (Ty.wrong_iff.2 ⟨by omega, by omega, by simp, by simp, fun _ => by omega, by simp⟩) h
  · rw [QhO e] at h; obtain ⟨_, _, h⟩ := Qg h; obtain ⟨_, _, h⟩ := Qg h; exact Q6a hw hk (Qrk _) h
  · rw [Q93 e] at h; obtain ⟨_, _, h⟩ := Qg h; obtain ⟨_, _, h⟩ := Qg h; obtain ⟨_, _, h⟩ := Qg h; cases h; exact ⟨hw, hk⟩
  · rw [QbR e] at h; obtain ⟨_, _, h⟩ := Qg h; exact Q6a hw hk (Qrk _) h
  · rw [Qey (by omega)] at h; exact Q6a hw hk (Qrk _) h
  · rw [QhT e] at h; obtain ⟨_, _, h⟩ := Qg h; cases h; exact ⟨hw, hk⟩
  · rw [QhS e] at h
    unfold Qf1 at h
    split at h
    · cases h
    · rename_i g hgf
      split at h
      · cases h
      · rename_i hrl
        obtain ⟨_, h1, h⟩ := Qg h; obtain ⟨_, _, h⟩ := Qg h
        split at h
        · cases h
        · cases h
          refine ⟨fun u hu => ?_, hk⟩
          rcases List.mem_append.1 hu with hu | hu
          · exact hw u hu
          · obtain ⟨t, ht, rfl⟩ := List.mem_map.1 hu
            have h2 := Ty.fault_wrong (Qew (Q5q (QaD hM hgf)).2.2.2.1 t ht)
            have hall := QrD h1
            rw [show g.regs = (x.regs.length : Int) by omega] at h2
            obtain ⟨v, h3, h4⟩ := Ty.ren_right (n := s.h.length) (f := x.regs) (fun i hi => by
              rw [List.getD_eq_getElem?_getD, List.getElem?_eq_getElem hi]
              exact Qgv (hall _ (List.getElem_mem hi))) t h2
            unfold renT
            rw [h3]
            exact h4
theorem jIns_inv {m : Module} {f : Fun} {s : JS} {x : Ins} (hM : m.fault.1 = 0) (hm : m.Short) (hg : JInv m f s) : JInv m f (jIns m f s x).2 := by
  by_cases h : (jIns m f s x).1 = 0
  · obtain ⟨h1, h2⟩ := Qxn h; exact jins_inv hM hm hg h1 h2
  · rw [Qxo h]; exact hg
theorem QvW {m : Module} (hm : m.Short) (hF : m.fault.1 = 0) {f b : Nat} {x : Fun} {y : Block} (hx : m.funcs[f]? = some x) (hy : x.blocks[b]? = some y) : JInv m x (Q2n y) := by
  have h1 := Q9l (Q95 hF hx hy).1
  have h2 := Q5q (QaD hF hx)
  have hl : (Q2n y).h.length = y.regs.toNat := by unfold Q2n; simp only [List.length_replicate]; omega
  refine ⟨QhY hm hF hx hy, fun t ht => ?_, fun r h0 hr => ?_⟩
  · rw [hl, Int.toNat_of_nonneg (by omega)]
    exact Ty.fault_wrong (Qew h1.2.2.1 t ht)
  · unfold hasB
    rw [hl]
    unfold Q2n
    simp only
    rw [List.getD_eq_getElem?_getD, List.getElem?_replicate, if_pos (by omega)]
    simp; omega
/-! ### What is left held -/
theorem Qo5 {h : List Bool} : ∀ {n : Nat}, (∀ i : Nat, i < n → h.getD i false = true) → Q1Q h n = upTo n
  | 0, _ => by unfold Q1Q upTo; rfl
  | n + 1, hk => by
    rw [Q5m, if_pos (hk n (by omega)), Qo5 (fun i hi => hk i (by omega))]
    unfold upTo
    rw [List.range_succ, List.map_append]; rfl
theorem Qi0 {h : List Bool} {n : Nat} : ∀ k : Nat, ∃ mo, Q1Q h (n + k) = Q1Q h n ++ mo ∧ ∀ r ∈ mo, (n : Int) ≤ r
  | 0 => ⟨[], by simp, by simp⟩
  | k + 1 => by
    obtain ⟨mo, h1, h2⟩ := Qi0 (h := h) (n := n) k
    refine ⟨mo ++ (if h.getD (n + k) false = true then [((n + k : Nat) : Int)] else []), ?_, fun r hr => ?_⟩
    · rw [show n + (k + 1) = n + k + 1 by omega, Q5m, h1, List.append_assoc]
    · rcases List.mem_append.1 hr with hr | hr
      · exact h2 r hr
      · split at hr
        · simp at hr; omega
        · cases hr
theorem Qvl {m : Module} {f : Fun} {s : JS} (hg : JInv m f s) (hf : 0 ≤ f.regs) : (f.regs < (Q21 s.h).length ↔ ∃ r ∈ Q21 s.h, f.regs ≤ r) := by
  have hle : f.regs ≤ s.h.length := by
    by_cases h : f.regs = 0
    · omega
    · have := Qgv (hg.keep (f.regs - 1) (by omega) (by omega)); omega
  have h1 : Q1Q s.h f.regs.toNat = upTo f.regs.toNat := Qo5 fun i hi => (Q6H (hg.keep i (by omega) (by omega))).2.2
  obtain ⟨mo, h2, h3⟩ := Qi0 (h := s.h) (n := f.regs.toNat) (s.h.length - f.regs.toNat)
  rw [show f.regs.toNat + (s.h.length - f.regs.toNat) = s.h.length by omega, h1] at h2
  have hul : (upTo f.regs.toNat).length = f.regs.toNat := by unfold upTo; simp
  unfold Q21
  rw [h2, List.length_append, hul]
  constructor
  · intro h
    cases mo with
    | nil => simp at h; omega
    | cons r mo => exact ⟨r, by simp, by have := h3 r (by simp); omega⟩
  · rintro ⟨r, hr, h⟩
    rcases List.mem_append.1 hr with hr | hr
    · unfold upTo at hr
      obtain ⟨i, hi, rfl⟩ := List.mem_map.1 hr
      have := List.mem_range.1 hi
      simp only [Int.ofNat_eq_natCast] at h
      omega
    · have : 0 < mo.length := List.length_pos_of_mem hr
      omega
/-! ### By what it makes -/
theorem rmk_nz (m : Module) (f : Fun) (s : JS) (x : Ins) : NZ (rmk m f s x) := by
  unfold rmk Qx5
  repeat' (first | exact .o _ | exact .e (by decide) | refine .bind (Q3p _ _ _) fun _ _ => ?_ | refine .bind (QhV _ _ _) fun _ _ => ?_ | refine .bind (QrM _ _) fun _ _ => ?_ | refine .bind (QhH _ _) fun _ _ => ?_ | refine .bind (QbS _ _) fun _ _ => ?_ | refine .bind (QoM _ _ _) fun _ _ => ?_ | refine .bind (Qar _ _ _ _) fun _ _ => ?_ | refine .ite ?_ ?_ | split)
section
variable {m : Module} {f : Fun} {s : JS} {x : Ins} {ts : List Ty}
theorem jIns_f (h : QF m.funcs.length x ≠ 0) : jIns m f s x = (QF m.funcs.length x, s) := by unfold jIns; rw [if_pos h]
theorem QrO (hF : QF m.funcs.length x = 0) (hg : JInv m f s) : jIns m f s x = match ebind (rmk m f s x) (vAdd s x) with
    | .error c => (c, s)
    | .ok s' => (0, s') := by
  unfold jIns
  rw [if_neg (fun h => h hF), jins_rmk hF hg]
  cases ebind (rmk m f s x) (vAdd s x) <;> rfl
theorem jIns_e (hF : QF m.funcs.length x = 0) (hg : JInv m f s) (h : QM (rmk m f s x) ≠ 0) : jIns m f s x = (QM (rmk m f s x), s) := by
  rw [QrO hF hg, Qu (Qgx h)]
theorem jIns_m (hF : QF m.funcs.length x = 0) (hg : JInv m f s) (h : rmk m f s x = .ok ts) (hl : 80 < s.l.length + ts.length) : jIns m f s x = (2, s) := by
  rw [QrO hF hg, Q9 h]; unfold vAdd; rw [if_pos hl]
theorem jIns_o3 (hF : QF m.funcs.length x = 0) (hg : JInv m f s) (h : rmk m f s x = .ok ts) (hl : ¬ 80 < s.l.length + ts.length) (h3 : x.op = 3) : jIns m f s x = (0, ⟨s.h ++ [true], s.l ++ ts⟩) := by
  rw [QrO hF hg, Q9 h]; unfold vAdd; rw [if_neg hl, if_pos h3]
theorem jIns_o4 (hF : QF m.funcs.length x = 0) (hg : JInv m f s) (h : rmk m f s x = .ok ts) (hl : ¬ 80 < s.l.length + ts.length) (h4 : x.op = 4) {t : Ty} (ht : s.l[x.a.toNat]? = some t) : jIns m f s x = (0, ⟨s.h.set t.r.toNat false, s.l ++ ts⟩) := by
  rw [QrO hF hg, Q9 h]; unfold vAdd; rw [if_neg hl, if_neg (show ¬ x.op = 3 by omega), if_pos h4, ht]
theorem jIns_o (hF : QF m.funcs.length x = 0) (hg : JInv m f s) (h : rmk m f s x = .ok ts) (hl : ¬ 80 < s.l.length + ts.length) (h3 : x.op ≠ 3) (h4 : x.op ≠ 4) : jIns m f s x = (0, ⟨s.h, s.l ++ ts⟩) := by
  rw [QrO hF hg, Q9 h]; unfold vAdd; rw [if_neg hl, if_neg h3, if_neg h4]
theorem rmk_3ok (h : rmk m f s x = .ok ts) (h3 : x.op = 3) : s.h.length ≠ 16 := by
  rw [rmk_3 h3] at h
  split at h
  · cases h
  · assumption
theorem rmk_4ok (h : rmk m f s x = .ok ts) (h4 : x.op = 4) : ∃ t, 0 ≤ x.a ∧ x.a < s.l.length ∧ s.l[x.a.toNat]? = some t ∧ 0 ≤ t.r ∧ t.r < s.h.length := by
  rw [Qtz h4] at h
  obtain ⟨t, h1, _⟩ := Qg h
  obtain ⟨h2, h3, h5, h6⟩ := Qez h1
  have := (List.getElem?_eq_some_iff.1 h3).1
  have := Qgv h6
  exact ⟨t, h2, by omega, h3, this.1, this.2⟩
end
theorem jEnd_f {f : Fun} {s : JS} {e : Tail} (h : Q1P f.blocks.length e ≠ 0) : jEnd f s e = Q1P f.blocks.length e := by unfold jEnd; rw [if_pos h]
theorem jEnd_g {f : Fun} {s : JS} {e : Tail} (h : Q1P f.blocks.length e = 0) : jEnd f s e = QM (jend f s e) := by
  unfold jEnd QM; rw [if_neg (fun hn => hn h)]; cases jend f s e <;> rfl
/-! ### A whole module -/
theorem mod_fb {m : Module} {f : Nat} {x : Fun} (hF : m.fault.1 = 0) (hx : m.funcs[f]? = some x) : ∀ b ∈ x.blocks, x.regs ≤ b.regs := by
  intro b hb
  obtain ⟨k, hk⟩ := List.mem_iff_getElem?.1 hb
  exact (Q9l (Q95 hF hx hk).1).1
def Q1d (m : Module) (f : Fun) (fi bi : Nat) (e : Tail) : Nat → JS → List Ins → Flt
  | _, s, [] => mkF (jEnd f s e) (Qb2 fi bi)
  | i, s, x :: l => if (jIns m f s x).1 ≠ 0 then ((jIns m f s x).1, Q7v fi bi i) else Q1d m f fi bi e (i + 1) (jIns m f s x).2 l
def QK (m : Module) (f : Fun) (fi : Nat) : Nat → List Block → Flt
  | _, [] => (0, 0)
  | b, y :: l => orF (Q1d m f fi b y.fin 0 (Q2n y) y.code) (QK m f fi (b + 1) l)
def Q2b (m : Module) : Nat → List Fun → Flt
  | _, [] => (0, 0)
  | f, x :: l => orF (QK m x f 0 x.blocks) (Q2b m (f + 1) l)
/-- verify.Check -/
def Module.runs (m : Module) : Flt := orF m.fault (Q2b m 0 m.funcs)
theorem QcQ {m : Module} {f : Fun} {fi bi : Nat} {e : Tail} : ∀ {l : List Ins} {i : Nat} {s : JS}, (Q1d m f fi bi e i s l).1 = 0 → Q1d m f fi bi e i s l = (0, 0)
  | [], _, _, h => by rw [Q1d] at h ⊢; exact Qbo _ _ h
  | x :: l, i, s, h => by
    rw [Q1d] at h ⊢
    split at h
    · rename_i hn; exact absurd h hn
    · rename_i hn; rw [if_neg hn]; exact QcQ h
theorem Q5t {m : Module} {f : Fun} {fi : Nat} : ∀ {l : List Block} {b : Nat}, (QK m f fi b l).1 = 0 → QK m f fi b l = (0, 0)
  | [], _, _ => by rw [QK]
  | x :: l, b, h => by rw [QK] at h ⊢; exact Qlp QcQ Q5t h
theorem Qi3 {m : Module} : ∀ {l : List Fun} {f : Nat}, (Q2b m f l).1 = 0 → Q2b m f l = (0, 0)
  | [], _, _ => by rw [Q2b]
  | x :: l, b, h => by rw [Q2b] at h ⊢; exact Qlp Q5t Qi3 h
section
variable {m : Module} {f : Fun} {fi bi i b : Nat} {e : Tail} {s : JS} {x : Ins} {l : List Ins} {y : Block} {k : List Block}
theorem Qb1 (h : (jIns m f s x).1 = 0) : Q1d m f fi bi e i s (x :: l) = Q1d m f fi bi e (i + 1) (jIns m f s x).2 l := by rw [Q1d, if_neg (fun hn => hn h)]
theorem Qb0 (h : (jIns m f s x).1 ≠ 0) : Q1d m f fi bi e i s (x :: l) = ((jIns m f s x).1, Q7v fi bi i) := by rw [Q1d, if_pos h]
theorem QlL (h : (Q1d m f fi b y.fin 0 (Q2n y) y.code).1 = 0) : QK m f fi b (y :: k) = QK m f fi (b + 1) k := by
  rw [QK, QcQ h]; exact Q23 Q5t
theorem QlK (h : (Q1d m f fi b y.fin 0 (Q2n y) y.code).1 ≠ 0) : QK m f fi b (y :: k) = Q1d m f fi b y.fin 0 (Q2n y) y.code := by
  rw [QK, Q4u h]
theorem QrV {k : List Fun} (h : (QK m f fi 0 f.blocks).1 = 0) : Q2b m fi (f :: k) = Q2b m (fi + 1) k := by
  rw [Q2b, Q5t h]; exact Q23 Qi3
theorem QrU {k : List Fun} (h : (QK m f fi 0 f.blocks).1 ≠ 0) : Q2b m fi (f :: k) = QK m f fi 0 f.blocks := by
  rw [Q2b, Q4u h]
theorem QeE (h : l.length ≤ i) : Q1d m f fi bi e i s (l.drop i) = mkF (jEnd f s e) (Qb2 fi bi) := by rw [List.drop_of_length_le h, Q1d]
theorem Qtx {E : Flt} {q : Nat} (hd : m.runs = Q2b m q (m.funcs.drop q)) (hf : m.funcs[q]? = some f) (hdb : QK m f q 0 f.blocks = QK m f q b (f.blocks.drop b)) (hy : f.blocks[b]? = some y) (h0 : Q1d m f q b y.fin 0 (Q2n y) y.code = E) (hE : E.1 ≠ 0) : m.runs = E := by
  have h1 : QK m f q 0 f.blocks = E := by rw [hdb, Q7 hy, QlK (by rw [h0]; exact hE), h0]
  rw [hd, Q7 hf, QrU (by rw [h1]; exact hE), h1]
theorem runs_b {q : Nat} (hdb : QK m f q 0 f.blocks = QK m f q b (f.blocks.drop b)) (hy : f.blocks[b]? = some y) (h0 : (Q1d m f q b y.fin 0 (Q2n y) y.code).1 = 0) : QK m f q 0 f.blocks = QK m f q (b + 1) (f.blocks.drop (b + 1)) := by
  rw [hdb, Q7 hy, QlL h0]
theorem runs_f {q : Nat} (hd : m.runs = Q2b m q (m.funcs.drop q)) (hf : m.funcs[q]? = some f) (hdb : QK m f q 0 f.blocks = QK m f q b (f.blocks.drop b)) (hb : f.blocks.length ≤ b) : m.runs = Q2b m (q + 1) (m.funcs.drop (q + 1)) := by
  rw [hd, Q7 hf, QrV (by rw [hdb, List.drop_of_length_le hb, QK])]
theorem runs_z {q : Nat} (hd : m.runs = Q2b m q (m.funcs.drop q)) (hq : m.funcs.length ≤ q) : m.runs = (0, 0) := by
  rw [hd, List.drop_of_length_le hq, Q2b]
theorem QwQ (h : m.fault.1 ≠ 0) : m.runs = m.fault := by unfold Module.runs; exact Q4u h
theorem QwR (h : m.fault.1 = 0) : m.runs = Q2b m 0 m.funcs := by unfold Module.runs; rw [Module.fault_z h]; exact Q23 Qi3
end
end Go.Lir
namespace Go.Proofs.YtanlkfeogoganaaGreat
open Go.Lir
set_option maxHeartbeats 1000000
attribute [local irreducible] LC.wp Q5 Q11 Q1f retQ Q2h LO.wp QD Calls
set_option linter.unusedSimpArgs false
set_option linter.unusedVariables false
attribute [local irreducible] hasB Q21 Q1N Q1Q Q3S upTo Q1b Q24 rmk jIns jEnd Module.fault Q7v Qb2
variable {cx : Cx} {w : World} {L : List Res} {j : JP} {h : List Bool} {vl : Value} {css : List (List Value)} {i : Nat} {m : Module}
theorem jNewOk_c {f b : Nat} {fn : Fun} {y : Block} {cs : List Value} (hm : m.Short) (hF : m.fault.1 = 0) (hfn : m.funcs[f]? = some fn) (hy : fn.blocks[b]? = some y) (hx : modR.at cx cs m) (hS : St cx w L) :
    Rets Tryz.prog Q3W [.agg ⟨cs⟩, .int .i64 f, .int .i64 b] w fun u w' => ∃ (j : JP) (c' : Cx) (vl : Value) (css : List (List Value)), u = .tuple #[.pointer (some ⟨j.sp, 0, none⟩), fltV (0, 0)] ∧ cx.Le c' ∧ j.Fits c' m ∧ j.f = fn ∧ tyR.ls c' css y.params ∧ St c' w' (j.res (Q2n y).h vl css :: L) := by
  refine (jNew_c hm hx hS).mono ?_
  have h1 := (List.getElem?_eq_some_iff.1 hfn).1
  have h2 := (List.getElem?_eq_some_iff.1 hy).1
  rintro u w' (⟨h0, -⟩ | ⟨-, h9, -⟩ | ⟨fn', y', j, c2, vl, css, -, -, -, hf', hy', rfl, hle, hj, jf, hls, hS⟩)
  · exact absurd hF h0
  · exfalso
    rcases h9 with (h | h) | ⟨fn', hf', h⟩
    · omega
    · omega
    · rw [Int.toNat_natCast] at hf'
      obtain rfl : fn = fn' := Option.some.inj (hfn.symm.trans hf')
      omega
  · rw [Int.toNat_natCast] at hf' hy'
    obtain rfl : fn = fn' := Option.some.inj (hfn.symm.trans hf')
    obtain rfl : y = y' := Option.some.inj (hy.symm.trans hy')
    exact ⟨j, c2, vl, css, rfl, hle, hj, jf, hls, hS⟩
theorem vblock_c {q b : Nat} {fn : Fun} {y : Block} {cs : List Value} (hm : m.Short) (hF : m.fault.1 = 0) (hfn : m.funcs[q]? = some fn) (hy : fn.blocks[b]? = some y) (hx : modR.at cx cs m) (hS : St cx w L) :
    Rets Tryz.prog Q2S [.agg ⟨cs⟩, .int .i64 q, .int .i64 b] w fun u w' => u = fltV (Q1d m fn q b y.fin 0 (Q2n y) y.code) ∧ St cx w' L := by
  have hx' := hx
  obtain ⟨vf, rfl, hf1⟩ := Q1U hx
  have hle := St.refl hS
  have hsf := hm.2 fn (List.mem_of_getElem? hfn)
  have hfb := mod_fb hF hfn
  have hfh := Q5q (QaD hF hfn)
  have hg0 := QhY hm hF hfn hy
  have hlc := (hsf.2.2.2 y (List.mem_of_getElem? hy)).2.1
  have hq1 := (List.getElem?_eq_some_iff.1 hfn).1
  have hq2 := hm.1
  have hb1 := (List.getElem?_eq_some_iff.1 hy).1
  all_goals refine QgL ?_
  all_goals (unfold verify_block_lc; refine Q0 ?_; refine Q2 ?_; refine zb hS ?_; intro p3 w1 hS; refine Qb hS ?_; intro p6 w1 hS; refine zn ?_; refine Q0 ?_; refine Q2 ?_; refine zv hS ?_; refine zm ?_; refine zm ?_)
  all_goals (refine zR3 (c := jNewOk_c hm hF hfn hy hx' hS) (h := ?_); rintro v1 w1 ⟨j, c2, vl, css, rfl, hle2, hj, hjf, hls, hS⟩; (try have hle := hle.trans hle2); (try have hf1 := hf1.up hle2); unfold fltV; subst hjf)
  all_goals (refine zm ?_; refine Q47 rfl rfl ?_; refine Q47 rfl rfl ?_; refine Qb hS ?_; intro p8 w1 hS; refine zm ?_; refine zsn hS ?_; intro w1 hS; have hS := hS.ns; refine zn ?_; refine Q0 ?_; refine Q2 ?_; refine Q1 rfl ?_; refine zl hS ?_; refine zm ?_; refine zi ?_; intro b1 o1 cs1 x1 hat1 hx1 he1; obtain ⟨vp1, vr1, vb1, rfl, hp1, hr1, hb1⟩ := QO he1; obtain rfl : j.f = x1 := Option.some.inj (hfn.symm.trans hx1); (first | refine Q1 rfl ?_ | refine Q12 rfl ?_); (first | (refine zl hS ?_) | (refine zlk hS ?_) | (refine zlj hS ?_)); refine zm ?_; refine zi ?_; intro b2 o2 cs2 x2 hat2 hx2 he2; obtain ⟨vp2, vc2, ve21, ve22, ve23, ve24, ve25, rfl, hp2, hc2, he21, he22, he23, he24, he25⟩ := Q1c he2; (first | (refine zv hS ?_) | (refine zvk hS ?_)); refine Qb hS ?_; intro p9 w1 hS; refine zsn hS ?_; intro w1 hS; have hS := hS.ns; refine zn ?_; obtain rfl : y = x2 := Option.some.inj (hy.symm.trans hx2); refine Q0 ?_; refine Q0 ?_; refine Q2 ?_; refine Q1 rfl ?_; refine zl hS ?_; refine zL ?_)
  all_goals (refine zm ?_; refine zn ?_; refine Qa ?_)
  refine zo [1, 2, 6, 7, 9, 31, 32] (fun A ρ' w' => ∃ (k0 : Cx) (i : Nat) (s : JS) (vl : Value) (css : List (List Value)), Has ρ' A ∧ Has ρ' [(33, .int .i64 i)] ∧ (c2.Le k0) ∧ (i ≤ y.code.length) ∧ (Q1d m j.f q b y.fin 0 (Q2n y) y.code = Q1d m j.f q b y.fin i s (y.code.drop i)) ∧ (j.Fits k0 m) ∧ (tyR.ls k0 css s.l) ∧ (JGood s) ∧ St k0 w' (blk p9 79 [.int .i64 y.regs, vp2, vc2, .int .i64 y.fin.op, .int .i64 y.fin.a, .int .i64 y.fin.yes.block, ve21, ve22, .int .i64 y.fin.no.block, ve23, ve24, ve25] :: j.res s.h vl css :: blk p6 30 [.int .i64 0, .int .i64 0] :: L)) (fun ρ' _ => (y.code.length - iv (ρ' 33)).toNat) ?_ ?_
  · exact ⟨c2, 0, Q2n y, vl, css, zh, zh, St.refl hS, (by omega), by rfl, hj, hls, hg0, hS.sp⟩
  rintro ρ w1 ⟨k0, i, s, vl, css, hA, hρ, hle2, hi, hdi, hj, hls, hg, hS⟩; obtain ⟨ρ, rfl⟩ := env2 hA hρ; have hL0 := hle2; (try have hle := hle.trans hle2); (try have hp1 := hp1.up hle2); (try have hr1 := hr1.up hle2); (try have hb1 := hb1.up hle2); (try have hp2 := hp2.up hle2); (try have hc2 := hc2.up hle2); (try have he21 := he21.up hle2); (try have he22 := he22.up hle2); (try have he23 := he23.up hle2); (try have he24 := he24.up hle2); (try have he25 := he25.up hle2); (try have he1 := he1.up hle2); (try have he2 := he2.up hle2); (try have hf1 := hf1.up hle2)
  unfold Q5I
  all_goals (refine Q0 ?_; refine Q2 ?_; refine Qr rfl rfl ?_; refine zn ?_; refine Q0 ?_)
  refine Qn rfl (fun hc => ?_) (fun hc => ?_)
  · skip
    all_goals (refine zsk ?_; refine Q0 ?_; refine Qa ?_; refine Q0 ?_; refine Q2 ?_; refine zm ?_; refine zi ?_; intro b3 o3 cs3 x3 hat3 hx3 he3; obtain ⟨vr3, va3, rfl, hr3, ha3⟩ := Q1h he3; (first | (refine zv hS ?_) | (refine zvk hS ?_)); refine Qb hS ?_; intro p11 w1 hS; refine zm ?_; refine zsn hS ?_; intro w1 hS; have hS := hS.ns; refine zn ?_; refine Q0 ?_; refine Q2 ?_; refine zm ?_; refine zv hS ?_)
    all_goals (refine zR2 (c := jIns_c (s := s) (x := x3) hm hg.n hg.h hj he3 hls hS fd) (h := ?_); rintro v1 w1 ⟨rfl, c4, vl4, css4, hle2, hls4, hS⟩; have hS := hS.ns; (try have hle := hle.trans hle2); (try have hL0 := hL0.trans hle2); (try have hp1 := hp1.up hle2); (try have hr1 := hr1.up hle2); (try have hb1 := hb1.up hle2); (try have hp2 := hp2.up hle2); (try have hc2 := hc2.up hle2); (try have he21 := he21.up hle2); (try have he22 := he22.up hle2); (try have he23 := he23.up hle2); (try have he24 := he24.up hle2); (try have he25 := he25.up hle2); (try have hr3 := hr3.up hle2); (try have ha3 := ha3.up hle2); (try have he1 := he1.up hle2); (try have he2 := he2.up hle2); (try have he3 := he3.up hle2); (try have hls := hls.up hle2); (try have hf1 := hf1.up hle2); have hj := hj.up hle2; have hg1 := Qxp (f := j.f) (x := x3) hm hg; obtain ⟨s1, hs1⟩ : ∃ s1, (jIns m j.f s x3).2 = s1 := ⟨_, rfl⟩; rw [hs1] at hls4 hS hg1)
    all_goals (refine zm ?_; refine zn ?_; refine Q0 ?_; refine Q2 ?_; refine zm ?_)
    all_goals (first | (refine QQ ?_) | (refine QR ?_) | (refine Qm rfl rfl (fun hc => ?_) (fun hc => ?_)))
    all_goals (refine zn ?_)
    all_goals
      first
      | (refine Q3 rfl ?_ -- Q2S c1
         all_goals (refine Q0 ?_; refine Q2 ?_; refine zm ?_; refine zm ?_; refine zm ?_; refine zm ?_; refine zR3 (c := Qvi q b i (by omega) (by omega) (by omega) hS) (h := ?_); rintro v1 w1 ⟨rfl, hS⟩; refine zb2 [_, _] ?_; refine zsn hS ?_; intro w1 hS; have hS := hS.ns; refine zn ?_; have hJ : Q1d m j.f q b y.fin 0 (Q2n y) y.code = ((jIns m j.f s x3).1, Q7v q b i) := (by rw [hdi, Q7 hx3, Qb0 (by omega)]); refine zr ?_; refine Q1e vw (Qc (n := 2) (by kernel_rfl) (by kernel_rfl) (hS.blkAt fd) (by rfl) (by rfl)) ?_)
         all_goals (exact ⟨_, rfl, by rw [hJ]; rfl, St.weak hS.sp hle⟩))
      | (refine Q4 rfl ?_ -- Q2S c1
         all_goals refine zsk ?_)
    all_goals (refine Q2 ?_; refine zad ?_; refine zm ?_; refine zn ?_; exact ⟨⟨_, i + 1, s1, vl4, css4, zh, zh, hL0, (by omega), by rw [hdi, Q7 hx3, Qb1 (by omega), hs1], hj, hls4, hg1, hS.sp⟩, Qo (by omega)⟩)
  · skip
    all_goals (refine zex ?_; refine Q0 ?_; refine Q0 ?_; refine Q2 ?_; refine zm ?_; refine Q1 rfl ?_; refine zv hS ?_; refine zR2 (c := jEnd_c (s := s) (x := y.fin) hsf hfb (by omega) hg.h hj ⟨_, _, _, _, _, rfl, he21, he22, he23, he24, he25⟩ hls hS fd) (h := ?_); rintro v1 w1 ⟨rfl, hS⟩; have hde := QeE (m := m) (f := j.f) (fi := q) (bi := b) (e := y.fin) (s := s) (i := i) (l := y.code) (by omega); refine zm ?_; refine zn ?_; refine Q0 ?_; refine Q2 ?_; refine zm ?_)
    all_goals (first | (refine QQ ?_) | (refine QR ?_) | (refine Qm rfl rfl (fun hc => ?_) (fun hc => ?_)))
    all_goals (refine zn ?_)
    all_goals
      first
      | (refine Q3 rfl ?_ -- Q2S c2
         all_goals (refine Q0 ?_; refine Q2 ?_; refine zm ?_; refine zm ?_; refine zm ?_; refine zR2 (c := Qvj q b (by omega) (by omega) hS) (h := ?_); rintro v1 w1 ⟨rfl, hS⟩; refine zb2 [_, _] ?_; refine zsn hS ?_; intro w1 hS; have hS := hS.ns; refine zn ?_; have hJ := hdi.trans (hde.trans (Q6P (by omega))); refine zr ?_; refine Q1e vw (Qc (n := 2) (by kernel_rfl) (by kernel_rfl) (hS.blkAt fd) (by rfl) (by rfl)) ?_)
         all_goals (exact ⟨_, rfl, by rw [hJ]; rfl, St.weak hS.sp hle⟩))
      | (refine Q4 rfl ?_ -- Q2S c2
         all_goals refine zsk ?_)
    all_goals (refine Q0 ?_; refine Q2 ?_; refine zb0 [_, _] ?_; refine zsn hS ?_; intro w1 hS; have hS := hS.ns; refine zn ?_; have hJ := hdi.trans (hde.trans (Qbo _ _ (by rw [Q2a]; omega))); refine zr ?_; refine Q1e vw (Qc (n := 2) (by kernel_rfl) (by kernel_rfl) (hS.blkAt fd) (by rfl) (by rfl)) ?_; exact ⟨_, rfl, by rw [hJ]; rfl, St.weak hS.sp hle⟩)
theorem Qoi {cs : List Value} (hm : m.Short) (hx : modR.at cx cs m) (hS : St cx w L) :
    Rets Tryz.prog Q2T [.agg ⟨cs⟩] w fun u w' => u = fltV m.runs ∧ St cx w' L := by
  have hx' := hx
  obtain ⟨vf, rfl, hf1⟩ := Q1U hx
  have hlf := hf1.len
  all_goals refine QgW ?_
  all_goals (unfold verify_Check_lc; refine Q0 ?_; refine Q2 ?_; refine zb hS ?_; intro p1 w1 hS; refine Qb hS ?_; intro p2 w1 hS; refine zn ?_; refine Q0 ?_; refine Q0 ?_; refine Q2 ?_; refine zv hS ?_; refine zR1 (c := Qvh hm hx' hS) (h := ?_); rintro v1 w1 ⟨rfl, hS⟩; unfold fltV; refine Qb hS ?_; intro p3 w1 hS; refine zsn hS ?_; intro w1 hS; have hS := hS.ns; refine zn ?_; refine Q0 ?_; refine Q2 ?_; refine Q1 rfl ?_; refine zl hS ?_)
  all_goals (first | (refine QQ ?_) | (refine QR ?_) | (refine Qm rfl rfl (fun hc => ?_) (fun hc => ?_)))
  all_goals (refine zn ?_)
  all_goals
    first
    | (refine Q3 rfl ?_ -- Q2T c0
       all_goals (refine Q0 ?_; refine Q2 ?_; refine zv hS ?_; refine zsn hS ?_; intro w1 hS; have hS := hS.ns; refine zn ?_; have hJ := QwQ (m := m) (by omega); refine zr ?_; refine Q1e vw (Qc (n := 2) (by kernel_rfl) (by kernel_rfl) (hS.blkAt fd) (by rfl) (by rfl)) ?_)
       all_goals (exact ⟨_, rfl, by rw [hJ]; rfl, hS.sp⟩))
    | (refine Q4 rfl ?_ -- Q2T c0
       all_goals refine zsk ?_)
  all_goals (refine Q0 ?_; refine Q0 ?_; have hF : m.fault.1 = 0 := (by omega); have hr0 := QwR hF; have hlf8 := hm.1; refine Q2 ?_; refine Q1 rfl ?_; refine zl hS ?_; refine zL ?_; refine zm ?_; refine zn ?_; refine Qa ?_)
  refine zoL hS [1, 2, 15, 16] (fun A LL ρ' w' => ∃ (q : Nat), Has ρ' A ∧ Has ρ' [(17, .int .i64 q)] ∧ (q ≤ m.funcs.length) ∧ (m.runs = Q2b m q (m.funcs.drop q)) ∧ St cx w' (LL)) (fun ρ' _ => (m.funcs.length - iv (ρ' 17)).toNat) ?_ ?_
  · exact ⟨0, zh, zh, (by omega), by rw [hr0]; rfl, hS.sp⟩
  rintro ρ w1 ⟨q, hA, hρ, hq, hd, hS⟩; obtain ⟨ρ, rfl⟩ := env2 hA hρ
  unfold Q5K
  all_goals (refine Q0 ?_; refine Q2 ?_; refine Qr rfl rfl ?_; refine zn ?_; refine Q0 ?_)
  refine Qn rfl (fun hc => ?_) (fun hc => ?_)
  · skip
    all_goals (refine zsk ?_; refine Q0 ?_; refine Qa ?_; refine Q0 ?_; refine Q2 ?_; refine zm ?_; refine zi ?_; intro b1 o1 cs1 x1 hat1 hx1 he1; obtain ⟨vp1, vr1, vb1, rfl, hp1, hr1, hb1⟩ := QO he1; (first | (refine zv hS ?_) | (refine zvk hS ?_)); refine Qb hS ?_; intro p5 w1 hS; refine zm ?_; refine zsn hS ?_; intro w1 hS; have hS := hS.ns; refine zn ?_; have hsf := hm.2 x1 (List.mem_of_getElem? hx1); have hbl := hsf.2.2.1; refine Q0 ?_; refine Q2 ?_; refine Q1 rfl ?_; refine zl hS ?_; refine zL ?_; refine zm ?_; refine zn ?_; refine Qa ?_)
    refine zoL hS [1, 2, 4, 15, 16, 17, 24] (fun A LL ρ' w' => ∃ (b : Nat), Has ρ' A ∧ Has ρ' [(25, .int .i64 b)] ∧ (b ≤ x1.blocks.length) ∧ (QK m x1 q 0 x1.blocks = QK m x1 q b (x1.blocks.drop b)) ∧ St cx w' (LL)) (fun ρ' _ => (x1.blocks.length - iv (ρ' 25)).toNat) ?_ ?_
    · exact ⟨0, zh, zh, (by omega), by rfl, hS.sp⟩
    rintro ρ w1 ⟨b, hA, hρ, hb, hdb, hS⟩; obtain ⟨ρ, rfl⟩ := env2 hA hρ
    unfold Q5J
    all_goals (refine Q0 ?_; refine Q2 ?_; refine Qr rfl rfl ?_; refine zn ?_; refine Q0 ?_)
    refine Qn rfl (fun hc => ?_) (fun hc => ?_)
    · skip
      all_goals (refine zsk ?_; refine Q0 ?_; refine Qa ?_; refine Q0 ?_; obtain ⟨y, hy⟩ : ∃ y, x1.blocks[b]? = some y := ⟨_, List.getElem?_eq_getElem (by omega)⟩; refine Q2 ?_; refine zm ?_; refine zm ?_; refine zn ?_; refine Q0 ?_; refine Q2 ?_; refine zv hS ?_; refine zm ?_; refine zm ?_; refine zR3 (c := vblock_c hm hF hx1 hy hx' hS) (h := ?_); rintro v1 w1 ⟨rfl, hS⟩; unfold fltV; refine Qb hS ?_; intro p7 w1 hS; refine zsn hS ?_; intro w1 hS; have hS := hS.ns; refine zn ?_; refine Q0 ?_; refine Q2 ?_; refine Q1 rfl ?_; refine zl hS ?_)
      all_goals (first | (refine QQ ?_) | (refine QR ?_) | (refine Qm rfl rfl (fun hc => ?_) (fun hc => ?_)))
      all_goals (refine zn ?_)
      all_goals
        first
        | (refine Q3 rfl ?_ -- Q2T c3
           all_goals (refine Q0 ?_; refine Q2 ?_; refine zv hS ?_; refine zsn hS ?_; intro w1 hS; have hS := hS.ns; refine zn ?_; have hJ := Qtx hd hx1 hdb hy rfl (by omega); refine zr ?_; refine Q1e vw (Qc (n := 2) (by kernel_rfl) (by kernel_rfl) (hS.blkAt fd) (by rfl) (by rfl)) ?_)
           all_goals (exact ⟨_, rfl, by rw [hJ]; rfl, hS.sp⟩))
        | (refine Q4 rfl ?_ -- Q2T c3
           all_goals refine zsk ?_)
      all_goals (refine Q2 ?_; refine zad ?_; refine zm ?_; refine zn ?_; exact ⟨⟨b + 1, zh, zh, (by omega), runs_b hdb hy (by omega), hS.sp⟩, Qo (by omega)⟩)
    · skip
      all_goals (refine zex ?_; refine Q2 ?_; refine zad ?_; refine zm ?_; refine zn ?_; exact ⟨⟨q + 1, zh, zh, (by omega), runs_f hd hx1 hdb (by omega), hS.sp⟩, Qo (by omega)⟩)
  · skip
    all_goals (refine zex ?_; refine Q0 ?_; refine Q2 ?_; refine zb0 [_, _] ?_; refine zsn hS ?_; intro w1 hS; have hS := hS.ns; refine zn ?_; have hJ := runs_z hd (by omega); refine zr ?_; refine Q1e vw (Qc (n := 2) (by kernel_rfl) (by kernel_rfl) (hS.blkAt fd) (by rfl) (by rfl)) ?_; exact ⟨_, rfl, by rw [hJ]; rfl, hS.sp⟩)
def modVI : List Ins := [insK 3, ⟨1, 0, 0, 0, 0, 1, [], []⟩, ⟨5, 0, 0, 0, 0, 0, [], [1]⟩, insK 4, ⟨6, 2, 0, 0, 0, 0, [], []⟩]
def modV : Module := ⟨[⟨0, [], [], [⟨0, [], modVI, ⟨3, 0, ⟨0, [], []⟩, ⟨0, [], []⟩, []⟩⟩]⟩]⟩
theorem QvP : modV.Short := by
  refine ⟨by decide, fun f hf => ?_⟩
  simp [modV] at hf; subst hf
  refine ⟨⟨by decide, by simp⟩, ⟨by decide, by simp⟩, by decide, fun b hb => ?_⟩
  simp at hb; subst hb
  refine ⟨⟨by decide, by simp⟩, by decide, fun i hi => ?_, ⟨by decide, by decide⟩, ⟨by decide, by decide⟩, by decide⟩
  simp [modVI] at hi
  rcases hi with rfl | rfl | rfl | rfl | rfl <;> exact ⟨by decide, by decide⟩
theorem Qoh (hS : St cx w L) : Rets Tryz.prog Q6z [] w fun u w' => u = .bool true ∧ St cx w' L := by
  have e1 : leastM.runs = (0, 0) := by decide +kernel
  have e2 : modV.runs = (10, 4) := by decide +kernel
  have n0 : ∀ c : Cx, insR.sl c (.slice none 0 0) [] := fun c => Rep.SR.nil _ _ _
  have n1 : ∀ c : Cx, intR.sl c (.slice none 0 0) [] := fun c => Rep.SR.nil _ _ _
  all_goals refine Qbh ?_
  all_goals (unfold Law_verifyBegun_lc; refine Q0 ?_; refine Q2 ?_; refine zm ?_; refine zn ?_; refine Q0 ?_; refine Q2 ?_; refine zR0 (c := Qxf hS) (h := ?_); rintro v1 w1 ⟨la, lb, rfl, hS⟩; simp only [Q6E] at hS; refine Qb hS ?_; intro p1 w1 hS; refine zsn hS ?_; intro w1 hS; have hS := hS.ns; refine zn ?_; refine Q0 ?_; refine Q2 ?_; refine Q1 rfl ?_; refine zl hS ?_; refine s_idx rfl rfl (by decide) (by decide) ?_; refine Q1 rfl ?_; refine zl hS ?_; refine zb1 [_, _, _, _, _, _, _, _] ?_; refine zb2 [_, _, _, _, _, _, _, _] ?_; refine Q35 (cs := [_]) vw (by rfl) ?_; intro ab w1 hb1 hf1 _ hk1; have hS := hS.laid hb1 hf1 hk1; refine zb2 [_, _, _, _, _, _, _, _] ?_; refine zb1 [_, _, _, _, _, _, _, _] ?_; refine zb2 [_, _, _, _, _, _, _, _] ?_; refine QwN (cs := [_, _, _, _, _, _, _, _, _, _, _, _, _, _, _, _, _, _, _, _, _, _, _, _, _, _, _, _, _, _, _, _, _, _, _, _, _, _, _, _]) vw vw vw vw vw (by rfl) ?_; intro cb w1 hb1 hf1 _ hk1; have hS := hS.laid hb1 hf1 hk1; refine s_idx rfl rfl (by decide) (by decide) ?_; refine Q1 rfl ?_; refine zst hS ?_; intro w1 hS; have hS := hS.ns; refine zn ?_; have hS := St.slOf (es := 8) (n := 5) (css := [[.int .i64 3, .int .i64 0, .int .i64 0, .int .i64 0, .int .i64 0, .int .i64 0, .slice none 0 0, .slice none 0 0], [.int .i64 1, .int .i64 0, .int .i64 0, .int .i64 0, .int .i64 0, .int .i64 1, .slice none 0 0, .slice none 0 0], [.int .i64 5, .int .i64 0, .int .i64 0, .int .i64 0, .int .i64 0, .int .i64 0, .slice none 0 0, .slice (some ⟨ab, 0, none⟩) 1 1], [.int .i64 4, .int .i64 0, .int .i64 0, .int .i64 0, .int .i64 0, .int .i64 0, .slice none 0 0, .slice none 0 0], [.int .i64 6, .int .i64 2, .int .i64 0, .int .i64 0, .int .i64 0, .int .i64 0, .slice none 0 0, .slice none 0 0]]) hS rfl (by simp) rfl; have hS : St cx _ (blk ab 3 [.int .i64 1] :: sl 57 8 (.slice (some ⟨cb, 0, none⟩) 5 5) [[.int .i64 3, .int .i64 0, .int .i64 0, .int .i64 0, .int .i64 0, .int .i64 0, .slice none 0 0, .slice none 0 0], [.int .i64 1, .int .i64 0, .int .i64 0, .int .i64 0, .int .i64 0, .int .i64 1, .slice none 0 0, .slice none 0 0], [.int .i64 5, .int .i64 0, .int .i64 0, .int .i64 0, .int .i64 0, .int .i64 0, .slice none 0 0, .slice (some ⟨ab, 0, none⟩) 1 1], [.int .i64 4, .int .i64 0, .int .i64 0, .int .i64 0, .int .i64 0, .int .i64 0, .slice none 0 0, .slice none 0 0], [.int .i64 6, .int .i64 2, .int .i64 0, .int .i64 0, .int .i64 0, .int .i64 0, .slice none 0 0, .slice none 0 0]] :: blk la 53 [.int .i64 0, .slice none 0 0, .slice none 0 0, .slice (some ⟨lb, 0, none⟩) 1 1] :: blk lb 79 (Q6E (.slice (some ⟨cb, 0, none⟩) 5 5)) :: blk p1 24 [.slice (some ⟨la, 0, none⟩) 1 1] :: L) := hS.sp; obtain ⟨c0, hle0, hS, ha⟩ := St.freeze1 (r := intR) (x := 1) hS rfl; obtain ⟨c2, hle2, hS, hk⟩ := St.freezeL (r := insR) (l := modVI) hS (Rep.LR.push (Rep.LR.push (Rep.LR.push (Rep.LR.push (Rep.LR.push (Rep.LR.nil _ _ _) (Qxr c0 3)) (⟨_, _, rfl, n1 _, n1 _⟩ : insR.at c0 [.int .i64 1, .int .i64 0, .int .i64 0, .int .i64 0, .int .i64 0, .int .i64 1, .slice none 0 0, .slice none 0 0] ⟨1, 0, 0, 0, 0, 1, [], []⟩)) (⟨_, _, rfl, n1 _, ha⟩ : insR.at c0 [.int .i64 5, .int .i64 0, .int .i64 0, .int .i64 0, .int .i64 0, .int .i64 0, .slice none 0 0, .slice (some ⟨ab, 0, none⟩) 1 1] ⟨5, 0, 0, 0, 0, 0, [], [1]⟩)) (Qxr c0 4)) (⟨_, _, rfl, n1 _, n1 _⟩ : insR.at c0 [.int .i64 6, .int .i64 2, .int .i64 0, .int .i64 0, .int .i64 0, .int .i64 0, .slice none 0 0, .slice none 0 0] ⟨6, 2, 0, 0, 0, 0, [], []⟩)) rfl (by decide); obtain ⟨c3, hle3, hS, hm2⟩ := Qvm hk hS)
  all_goals (refine Q0 ?_; refine Q2 ?_; refine zR0 (c := Qxf hS) (h := ?_); rintro v1 w1 ⟨ma, mb, rfl, hS⟩; obtain ⟨c4, hle4, hS, hm1⟩ := Qvm (n0 _) hS; have hm2 := Rep.R.up hm2 hle4; refine zR1 (c := Qoi (m := leastM) Qrq hm1 hS) (h := ?_); rintro v1 w1 ⟨rfl, hS⟩; rw [e1]; refine Qv7 rfl rfl ?_)
  all_goals (refine Qw ?_)
  all_goals (refine zm ?_; (first | refine s_gn rfl rfl ?_ | (refine s_gy rfl ?_; refine zv hS ?_)); (first | (refine s_gn rfl rfl ?_) | (refine s_gy rfl ?_; refine zR1 (c := Qoi (m := modV) QvP hm2 hS) (h := ?_); rintro v1 w1 ⟨rfl, hS⟩; rw [e2])); (first | refine s_gn rfl rfl ?_ | (refine s_gy rfl ?_; refine zb2 [_, _] ?_)); (first | (refine s_gn rfl rfl ?_) | (refine s_gy rfl ?_; refine QwK (a := (10, 4)) Qvq rfl rfl ?_)); refine zpt ?_; refine zm ?_; refine zn ?_; refine zr ?_; refine zf ?_; exact ⟨_, rfl, rfl, St.weak hS.sp (hle0.trans (hle2.trans (hle3.trans hle4)))⟩)
end Go.Proofs.YtanlkfeogoganaaGreat
namespace Go.Proofs.YtanlkfeogoganaaGreat
open Go.Lir
set_option maxHeartbeats 1000000
attribute [local irreducible] LC.wp Q5 Q11 Q1f retQ Q2h LO.wp QD Calls
set_option linter.unusedSimpArgs false
set_option linter.unusedVariables false
attribute [local irreducible] hasB Q21 Q1N Q4s Q1Q
variable {cx : Cx} {w : World} {L : List Res}
def Q7p (hp : Nat) (h : List Bool) : Res := Res.ex fun v => star (blk hp 72 [v]) (sl 4 1 v (h.map QL))
theorem Q3Z {hp : Nat} {h : List Bool} (hS : St cx w (Q7p hp h :: L)) : ∃ v, St cx w (blk hp 72 [v] :: sl 4 1 v (h.map QL) :: L) := by
  obtain ⟨v, hS⟩ := St.ex hS
  exact ⟨v, hS.star⟩
theorem Q3r {hp : Nat} {h : List Bool} {v : Value} (hS : St cx w (blk hp 72 [v] :: sl 4 1 v (h.map QL) :: L)) : St cx w (Q7p hp h :: L) := St.ex' v hS.star'
theorem rhas_u {hp : Nat} {h : List Bool} {v : Value} {r : Int} (hS : St cx w (blk hp 72 [v] :: sl 4 1 v (h.map QL) :: L)) :
    Rets Tryz.prog Q9m [.pointer (some ⟨hp, 0, none⟩), .int .i64 r] w fun u w' => u = .bool (hasB h r) ∧ St cx w' (blk hp 72 [v] :: sl 4 1 v (h.map QL) :: L) := by
  have hlen : (h.map QL).length = h.length := List.length_map _
  all_goals refine Qno ?_
  all_goals (unfold R_Holds_Has_lc; refine Q0 ?_; refine Q2 ?_; refine zm ?_; refine zn ?_; refine Q0 ?_; refine Q2 ?_; refine zm ?_)
  all_goals (first | (refine Q3t ?_) | (refine Q3u ?_) | (refine Q1F rfl rfl (fun hc => ?_) (fun hc => ?_)))
  all_goals (refine zm ?_; (first | refine s_gn rfl rfl ?_ | (refine s_gy rfl ?_; refine zm ?_)); (first | refine s_gn rfl rfl ?_ | (refine s_gy rfl ?_; refine zm ?_)); (first | refine s_gn rfl rfl ?_ | (refine s_gy rfl ?_; refine Qk rfl ?_)); (first | refine s_gn rfl rfl ?_ | (refine s_gy rfl ?_; refine Q1 rfl ?_)); (first | refine s_gn rfl rfl ?_ | (refine s_gy rfl ?_; (first | (refine Q29 hS hel1 rfl nth1 (Q2i QL h false (by omega)) rfl ?_) | (refine zl hS ?_)))); (first | refine s_gn rfl rfl ?_ | (refine s_gy rfl ?_; (first | (refine zL ?_) | (refine zLe hS ?_)))))
  all_goals (first | refine s_gn rfl rfl ?_ | (refine s_gy rfl ?_; (first | (refine Q1V ?_) | (refine Q1W ?_) | (refine QG rfl rfl (fun hc => ?_) (fun hc => ?_)))))
  all_goals ((first | (refine zpt ?_) | (refine zpf ?_)); refine zm ?_; (first | refine s_gn rfl rfl ?_ | (refine s_gy rfl ?_; refine zm ?_)); (first | refine s_gn rfl rfl ?_ | (refine s_gy rfl ?_; refine Qk rfl ?_)); (first | refine s_gn rfl rfl ?_ | (refine s_gy rfl ?_; refine Q1 rfl ?_)); (first | refine s_gn rfl rfl ?_ | (refine s_gy rfl ?_; (first | (refine Q29 hS hel1 rfl nth1 (Q2i QL h false (by omega)) rfl ?_) | (refine zl hS ?_)))); (first | refine s_gn rfl rfl ?_ | (refine s_gy rfl ?_; refine zm ?_)); (first | refine s_gn rfl rfl ?_ | (refine s_gy rfl ?_; (first | ((first | refine zi ?_ | refine zj ?_); intro b1 o1 cs1 x1 hat1 hx1 he1; obtain rfl := QJ he1) | (refine zie hS ?_; intro b1 o1 hel1) | (refine zij hS ?_; intro b1 o1 hel1)))); (first | refine s_gn rfl rfl ?_ | (refine s_gy rfl ?_; (first | (refine Q29 hS hel1 rfl nth1 (Q2i QL h false (by omega)) rfl ?_) | (refine zl hS ?_) | (refine zlk hS ?_) | (refine zlj hS ?_) | (refine zli hS ?_) | (refine zlb hS ?_)))); (first | (refine zpt ?_) | (refine zpf ?_)); refine zm ?_; refine zn ?_; refine zr ?_; refine zf ?_; (first | (refine ⟨_, rfl, ?_, hS.sp⟩; unfold hasB; simp [*]; omega; done) | (refine ⟨_, rfl, ?_, hS.sp⟩; unfold hasB; simp [*]; done)))
theorem Qx1 {hp : Nat} {h : List Bool} {v : Value} (hl : h.length ≤ 16) (hS : St cx w (blk hp 72 [v] :: sl 4 1 v (h.map QL) :: L)) :
    Rets Tryz.prog Q6w [.pointer (some ⟨hp, 0, none⟩)] w fun u w' => ∃ c', cx.Le c' ∧ intR.sl c' u (Q21 h) ∧ St c' w' (blk hp 72 [v] :: sl 4 1 v (h.map QL) :: L) := by
  have hlen : (h.map QL).length = h.length := List.length_map _
  all_goals refine QkB ?_
  all_goals (unfold R_Holds_List_lc; refine Q0 ?_; refine Q2 ?_; refine zm ?_; refine zn ?_; refine Q0 ?_; refine Q2 ?_; refine zm ?_; refine zn ?_; refine Q0 ?_; refine Q0 ?_; refine Q2 ?_; refine zm ?_; refine zn ?_; refine Qa ?_; have hS := St.nil (T := 3) (es := 1) hS)
  refine zo [0] (fun A ρ' w' => ∃ (j : Nat) (vo : Value) (co : List (List Value)), Has ρ' A ∧ Has ρ' [(4, .int .i64 j), (3, vo)] ∧ (j ≤ h.length) ∧ (intR.ls cx co (Q1Q h j)) ∧ St cx w' (sl 3 1 vo co :: blk hp 72 [v] :: sl 4 1 v (h.map QL) :: L)) (fun ρ' _ => (h.length - iv (ρ' 4)).toNat) ?_ ?_
  · exact ⟨0, _, [], zh, zh, (by omega), by unfold Q1Q; exact Rep.LR.nil _ _ _, hS.sp⟩
  rintro ρ w1 ⟨j, vo, co, hA, hρ, hj, hls, hS⟩; obtain ⟨ρ, rfl⟩ := env2 hA hρ; have hll := Qct h j; have hsu := Q5m h j
  unfold Q6v
  all_goals (refine Q0 ?_; refine Q0 ?_; refine Q2 ?_; refine zm ?_; refine zm ?_; refine Qk rfl ?_; refine Q1 rfl ?_; (first | (refine Q29 hS (by assumption) rfl nth2 (Q2i QL h false (by omega)) rfl ?_) | (refine zl hS ?_)); (first | (refine zL ?_) | (refine zLe hS ?_)); refine Qr rfl rfl ?_; refine zn ?_)
  refine Qn rfl (fun hc => ?_) (fun hc => ?_)
  · skip
    all_goals (refine zsk ?_; refine Q0 ?_; refine Qa ?_; refine Q0 ?_; refine Q2 ?_; refine zm ?_; refine Qk rfl ?_; refine Q1 rfl ?_; (first | (refine Q29 hS (by assumption) rfl nth2 (Q2i QL h false (by omega)) rfl ?_) | (refine zl hS ?_)); refine zm ?_; (first | ((first | refine zi ?_ | refine zj ?_); intro b1 o1 cs1 x1 hat1 hx1 he1; obtain rfl := QJ he1) | (refine zie hS ?_; intro b1 o1 hel1)); (first | (refine Q29 hS (by assumption) rfl nth2 (Q2i QL h false (by omega)) rfl ?_) | (refine zl hS ?_) | (refine zlk hS ?_) | (refine zlj hS ?_) | (refine zli hS ?_) | (refine zlb hS ?_)); refine zn ?_)
    refine Qhw rfl (fun hc => ?_) (fun hc => ?_)
    · skip
      all_goals (refine Q2 ?_; refine zm ?_; refine zm ?_; refine zB1 hS [_] ?_; intro b1 w1 hS; refine za Q7D Qoj hS ?_; intro vp1 w1 css1 hls1 hv1 hS; have hS := hS.ns; refine zm ?_; refine zn ?_; refine Q2 ?_; refine zm ?_; refine zad ?_; refine zm ?_; refine zn ?_; exact ⟨⟨j + 1, _, _, zh, zh, (by omega), by rw [hsu, if_pos (by assumption)]; exact hls1, hS.sp⟩, Qo (by omega)⟩)
    · skip
      all_goals (refine zsk ?_; refine Q2 ?_; refine zm ?_; refine zad ?_; refine zm ?_; refine zn ?_; (first | (exact ⟨⟨j + 1, _, _, zh, zh, (by omega), by rw [hsu, if_pos (by assumption)]; exact hls1, hS.sp⟩, Qo (by omega)⟩) | (exact ⟨⟨j + 1, _, _, zh, zh, (by omega), by rw [hsu, if_neg (by rw [hc]; decide), List.append_nil]; exact hls, hS.sp⟩, Qo (by omega)⟩)))
  · skip
    all_goals (refine zex ?_; refine Q0 ?_; refine Q2 ?_; refine zm ?_; refine zm ?_; refine zn ?_; refine zr ?_; refine zf ?_; refine ⟨_, rfl, ?_⟩; obtain ⟨c', hle, hS', hk⟩ := St.freezeL (r := intR) hS hls rfl (by omega); refine ⟨c', hle, ?_, hS'⟩; rw [show j = h.length by omega] at hk; unfold Q21; exact hk)
theorem rin_c {s : List Int} {c : Int} {v : Value} (hK : intR.sl cx v s) (hS : St cx w L) : Rets Tryz.prog R_In [v, .int .i64 c] w fun u w' => u = .bool (decide (c ∈ s)) ∧ St cx w' L := by
  have hlen := hK.len
  all_goals refine R_In_in ?_
  all_goals (unfold R_In_lc; refine Q0 ?_; refine Q2 ?_; refine zm ?_; refine zn ?_; refine Q0 ?_; refine Q0 ?_; refine Q2 ?_; refine zm ?_; refine zn ?_; refine Qa ?_)
  refine zoL hS [0, 1] (fun A LL ρ' w' => ∃ (j : Nat), Has ρ' A ∧ Has ρ' [(5, .int .i64 j)] ∧ (j ≤ s.length) ∧ (c ∈ s ↔ c ∈ s.drop j) ∧ St cx w' (LL)) (fun ρ' _ => (s.length - iv (ρ' 5)).toNat) ?_ ?_
  · exact ⟨0, zh, zh, (by omega), by simp, hS.sp⟩
  rintro ρ w1 ⟨j, hA, hρ, hj, hd, hS⟩; obtain ⟨ρ, rfl⟩ := env2 hA hρ
  unfold QxJ
  all_goals (refine Q0 ?_; refine Q0 ?_; refine Q2 ?_; refine zm ?_; refine zm ?_; refine zL ?_; refine Qr rfl rfl ?_; refine zn ?_)
  refine Qn rfl (fun hc => ?_) (fun hc => ?_)
  · skip
    all_goals (refine zsk ?_; refine Q0 ?_; refine Qa ?_; refine Q0 ?_; refine Q2 ?_; refine zm ?_; refine zm ?_; refine zi ?_; intro b1 o1 cs1 x1 hat1 hx1 he1; obtain rfl := QJ he1; (first | (refine zl hS ?_) | (refine zlk hS ?_)); refine zm ?_)
    all_goals (first | (refine Qw ?_) | (refine Qy ?_) | (refine Ql rfl rfl (fun hc => ?_) (fun hc => ?_)))
    all_goals (refine zn ?_)
    all_goals
      first
      | (refine Q3 rfl ?_ -- R_In c1
         all_goals (refine Q0 ?_; refine Q2 ?_; refine zm ?_; refine zn ?_; refine zr ?_; refine zf ?_)
         all_goals (refine ⟨_, rfl, ?_, hS.sp⟩; rw [decide_eq_true]; rw [hd, Q7 hx1, List.mem_cons]; exact .inl (by omega); done))
      | (refine Q4 rfl ?_ -- R_In c1
         all_goals refine zsk ?_)
    all_goals (refine Q2 ?_; refine zm ?_; refine zad ?_; refine zm ?_; refine zn ?_)
    all_goals (exact ⟨⟨j + 1, zh, zh, (by omega), by rw [hd, Q7 hx1, List.mem_cons]; exact ⟨fun h => h.resolve_left (by omega), .inr⟩, hS.sp⟩, Qo (by omega)⟩)
  · skip
    all_goals (refine zex ?_; refine Q0 ?_; refine Q2 ?_; refine zm ?_; refine zn ?_; refine zr ?_; refine zf ?_; (first | (refine ⟨_, rfl, ?_, hS.sp⟩; rw [decide_eq_true]; rw [hd, Q7 hx1, List.mem_cons]; exact .inl (by omega); done) | (refine ⟨_, rfl, ?_, hS.sp⟩; rw [decide_eq_false]; rw [hd, List.drop_of_length_le (by omega)]; exact List.not_mem_nil; done)))
theorem rpass_u {hp : Nat} {h : List Bool} {v v2 : Value} {xs : List Int} (hl : h.length ≤ 16) (hx : intR.sl cx v2 xs) (hS : St cx w (blk hp 72 [v] :: sl 4 1 v (h.map QL) :: L)) :
    Rets Tryz.prog Q6u [.pointer (some ⟨hp, 0, none⟩), v2] w fun u w' => u = .int .i64 (Q1N h [] xs) ∧ St cx w' (blk hp 72 [v] :: sl 4 1 v (h.map QL) :: L) := by
  have hxl := hx.len
  have hll : (Q21 h).length ≤ h.length := by unfold Q21; exact Qct _ _
  rw [Qxa]
  all_goals refine Qkr ?_
  all_goals (unfold R_Holds_Pass_lc; refine Q0 ?_; refine Q2 ?_; refine zm ?_; refine zn ?_; refine Q0 ?_; refine Q0 ?_; refine Q2 ?_; refine zm ?_; refine zn ?_; refine Qa ?_)
  refine zoL hS [0, 1] (fun A LL ρ' w' => ∃ (j : Nat), Has ρ' A ∧ Has ρ' [(5, .int .i64 j)] ∧ (j ≤ xs.length) ∧ (Q4s h xs [] xs = Q4s h xs (xs.take j) (xs.drop j)) ∧ St cx w' (LL)) (fun ρ' _ => (xs.length - iv (ρ' 5)).toNat) ?_ ?_
  · exact ⟨0, zh, zh, (by omega), by rfl, hS.sp⟩
  rintro ρ w1 ⟨j, hA, hρ, hj, hgo, hS⟩; obtain ⟨ρ, rfl⟩ := env2 hA hρ
  unfold Q6t
  all_goals (refine Q0 ?_; refine Q0 ?_; refine Q2 ?_; refine zm ?_; refine zm ?_; refine zL ?_; refine Qr rfl rfl ?_; refine zn ?_)
  refine Qn rfl (fun hc => ?_) (fun hc => ?_)
  · skip
    all_goals (refine zsk ?_; refine Q0 ?_; refine Qa ?_; refine Q0 ?_; refine Q0 ?_; refine Q2 ?_; refine zm ?_; refine zm ?_; refine zm ?_; refine zi ?_; intro b1 o1 cs1 x1 hat1 hx1 he1; obtain rfl := QJ he1; (first | (refine zl hS ?_) | (refine zlk hS ?_)); rw [Q7 hx1, Q4s] at hgo; refine zR2 (c := rhas_u hS) (h := ?_); rintro v1 w1 ⟨rfl, hS⟩; refine Q1o rfl ?_; refine zn ?_)
    refine Qhw rfl (fun hc => ?_) (fun hc => ?_)
    · skip
      all_goals (refine Q0 ?_; refine Q2 ?_; refine zm ?_; refine zn ?_; refine zr ?_; refine zf ?_)
      all_goals (exact ⟨_, rfl, (by rw [hgo, if_neg (by simpa using hc)]), hS.sp⟩)
    · skip
      all_goals (have hc1 : hasB h x1 = true := (by simpa using hc); rw [if_pos hc1] at hgo; refine zsk ?_; refine Q0 ?_; refine zD [(0, none), (1, none), (2, none), (3, none), (4, none), (5, none), (6, none), (7, some none)] ?_; have hS := hS.drew; refine zm ?_; refine zm ?_; refine Qwx vw hx rfl rfl ⟨_, rfl⟩ rfl (by omega) (by omega) ?_; intro v4 hs4; rw [List.drop_zero] at hs4; refine zm ?_; refine zm ?_; refine zi ?_; intro b2 o2 cs2 x2 hat2 hx2 he2; obtain rfl := QJ he2; (first | (refine zl hS ?_) | (refine zlk hS ?_)); refine zR2 (c := rin_c hs4 hS) (h := ?_); rintro v1 w1 ⟨rfl, hS⟩; obtain rfl : x1 = x2 := Option.some.inj (hx1.symm.trans hx2); refine zn ?_)
      refine Qn rfl (fun hc => ?_) (fun hc => ?_)
      · skip
        all_goals (refine Q0 ?_; refine Q2 ?_; refine zm ?_; refine zn ?_; refine zr ?_; refine zf ?_)
        all_goals (first | (exact ⟨_, rfl, (by rw [hgo, if_neg (by simpa using hc)]), hS.sp⟩) | (exact ⟨_, rfl, (by rw [hgo, if_pos hc]), hS.sp⟩))
      · skip
        all_goals (refine zsk ?_; refine Q2 ?_; refine zm ?_; refine zad ?_; refine zm ?_; refine zn ?_; exact ⟨⟨j + 1, zh, zh, (by omega), by rw [hgo, if_neg hc, Q1m hx1], hS.sp⟩, Qo (by omega)⟩)
  · skip
    all_goals (refine zex ?_; refine Q0 ?_; refine Q2 ?_; refine zm ?_; refine zR1 (c := Qx1 (L := L) hl hS.sp) (h := ?_); rintro v5 w5 ⟨c5, hle5, hk5, hS⟩; have hx5 := hx.up hle5; have hie : j = xs.length := (by omega); subst hie; rw [List.take_length, List.drop_length, Q4s] at hgo; refine zm ?_; refine zn ?_; refine Q0 ?_; refine Q0 ?_; refine Q2 ?_; refine zm ?_; refine zn ?_; refine Qa ?_)
    refine zoL hS [1, 6] (fun A LL ρ' w' => ∃ (q : Nat), Has ρ' A ∧ Has ρ' [(7, .int .i64 q)] ∧ (q ≤ (Q21 h).length) ∧ (∀ y ∈ (Q21 h).take q, y ∈ xs) ∧ St c5 w' (LL)) (fun ρ' _ => ((Q21 h).length - iv (ρ' 7)).toNat) ?_ ?_
    · exact ⟨0, zh, zh, (by omega), by simp, hS.sp⟩
    rintro ρ w1 ⟨q, hA, hρ, hq, hall, hS⟩; obtain ⟨ρ, rfl⟩ := env2 hA hρ
    unfold Q5E
    all_goals (refine Q0 ?_; refine Q0 ?_; refine Q2 ?_; refine zm ?_; refine zm ?_; refine zL ?_; refine Qr rfl rfl ?_; refine zn ?_)
    refine Qn rfl (fun hc => ?_) (fun hc => ?_)
    · skip
      all_goals (refine zsk ?_; refine Q0 ?_; refine Qa ?_; refine Q0 ?_; refine Q2 ?_; refine zm ?_; refine zm ?_; refine zm ?_; refine zi ?_; intro b3 o3 cs3 x3 hat3 hx3 he3; obtain rfl := QJ he3; (first | (refine zl hS ?_) | (refine zlk hS ?_)); refine zR2 (c := rin_c hx5 hS) (h := ?_); rintro v1 w1 ⟨rfl, hS⟩; refine Q1o rfl ?_; refine zn ?_)
      refine Qhw rfl (fun hc => ?_) (fun hc => ?_)
      · skip
        all_goals (have hn3 : x3 ∉ xs := (by simpa using hc); refine Q0 ?_; refine Q2 ?_; refine zm ?_; refine zn ?_; refine zr ?_; refine zf ?_)
        all_goals (first | (exact ⟨_, rfl, (by rw [hgo, if_neg (by simpa using hc)]), hS.sp⟩) | (exact ⟨_, rfl, (by rw [hgo, if_pos hc]), hS.sp⟩) | (exact ⟨_, rfl, (by rw [hgo, if_neg (fun ha => hn3 (ha x3 (List.mem_of_getElem? hx3)))]), St.weak hS.sp hle5⟩))
      · skip
        all_goals (have hn3 : x3 ∈ xs := (by simpa using hc); refine zsk ?_; refine Q2 ?_; refine zm ?_; refine zad ?_; refine zm ?_; refine zn ?_; exact ⟨⟨q + 1, zh, zh, (by omega), Q5u hall hx3 hn3, hS.sp⟩, Qo (by omega)⟩)
    · skip
      all_goals (refine zex ?_; refine Q0 ?_; refine Q2 ?_; refine zm ?_; refine zn ?_; refine zr ?_; refine zf ?_)
      all_goals (first | (exact ⟨_, rfl, (by rw [hgo, if_neg (by simpa using hc)]), hS.sp⟩) | (exact ⟨_, rfl, (by rw [hgo, if_pos hc]), hS.sp⟩) | (exact ⟨_, rfl, (by rw [hgo, if_neg (fun ha => hn3 (ha x3 (List.mem_of_getElem? hx3)))]), St.weak hS.sp hle5⟩) | (exact ⟨_, rfl, (by rw [hgo, if_pos (Qb3 hall (by omega))]), St.weak hS.sp hle5⟩))
theorem rnew_u {n : Int} (hS : St cx w L) : Rets Tryz.prog Q6N [.int .i64 n] w fun u w' => ∃ hp v, u = .pointer (some ⟨hp, 0, none⟩) ∧ St cx w' (blk hp 72 [v] :: sl 4 1 v ((List.replicate (min n 16).toNat true).map QL) :: L) := by
  all_goals refine Qqr ?_
  all_goals (unfold R_NewHolds_lc; refine Q0 ?_; refine Q2 ?_; refine zm ?_; refine zn ?_; refine Q0 ?_; refine Q2 ?_; refine zb0 [_] ?_; refine zb hS ?_; intro p6 w1 hS; refine zm ?_; refine zn ?_; refine Q0 ?_; refine Q0 ?_; refine Q2 ?_; refine zm ?_; refine zn ?_; refine Qa ?_; have hS := St.nil (T := 4) (es := 1) hS)
  refine zo [0, 3] (fun A ρ' w' => ∃ (j : Nat) (v : Value), Has ρ' A ∧ Has ρ' [(4, .int .i64 j)] ∧ (j ≤ (min n 16).toNat) ∧ St cx w' (sl 4 1 v ((List.replicate j true).map QL) :: blk p6 72 [v] :: L)) (fun ρ' _ => (min n 16 - iv (ρ' 4)).toNat) ?_ ?_
  · exact ⟨0, _, zh, zh, (by omega), hS.sp⟩
  rintro ρ w1 ⟨j, v, hA, hρ, hj, hS⟩; obtain ⟨ρ, rfl⟩ := env2 hA hρ
  unfold Qba
  all_goals (refine Q0 ?_; refine Q0 ?_; refine Q2 ?_; refine zm ?_; refine zm ?_)
  all_goals (first | (refine Q1V ?_) | (refine Q1W ?_) | (refine QG rfl rfl (fun hc => ?_) (fun hc => ?_)))
  all_goals (refine zm ?_; (first | refine s_gn rfl rfl ?_ | (refine s_gy rfl ?_; refine zm ?_)))
  all_goals (first | refine s_gn rfl rfl ?_ | (refine s_gy rfl ?_; (first | (refine Q1V ?_) | (refine Q1W ?_) | (refine QG rfl rfl (fun hc => ?_) (fun hc => ?_)))))
  all_goals ((first | (refine zpt ?_) | (refine zpf ?_)); refine zn ?_)
  all_goals
    first
    | (refine Q3 rfl ?_ -- Q6N c0
       all_goals (refine zsk ?_; refine Q0 ?_; refine Qa ?_; refine Q2 ?_; refine zm ?_; refine zm ?_; refine Qk rfl ?_; refine Q1 rfl ?_; refine zl hS ?_; refine zB1 hS [_] ?_; intro b1 w1 hS; refine QnY QrW (.inl u_T70) hS vw vw fd (hS.srcB1 fd rfl) (by simp; omega) ?_; intro vp w2 hS; have hS := hS.ns; rw [show (List.replicate j true).map QL ++ [[Value.bool true]] = (List.replicate (j + 1) true).map QL by rw [List.replicate_succ', List.map_append]; rfl] at hS; refine Qk rfl ?_; refine Q1 rfl ?_; refine zst hS ?_; intro w1 hS; have hS := hS.ns; refine zn ?_; refine Q2 ?_; refine zm ?_; refine zad ?_; refine zm ?_; refine zn ?_)
       all_goals (exact ⟨⟨j + 1, _, zh, zh, (by omega), hS.sp⟩, Qo (by omega)⟩))
    | (refine Q4 rfl ?_ -- Q6N c0
       all_goals (refine zex ?_; refine Q0 ?_; refine Q2 ?_; refine zm ?_; refine zm ?_; refine zn ?_; refine zr ?_; refine zf ?_)
       all_goals (exact ⟨_, rfl, _, v, rfl, (by rw [show (min n 16).toNat = j by omega]; exact hS.sp)⟩))
end Go.Proofs.YtanlkfeogoganaaGreat
