/- Lemmas of the proof, part 6: what the functions of the program do (contracts), and what follows. -/
import Derived.Test.YtanlkfeogoganaaGreatZ2
import Derived.Test.YtanlkfeogoganaaGreatZ5
import Derived.Test.YtanlkfeogoganaaGreatZ4
namespace Go.Proofs.YtanlkfeogoganaaGreat
open Go.Lir
set_option maxHeartbeats 1000000
attribute [local irreducible] LC.wp Q5 Q11 Q1f retQ Q2h LO.wp QD Calls
set_option linter.unusedSimpArgs false
set_option linter.unusedVariables false
attribute [local irreducible] hasB Q21 Q1N Q1Q Q3S upTo Q1b
variable {cx : Cx} {w : World} {L : List Res} {j : JP} {h : List Bool} {vl : Value} {css : List (List Value)} {i : Nat} {m : Module}
@[reducible] def JP.kcells (j : JP) (vl : Value) : List Value := [j.vm, .int .i64 j.f.regs, j.vp, j.vr, j.vb, .pointer (some ⟨j.hp, 0, none⟩), vl]
theorem rhas_c {hp : Nat} {r : Int} (hS : St cx w L) (hi : nth L i = some (Q7p hp h)) : Rets Tryz.prog Q9m [.pointer (some ⟨hp, 0, none⟩), .int .i64 r] w fun u w' => u = .bool (hasB h r) ∧ St cx w' L := by
  obtain ⟨v, h2⟩ := Q3Z (hS.out hi)
  refine (rhas_u h2).mono ?_
  rintro u w' ⟨h3, h4⟩
  exact ⟨h3, St.back0 (Q3r h4) hi⟩
theorem rlist_h {hp : Nat} (hl : h.length ≤ 16) (hS : St cx w L) (hi : nth L i = some (Q7p hp h)) : Rets Tryz.prog Q6w [.pointer (some ⟨hp, 0, none⟩)] w fun u w' => ∃ c', cx.Le c' ∧ intR.sl c' u (Q21 h) ∧ St c' w' L := by
  obtain ⟨v, h2⟩ := Q3Z (hS.out hi)
  refine (Qx1 hl h2).mono ?_
  rintro u w' ⟨c', h3, h5, h4⟩
  exact ⟨c', h3, h5, St.back0 (Q3r h4) hi⟩
theorem rpass_h {hp : Nat} {v2 : Value} {xs : List Int} (hl : h.length ≤ 16) (hx : intR.sl cx v2 xs) (hS : St cx w L) (hi : nth L i = some (Q7p hp h)) : Rets Tryz.prog Q6u [.pointer (some ⟨hp, 0, none⟩), v2] w fun u w' => u = .int .i64 (Q1N h [] xs) ∧ St cx w' L := by
  obtain ⟨v, h2⟩ := Q3Z (hS.out hi)
  refine (rpass_u hl hx h2).mono ?_
  rintro u w' ⟨h3, h4⟩
  exact ⟨h3, St.back0 (Q3r h4) hi⟩
theorem Q2M {s : JS} {k kd : Int} {held : Bool} (hls : tyR.ls cx css s.l) (hS : St cx w (blk j.sp 63 (j.kcells vl) :: Q7p j.hp s.h :: sl 112 3 vl css :: L)) :
    Rets Tryz.prog Q27 [.pointer (some ⟨j.sp, 0, none⟩), .int .i64 k, .int .i64 kd, .bool held] w fun u w' => u = .int .i64 (Q1b s k kd held) ∧ St cx w' (blk j.sp 63 (j.kcells vl) :: Q7p j.hp s.h :: sl 112 3 vl css :: L) := by
  have hlc := hls.1
  all_goals refine Qjx ?_
  all_goals (unfold R_Known_want_lc; refine Q0 ?_; refine Q2 ?_; refine zm ?_; refine zn ?_; refine Q0 ?_; refine Q0 ?_; refine Q2 ?_; refine zm ?_)
  all_goals (first | (refine Q1V ?_) | (refine Q1W ?_) | (refine QG rfl rfl (fun hc => ?_) (fun hc => ?_)))
  all_goals (refine zm ?_; (first | refine s_gn rfl rfl ?_ | (refine s_gy rfl ?_; refine zm ?_)); (first | refine s_gn rfl rfl ?_ | (refine s_gy rfl ?_; refine zm ?_)); (first | refine s_gn rfl rfl ?_ | (refine s_gy rfl ?_; refine Qk rfl ?_)); (first | refine s_gn rfl rfl ?_ | (refine s_gy rfl ?_; refine Q1 rfl ?_)); (first | refine s_gn rfl rfl ?_ | (refine s_gy rfl ?_; refine zl hS ?_)); (first | refine s_gn rfl rfl ?_ | (refine s_gy rfl ?_; refine Q20 hS vw fd hlc ?_)))
  all_goals (first | refine s_gn rfl rfl ?_ | (refine s_gy rfl ?_; (first | (refine Q3t ?_) | (refine Q3u ?_) | (refine Q1F rfl rfl (fun hc => ?_) (fun hc => ?_)))))
  all_goals ((first | (refine zpt ?_) | (refine zpf ?_)); refine zn ?_)
  all_goals
    first
    | (refine Q3 rfl ?_ -- Q27 c0
       all_goals (refine Q0 ?_; refine Q2 ?_; refine zm ?_; refine zn ?_; refine zr ?_; refine zf ?_)
       all_goals (refine ⟨_, rfl, ?_, hS.sp⟩; rw [Qv2 (by omega)]; done))
    | (refine Q4 rfl ?_ -- Q27 c0
       all_goals refine zsk ?_)
  all_goals (refine Q0 ?_; refine Q0 ?_; obtain ⟨t, ht⟩ : ∃ t, s.l[k.toNat]? = some t := ⟨_, List.getElem?_eq_getElem (by omega)⟩; obtain ⟨d, hd, hrd⟩ := hls.2 _ _ ht; obtain ⟨vd, rfl, hld⟩ := Qi hrd; refine Q2 ?_; refine zm ?_; refine Qk rfl ?_; refine Q1 rfl ?_; refine zl hS ?_; refine zm ?_; (first | ((first | refine zi ?_ | refine zj ?_); intro b1 o1 cs1 x1 hat1 hx1 he1; obtain ⟨vl1, rfl, hl1⟩ := Qi he1) | (refine zie hS ?_; intro b1 o1 hel1) | (refine zij hS ?_; intro b1 o1 hel1)); (first | refine Q1 rfl ?_ | refine Q12 rfl ?_); refine Q29 hS hel1 rfl fd rfl hd rfl ?_; refine zm ?_)
  all_goals (first | (refine QQ ?_) | (refine QR ?_) | (refine Qm rfl rfl (fun hc => ?_) (fun hc => ?_)))
  all_goals (refine zn ?_)
  all_goals
    first
    | (refine Q3 rfl ?_ -- Q27 c1
       all_goals (refine Q0 ?_; refine Q2 ?_; refine zm ?_; refine zn ?_; refine zr ?_; refine zf ?_)
       all_goals (first | (refine ⟨_, rfl, ?_, hS.sp⟩; rw [Qv2 (by omega)]; done) | (refine ⟨_, rfl, ?_, hS.sp⟩; rw [Qwn (by omega) ht (by omega)]; done)))
    | (refine Q4 rfl ?_ -- Q27 c1
       all_goals refine zsk ?_)
  all_goals (refine Q0 ?_; refine Q0 ?_)
  all_goals (cases held)
  all_goals (refine zD [(0, none), (1, none), (2, none), (3, none), (4, none), (5, none), (6, none), (7, none), (8, none), (9, none), (10, none), (11, none), (12, none), (13, none), (14, some none), (15, none), (16, some none)] ?_; have hS := hS.drew; refine zm ?_; refine zm ?_; (first | refine s_gn rfl rfl ?_ | (refine s_gy rfl ?_; refine zm ?_)); (first | refine s_gn rfl rfl ?_ | (refine s_gy rfl ?_; refine Qk rfl ?_)); (first | refine s_gn rfl rfl ?_ | (refine s_gy rfl ?_; refine Q1 rfl ?_)); (first | refine s_gn rfl rfl ?_ | (refine s_gy rfl ?_; refine zl hS ?_)); (first | refine s_gn rfl rfl ?_ | (refine s_gy rfl ?_; refine zm ?_)); (first | refine s_gn rfl rfl ?_ | (refine s_gy rfl ?_; refine Qk rfl ?_)); (first | refine s_gn rfl rfl ?_ | (refine s_gy rfl ?_; refine Q1 rfl ?_)); (first | refine s_gn rfl rfl ?_ | (refine s_gy rfl ?_; refine zl hS ?_)); (first | refine s_gn rfl rfl ?_ | (refine s_gy rfl ?_; refine zm ?_)); (first | refine s_gn rfl rfl ?_ | (refine s_gy rfl ?_; (first | ((first | refine zi ?_ | refine zj ?_); intro b2 o2 cs2 x2 hat2 hx2 he2; obtain ⟨vl2, rfl, hl2⟩ := Qi he2) | (refine zie hS ?_; intro b2 o2 hel2) | (refine zij hS ?_; intro b2 o2 hel2)))); (first | refine s_gn rfl rfl ?_ | (refine s_gy rfl ?_; (first | refine Q1 rfl ?_ | refine Q12 rfl ?_))))
  all_goals ((first | refine s_gn rfl rfl ?_ | (refine s_gy rfl ?_; refine Q4a (j := 1) hS hel2 rfl fd rfl hd rfl ?_)))
  all_goals (first | refine s_gn rfl rfl ?_ | (refine s_gy rfl ?_; refine zR2 (c := rhas_c hS fd) (h := ?_); rintro v1 w1 ⟨rfl, hS⟩; cases hb : hasB s.h t.r))
  all_goals ((first | refine s_gn rfl rfl ?_ | (refine s_gy rfl ?_; refine Q1o rfl ?_)); (first | (refine zpt ?_) | (refine zpf ?_)); refine zn ?_)
  all_goals
    first
    | (refine Q3 rfl ?_ -- Q27 c2
       all_goals (refine Q0 ?_; refine Q2 ?_; refine zm ?_; refine zn ?_; refine zr ?_; refine zf ?_)
       all_goals (first | (refine ⟨_, rfl, ?_, hS.sp⟩; rw [Qv2 (by omega)]; done) | (refine ⟨_, rfl, ?_, hS.sp⟩; rw [Qwn (by omega) ht (by omega)]; done) | (refine ⟨_, rfl, ?_, hS.sp⟩; rw [Qwo (by omega) ht (by omega) hb]; done)))
    | (refine Q4 rfl ?_ -- Q27 c2
       all_goals refine zsk ?_)
  all_goals (refine Q0 ?_; refine Q2 ?_; refine zm ?_; refine zn ?_; refine zr ?_; refine zf ?_)
  all_goals (first | (refine ⟨_, rfl, ?_, hS.sp⟩; rw [Qv2 (by omega)]; done) | (refine ⟨_, rfl, ?_, hS.sp⟩; rw [Qwn (by omega) ht (by omega)]; done) | (refine ⟨_, rfl, ?_, hS.sp⟩; rw [Qwo (by omega) ht (by omega) hb]; done) | (refine ⟨_, rfl, ?_, hS.sp⟩; rw [want_0 (by omega) ht (by omega) (fun h => Bool.noConfusion h)]; done) | (refine ⟨_, rfl, ?_, hS.sp⟩; rw [want_0 (by omega) ht (by omega) (fun _ => hb)]; done))
theorem QtC {s : JS} {l regs : List Int} {want : List Ty} {v1 v2 v3 : Value} (hsh : ∀ t ∈ want, t.Short) (hls : tyR.ls cx css s.l) (h1 : intR.sl cx v1 l) (h2 : tyR.sl cx v2 want) (h3 : intR.sl cx v3 regs) (hS : St cx w (blk j.sp 63 (j.kcells vl) :: Q7p j.hp s.h :: sl 112 3 vl css :: L)) :
    Rets Tryz.prog Q28 [.pointer (some ⟨j.sp, 0, none⟩), v1, v2, v3] w fun u w' => u = .int .i64 (QM (Q6c s l want regs)) ∧ St cx w' (blk j.sp 63 (j.kcells vl) :: Q7p j.hp s.h :: sl 112 3 vl css :: L) := by
  have hl1 := h1.len
  have hl2 := h2.len
  have hlc := hls.1
  have hle := St.refl hS
  have hlsX := hls.2
  unfold Q6c
  all_goals refine QjJ ?_
  all_goals (unfold R_Known_args_lc; refine Q0 ?_; refine Q2 ?_; refine zm ?_; refine zn ?_; refine Q0 ?_; refine Q0 ?_; refine Q2 ?_; refine zm ?_; (first | (refine Q20 hS vw fd hlc ?_) | (refine zL ?_)); refine zm ?_; (first | (refine Q20 hS vw fd hlc ?_) | (refine zL ?_)))
  all_goals (first | (refine QQ ?_) | (refine QR ?_) | (refine Qm rfl rfl (fun hc => ?_) (fun hc => ?_)))
  all_goals (refine zn ?_)
  all_goals
    first
    | (refine Q3 rfl ?_ -- Q28 c0
       all_goals (refine Q0 ?_; refine Q2 ?_; refine zm ?_; refine zn ?_; refine zr ?_; refine zf ?_)
       all_goals (exact ⟨_, rfl, by rw [if_pos (by omega)]; rfl, hS⟩))
    | (refine Q4 rfl ?_ -- Q28 c0
       all_goals refine zsk ?_)
  all_goals (refine Q0 ?_; refine Q0 ?_; refine Q2 ?_; refine zm ?_; refine zn ?_; refine Qa ?_)
  refine zoL hS [0, 1, 2, 3] (fun A LL ρ' w' => ∃ (k0 : Cx) (q : Nat), Has ρ' A ∧ Has ρ' [(9, .int .i64 q)] ∧ (cx.Le k0) ∧ (q ≤ l.length) ∧ (Q2s s regs l want = Q2s s regs (l.drop q) (want.drop q)) ∧ (want.length = l.length) ∧ St k0 w' (LL)) (fun ρ' _ => (l.length - iv (ρ' 9)).toNat) ?_ ?_
  · exact ⟨cx, 0, zh, zh, St.refl hS, (by omega), by rfl, by omega, hS.sp⟩
  rintro ρ w1 ⟨k0, q, hA, hρ, hle2, hq, hd, hw, hS⟩; obtain ⟨ρ, rfl⟩ := env2 hA hρ; have hL0 := hle2; (try have hle := hle.trans hle2); (try have hls := hls.up hle2); (try have h1 := h1.up hle2); (try have h2 := h2.up hle2); (try have h3 := h3.up hle2)
  unfold Q6q
  all_goals (refine Q0 ?_; refine Q0 ?_; refine Q2 ?_; refine zm ?_; refine zm ?_; (first | (refine Q20 hS vw fd hlc ?_) | (refine zL ?_)); refine Qr rfl rfl ?_; refine zn ?_)
  refine Qn rfl (fun hc => ?_) (fun hc => ?_)
  · skip
    all_goals (refine zsk ?_; refine Q0 ?_; refine Qa ?_; refine Q0 ?_; refine Q0 ?_; refine zD [(0, none), (1, none), (2, none), (3, none), (4, none), (5, none), (6, none), (7, none), (8, none), (9, none), (10, none), (11, none), (12, none), (13, none), (14, none), (15, none), (16, some none)] ?_; have hS := hS.drew; refine zm ?_; refine zm ?_; refine zi ?_; intro b1 o1 cs1 x1 hat1 hx1 he1; obtain rfl := QJ he1; (first | (refine zl hS ?_) | (refine zlk hS ?_)))
    all_goals (first | (refine Q1V ?_) | (refine Q1W ?_) | (refine QG rfl rfl (fun hc => ?_) (fun hc => ?_)))
    all_goals (refine zm ?_; (first | refine s_gn rfl rfl ?_ | (refine s_gy rfl ?_; refine zm ?_)); (first | refine s_gn rfl rfl ?_ | (refine s_gy rfl ?_; refine zm ?_)); (first | refine s_gn rfl rfl ?_ | (refine s_gy rfl ?_; refine Q5d vw rfl h1 rfl (by omega) ?_; intro b8 o8 cs8 x8 hat8 hx8 he8; obtain rfl := QJ he8; obtain rfl : x1 = x8 := Option.some.inj (hx1.symm.trans hx8))); (first | refine s_gn rfl rfl ?_ | (refine s_gy rfl ?_; (first | (refine zl hS ?_) | (refine zlk hS ?_)))); (first | refine s_gn rfl rfl ?_ | (refine s_gy rfl ?_; refine zm ?_)); (first | refine s_gn rfl rfl ?_ | (refine s_gy rfl ?_; refine Qk rfl ?_)); (first | refine s_gn rfl rfl ?_ | (refine s_gy rfl ?_; refine Q1 rfl ?_)); (first | refine s_gn rfl rfl ?_ | (refine s_gy rfl ?_; refine zl hS ?_)); (first | refine s_gn rfl rfl ?_ | (refine s_gy rfl ?_; refine Q20 hS vw fd hlc ?_)))
    all_goals (first | refine s_gn rfl rfl ?_ | (refine s_gy rfl ?_; (first | (refine Q3t ?_) | (refine Q3u ?_) | (refine Q1F rfl rfl (fun hc => ?_) (fun hc => ?_)))))
    all_goals ((first | (refine zpt ?_) | (refine zpf ?_)); refine zn ?_)
    all_goals
      first
      | (refine Q4 rfl ?_ -- Q28 c2
         all_goals refine zsk ?_)
      | (refine Q3 rfl ?_ -- Q28 c2
         all_goals (refine Q0 ?_; refine Q2 ?_; refine zm ?_; refine zn ?_; refine zr ?_; refine zf ?_)
         all_goals (first | (exact ⟨_, rfl, by rw [if_pos (by omega)]; rfl, hS⟩) | (exact ⟨_, rfl, by rw [if_neg (by omega), hd, QoN hx1 (List.getElem?_eq_getElem (by omega)) (Q63 (by omega))]; rfl, St.weak hS.sp hL0⟩)))
    all_goals (refine Q0 ?_; obtain ⟨t, ht⟩ : ∃ t, s.l[x1.toNat]? = some t := ⟨_, List.getElem?_eq_getElem (by omega)⟩; obtain ⟨d, hdt, hrd⟩ := hls.2 _ _ ht; have g1 := Q4c (by omega) ht; refine Q2 ?_; refine zm ?_; refine zm ?_; refine zi ?_; intro b2 o2 cs2 x2 hat2 hx2 he2; obtain ⟨vl2, rfl, hl2⟩ := Qi he2; (first | (refine zv hS ?_) | (refine zvk hS ?_)); refine zm ?_)
    all_goals (refine zR2 (c := QwU x2 (hsh x2 (List.mem_of_getElem? hx2)) he2 h3 hS) (h := ?_); rintro v1 w1 ⟨c3, ds, rfl, hle2, hu3, hS⟩; (try have hle := hle.trans hle2); (try have hL0 := hL0.trans hle2); (try have hl2 := hl2.up hle2); (try have he2 := he2.up hle2); (try have hls := hls.up hle2); (try have h1 := h1.up hle2); (try have h2 := h2.up hle2); (try have h3 := h3.up hle2); have hrd := Rep.R.up hrd hle2; have hrd' := hrd; obtain ⟨vd, rfl, hld⟩ := Qi hrd; rcases hn : x2.ren regs with _ | y <;> rw [hn] at hu3 <;> simp only [Option.getD_none, Option.getD_some] at hu3 <;> (have hu3' := hu3) <;> obtain ⟨vu, rfl, hlu⟩ := Qi hu3)
    all_goals (refine zm ?_; refine Q47 rfl rfl ?_; refine Q47 rfl rfl ?_; refine Qb hS ?_; intro p10 w1 hS; refine zsn hS ?_; intro w1 hS; have hS := hS.ns; refine zm ?_; refine zn ?_; refine Q0 ?_; refine zD [(0, none), (1, none), (2, none), (3, none), (4, none), (5, none), (6, none), (7, none), (8, none), (9, none), (10, none), (11, none), (12, none), (13, none), (14, some none), (15, none), (16, some none)] ?_; have hS := hS.drew; refine zm ?_; refine Q1o rfl ?_; refine zm ?_; (first | refine s_gn rfl rfl ?_ | (refine s_gy rfl ?_; refine zv hS ?_)); (first | refine s_gn rfl rfl ?_ | (refine s_gy rfl ?_; refine zm ?_)); (first | refine s_gn rfl rfl ?_ | (refine s_gy rfl ?_; refine Qk rfl ?_)); (first | refine s_gn rfl rfl ?_ | (refine s_gy rfl ?_; refine Q1 rfl ?_)); (first | refine s_gn rfl rfl ?_ | (refine s_gy rfl ?_; refine zl hS ?_)); (first | refine s_gn rfl rfl ?_ | (refine s_gy rfl ?_; refine zm ?_)); (first | refine s_gn rfl rfl ?_ | (refine s_gy rfl ?_; refine zm ?_)); (first | refine s_gn rfl rfl ?_ | (refine s_gy rfl ?_; refine Q5d vw rfl h1 rfl (by omega) ?_; intro b4 o4 cs4 x4 hat4 hx4 he4; obtain rfl := QJ he4; obtain rfl : x1 = x4 := Option.some.inj (hx1.symm.trans hx4))); (first | refine s_gn rfl rfl ?_ | (refine s_gy rfl ?_; (first | (refine zl hS ?_) | (refine zlk hS ?_)))))
    all_goals ((first | refine s_gn rfl rfl ?_ | (refine s_gy rfl ?_; refine Q3O hS vw rfl fd (by omega) (by omega) ?_; intro b5 o5 hel5)); (first | refine s_gn rfl rfl ?_ | (refine s_gy rfl ?_; refine Qgo hS hel5 rfl fd rfl hdt ?_)))
    all_goals (first | refine s_gn rfl rfl ?_ | (refine s_gy rfl ?_; refine zR2 (c := Qty _ _ hu3' hrd' hS) (h := ?_); rintro v1 w1 ⟨rfl, hS⟩; cases hdc : decide (y = t)))
    all_goals ((first | refine s_gn rfl rfl ?_ | (refine s_gy rfl ?_; refine Q1o rfl ?_)); (first | (refine zpt ?_) | (refine zpf ?_)); refine zn ?_)
    all_goals
      first
      | (refine Q3 rfl ?_ -- Q28 c3
         all_goals (refine Q0 ?_; refine Q2 ?_; refine zm ?_; refine zn ?_; refine zr ?_; refine zf ?_)
         all_goals (first | (exact ⟨_, rfl, by rw [if_pos (by omega)]; rfl, hS⟩) | (exact ⟨_, rfl, by rw [if_neg (by omega), hd, QoN hx1 (List.getElem?_eq_getElem (by omega)) (Q63 (by omega))]; rfl, St.weak hS.sp hL0⟩) | (exact ⟨_, rfl, by rw [if_neg (by omega), hd, QhW hx1 hx2 g1 hn]; rfl, St.weak hS.sp hL0⟩) | (exact ⟨_, rfl, by rw [if_neg (by omega), hd, QhX hx1 hx2 g1 hn (fun h => of_decide_eq_false hdc h.symm)]; rfl, St.weak hS.sp hL0⟩)))
      | (refine Q4 rfl ?_ -- Q28 c3
         all_goals refine zsk ?_)
    all_goals (refine Q2 ?_; refine zm ?_; refine zad ?_; refine zm ?_; refine zn ?_; exact ⟨⟨_, q + 1, zh, zh, hL0, (by omega), by rw [hd, Qxm hx1 hx2 g1 hn (of_decide_eq_true hdc).symm], hw, hS.sp⟩, Qo (by omega)⟩)
  · skip
    all_goals (refine zex ?_; refine Q0 ?_; refine Q2 ?_; refine zm ?_; refine zn ?_; refine zr ?_; refine zf ?_)
    all_goals (first | (exact ⟨_, rfl, by rw [if_pos (by omega)]; rfl, hS⟩) | (exact ⟨_, rfl, by rw [if_neg (by omega), hd, QoN hx1 (List.getElem?_eq_getElem (by omega)) (Q63 (by omega))]; rfl, St.weak hS.sp hL0⟩) | (exact ⟨_, rfl, by rw [if_neg (by omega), hd, QhW hx1 hx2 g1 hn]; rfl, St.weak hS.sp hL0⟩) | (exact ⟨_, rfl, by rw [if_neg (by omega), hd, QhX hx1 hx2 g1 hn (fun h => of_decide_eq_false hdc h.symm)]; rfl, St.weak hS.sp hL0⟩) | (exact ⟨_, rfl, by rw [if_neg (by omega), hd, Qxl (by omega)]; rfl, St.weak hS.sp hL0⟩))
theorem Qgr {xs : List Int} {v : Value} (hn : xs.length ≤ 1000) (hS : St cx w (sl 3 1 v (xs.map Q3d) :: L)) : Rets Tryz.prog QpF [v] w fun u w' => u = .int .i64 (Q24 xs) ∧ St cx w' (sl 3 1 v (xs.map Q3d) :: L) := by
  have hlc : (xs.map Q3d).length = xs.length := List.length_map _
  all_goals refine Qwf ?_
  all_goals (unfold R_first_lc; refine Q0 ?_; refine Q2 ?_; refine zm ?_; refine zn ?_; refine Q0 ?_; refine Q0 ?_; refine Q2 ?_; refine zm ?_; refine zn ?_; refine Qa ?_)
  refine zoL hS [0] (fun A LL ρ' w' => ∃ (q : Nat), Has ρ' A ∧ Has ρ' [(3, .int .i64 q)] ∧ (q ≤ xs.length) ∧ (Q24 xs = Q24 (xs.drop q)) ∧ St cx w' (LL)) (fun ρ' _ => (xs.length - iv (ρ' 3)).toNat) ?_ ?_
  · exact ⟨0, zh, zh, (by omega), by rfl, hS.sp⟩
  rintro ρ w1 ⟨q, hA, hρ, hq, hd, hS⟩; obtain ⟨ρ, rfl⟩ := env2 hA hρ
  unfold Qod
  all_goals (refine Q0 ?_; refine Q0 ?_; refine Q2 ?_; refine zm ?_; refine zm ?_; refine Q20 hS vw fd hlc ?_; refine Qr rfl rfl ?_; refine zn ?_)
  refine Qn rfl (fun hc => ?_) (fun hc => ?_)
  · skip
    all_goals (refine zsk ?_; refine Q0 ?_; refine Qa ?_; refine Q0 ?_; obtain ⟨x, hx⟩ : ∃ x, xs[q]? = some x := ⟨_, List.getElem?_eq_getElem (by omega)⟩; have hxc : (xs.map Q3d)[q]? = some (Q3d x) := (by rw [List.getElem?_map, hx]; rfl); refine Q2 ?_; refine zm ?_; refine zm ?_; refine QwJ hS vw rfl fd (by omega) ?_; intro b1 o1 hel1; refine Q29 hS hel1 rfl fd rfl hxc rfl ?_)
    all_goals (first | (refine QQ ?_) | (refine QR ?_) | (refine Qm rfl rfl (fun hc => ?_) (fun hc => ?_)))
    all_goals (refine zn ?_)
    all_goals
      first
      | (refine Q3 rfl ?_ -- QpF c1
         all_goals (refine Q0 ?_; refine Q2 ?_; refine zm ?_; refine zm ?_; refine QwJ hS vw rfl fd (by omega) ?_; intro b2 o2 hel2; refine Q29 hS hel2 rfl fd rfl hxc rfl ?_; refine zm ?_; refine zn ?_; refine zr ?_; refine zf ?_)
         all_goals (refine ⟨_, rfl, ?_, hS.sp⟩; rw [hd, Q7 hx, Q24, if_pos (by omega)]; done))
      | (refine Q4 rfl ?_ -- QpF c1
         all_goals refine zsk ?_)
    all_goals (refine Q2 ?_; refine zm ?_; refine zad ?_; refine zm ?_; refine zn ?_; exact ⟨⟨q + 1, zh, zh, (by omega), by rw [hd, Q7 hx, Q24, if_neg (by omega)], hS.sp⟩, Qo (by omega)⟩)
  · skip
    all_goals (refine zex ?_; refine Q0 ?_; refine Q2 ?_; refine zm ?_; refine zn ?_; refine zr ?_; refine zf ?_; (first | (refine ⟨_, rfl, ?_, hS.sp⟩; rw [hd, Q7 hx, Q24, if_pos (by omega)]; done) | (refine ⟨_, rfl, ?_, hS.sp⟩; rw [hd, List.drop_of_length_le (by omega)]; rfl; done)))
end Go.Proofs.YtanlkfeogoganaaGreat
namespace Go.Proofs.YtanlkfeogoganaaGreat
open Go.Lir
set_option maxHeartbeats 1000000
attribute [local irreducible] LC.wp Q5 Q11 Q1f retQ Q2h LO.wp QD Calls
set_option linter.unusedSimpArgs false
set_option linter.unusedVariables false
attribute [local irreducible] hasB Q21 Q1N Q1Q Q3S upTo Q1b Q24 rmk
variable {cx : Cx} {w : World} {L : List Res} {j : JP} {h : List Bool} {vl : Value} {css : List (List Value)} {i : Nat} {m : Module}

@[reducible] def KLf (j : JP) (s : JS) (vl : Value) (css : List (List Value)) (L : List Res) : List Res := blk j.sp 63 (j.kcells vl) :: Q7p j.hp s.h :: sl 112 3 vl css :: L
theorem rmakes_c {s : JS} {x : Ins} {cs : List Value} (hm : m.Short) (hF : QF m.funcs.length x = 0) (hg : JGood s) (hj : j.Fits cx m) (hx : insR.at cx cs x) (hls : tyR.ls cx css s.l) (hS : St cx w (blk j.sp 63 (j.kcells vl) :: Q7p j.hp s.h :: sl 112 3 vl css :: L)) :
    Rets Tryz.prog Q8 [.pointer (some ⟨j.sp, 0, none⟩), .agg ⟨cs⟩] w fun u w' => ∃ c' v, cx.Le c' ∧ u = .tuple #[v, .int .i64 (QM (rmk m j.f s x))] ∧ (∀ ts, rmk m j.f s x = .ok ts → tyR.sl c' v ts) ∧ St c' w' (blk j.sp 63 (j.kcells vl) :: Q7p j.hp s.h :: sl 112 3 vl css :: L) := by
  have hx' := hx
  have hop := Q4K hF
  have hlc := hls.1
  have hn := hg.n
  have hm1 := hj.m
  have hN : ∀ {c : Cx}, tyR.at c [.int .i64 1, .int .i64 0, .slice none 0 0] number := Q1X (Rep.SR.nil _ _ _)
  obtain ⟨vr, va, rfl, hr, ha⟩ := Q1h hx
  have hlr := hr.len
  have hla := ha.len
  all_goals refine QfX ?_
  all_goals (unfold R_Known_makes_lc; refine Q0 ?_; refine Q2 ?_; refine zb hS ?_; intro p3 w1 hS; refine zm ?_; refine zm ?_; refine zn ?_; refine Q0 ?_; refine Q2 ?_; refine zb1 [_, _, _] ?_; refine Q35 (cs := [_, _, _]) vw (by rfl) ?_; intro nb w1 hb1 hf1 _ hk1; have hS := hS.laid hb1 hf1 hk1; refine zm ?_; refine zn ?_; refine Q0 ?_; refine Q0 ?_; refine Q2 ?_; refine Q1 rfl ?_; refine zl hS ?_; refine zn ?_; refine Qa ?_; refine Q0 ?_; refine Q0 ?_; refine Q2 ?_)
  all_goals (first | (refine Qw ?_) | (refine Qy ?_) | (refine Ql rfl rfl (fun hc => ?_) (fun hc => ?_)))
  all_goals (refine zm ?_; refine zn ?_)
  all_goals
    first
    | (refine Q3 rfl ?_ -- Q8 c0
       all_goals refine zsk ?_)
    | (refine Q4 rfl ?_ -- Q8 c0
       all_goals (refine Q2 ?_)
       all_goals (first | (refine Qw ?_) | (refine Qy ?_) | (refine Ql rfl rfl (fun hc => ?_) (fun hc => ?_)))
       all_goals (refine zm ?_)
       all_goals refine zn ?_)
  all_goals
    first
    | (refine Q3 rfl ?_ -- Q8 c1
       all_goals (refine Q0 ?_; refine Q2 ?_; refine zm ?_; refine zm ?_; refine zm ?_; refine zn ?_; have hM : rmk m j.f s x = .ok [number] := rmk_1 (by omega); refine zr ?_; refine zf2 ?_)
       all_goals (first | (exact ⟨_, rfl, cx, _, St.refl hS, cd_e hM, Q2E hM, hS.sp⟩) | (exact ⟨_, rfl, cx, _, St.refl hS, cd_o hM, Q1j hM (Rep.SR.nil _ _ _), hS.sp⟩) | (exact ⟨_, rfl, cx, _, St.refl hS, cd_w hM hw, Q1j hM (Rep.SR.nil _ _ _), hS.sp⟩) | (obtain ⟨c9, hle9, hS, hk9⟩ := St.freeze1 (r := tyR) (L := KLf j s vl css L) hS.sp (hN : tyR.at _ _ number); exact ⟨_, rfl, c9, _, hle9, cd_c hC, Q6l hT hk9, hS⟩) | (obtain ⟨c9, hle9, hS, hk9⟩ := St.freeze1 (r := tyR) (L := KLf j s vl css L) hS.sp (hN : tyR.at _ _ number); exact ⟨_, rfl, c9, _, hle9, cd_o hM, Q1j hM hk9, hS⟩)))
    | (refine Q4 rfl ?_ -- Q8 c1
       all_goals (refine Q0 ?_; refine Q2 ?_)
       all_goals (first | (refine Qw ?_) | (refine Qy ?_) | (refine Ql rfl rfl (fun hc => ?_) (fun hc => ?_)))
       all_goals (refine zm ?_; refine zn ?_)
       all_goals
         first
         | (refine Q3 rfl ?_ -- Q8 c2
            all_goals (refine Q0 ?_; refine zC [(0, none), (1, none), (2, none), (3, none), (5, none), (6, none), (7, none), (4, some (some [7])), (8, some (some [])), (9, some (some [])), (10, some (some [])), (11, none), (12, some none)] ?_; have hS := hS.drew; refine s_cq ?_; refine zm ?_; refine zt ?_; refine s_cq ?_; refine zm ?_; refine zt ?_; refine s_cq ?_; refine Q1 rfl ?_; refine zt ?_; refine s_cq ?_; refine zl hS ?_; refine zt ?_; refine s_cq ?_; refine zm ?_; refine zt ?_; refine s_cq ?_; refine Q1 rfl ?_; refine zt ?_; refine s_cq ?_; refine zl hS ?_; refine zt ?_; refine QE ?_; refine zR4 (c := Q2M (s := s) (k := x.a) (kd := 1) (held := false) hls hS.p3) (h := ?_); rintro v1 w1 ⟨rfl, hS⟩; refine zt ?_; refine zy ?_; refine QE ?_; refine zR4 (c := Q2M (s := s) (k := x.b) (kd := 1) (held := false) hls hS.p3) (h := ?_); rintro v1 w1 ⟨rfl, hS⟩; refine zt ?_; refine zy ?_; refine QE ?_; refine Qhx (cs := [_, _]) vw vw (by rfl) ?_; intro fb w1 hb1 hf1 _ hk1; have hS := hS.laid hb1 hf1 hk1; have hS := St.slOf (es := 1) (css := [Q1b s x.a 1 false, Q1b s x.b 1 false].map Q3d) hS rfl (by simp [Q3d]) rfl; refine zt ?_; refine zy ?_; refine QE ?_; refine zR1 (c := Qgr (xs := [Q1b s x.a 1 false, Q1b s x.b 1 false]) (by simp) hS) (h := ?_); rintro v1 w1 ⟨rfl, hS⟩)
            all_goals (refine zt ?_; refine zy ?_; refine s_cq ?_; refine zm ?_; refine zt ?_; refine s_cf ?_; refine zm ?_; refine zt ?_; refine zcn ?_)
            all_goals (have hC : QM (rmk m j.f s x) = Q24 [Q1b s x.a 1 false, Q1b s x.b 1 false] := (by rw [rmk_2 (by omega), Q4W, Q4W]; exact QoR (Q3p _ _ _) (Q3p _ _ _) _); have hT : ∀ ts, rmk m j.f s x = .ok ts → ts = [number] := (fun ts h => by rw [rmk_2 (by omega)] at h; exact ok1 h fun _ h => ok1 h fun _ h => by cases h; rfl))
            all_goals (refine zr ?_; refine zf2 ?_)
            all_goals (first | (exact ⟨_, rfl, cx, _, St.refl hS, cd_e hM, Q2E hM, hS.sp⟩) | (exact ⟨_, rfl, cx, _, St.refl hS, cd_o hM, Q1j hM (Rep.SR.nil _ _ _), hS.sp⟩) | (exact ⟨_, rfl, cx, _, St.refl hS, cd_w hM hw, Q1j hM (Rep.SR.nil _ _ _), hS.sp⟩) | (obtain ⟨c9, hle9, hS, hk9⟩ := St.freeze1 (r := tyR) (L := KLf j s vl css L) hS.sp (hN : tyR.at _ _ number); exact ⟨_, rfl, c9, _, hle9, cd_c hC, Q6l hT hk9, hS⟩)))
         | (refine Q4 rfl ?_ -- Q8 c2
            all_goals (refine Q0 ?_; refine Q2 ?_)
            all_goals (first | (refine Qw ?_) | (refine Qy ?_) | (refine Ql rfl rfl (fun hc => ?_) (fun hc => ?_)))
            all_goals (refine zm ?_; refine zn ?_)
            all_goals
              first
              | (refine Q3 rfl ?_ -- Q8 c3
                 all_goals (refine Q0 ?_; refine Q0 ?_; refine Q2 ?_; refine zm ?_; refine Qk rfl ?_; refine Q1 rfl ?_; refine zl hS ?_; refine Qk rfl ?_; refine Q1 rfl ?_; obtain ⟨vh, hS⟩ := Q3Z (hp := j.hp) (h := s.h) (L := blk j.sp 63 (j.kcells vl) :: sl 112 3 vl css :: blk nb 112 [.int .i64 1, .int .i64 0, .slice none 0 0] :: blk p3 57 [.int .i64 x.op, .int .i64 x.a, .int .i64 x.b, .int .i64 x.c, .int .i64 x.k, .int .i64 x.n, vr, va] :: L) hS.sp; refine Qoy hS vw fd rfl ?_; refine Q20 hS vw fd (List.length_map _) ?_; have hS := Q3r (L := blk j.sp 63 (j.kcells vl) :: sl 112 3 vl css :: blk nb 112 [.int .i64 1, .int .i64 0, .slice none 0 0] :: blk p3 57 [.int .i64 x.op, .int .i64 x.a, .int .i64 x.b, .int .i64 x.c, .int .i64 x.k, .int .i64 x.n, vr, va] :: L) (h := s.h) (hp := j.hp) (v := vh) hS.sp)
                 all_goals (first | (refine Qw ?_) | (refine Qy ?_) | (refine Ql rfl rfl (fun hc => ?_) (fun hc => ?_)))
                 all_goals (refine zn ?_)
                 all_goals
                   first
                   | (refine Q3 rfl ?_ -- Q8 c4
                      all_goals (refine Q0 ?_; refine Q2 ?_; refine zm ?_; refine zm ?_; refine zn ?_; have hM : rmk m j.f s x = .error 2 := (by rw [rmk_3 (by omega)]; exact if_pos (by omega)); refine zr ?_; refine zf2 ?_)
                      all_goals (exact ⟨_, rfl, cx, _, St.refl hS, cd_e hM, Q2E hM, hS.sp⟩))
                   | (refine Q4 rfl ?_ -- Q8 c4
                      all_goals refine zsk ?_)
                 all_goals (refine Q0 ?_; refine Q2 ?_; refine zm ?_; refine Qk rfl ?_; refine Q1 rfl ?_; refine zl hS ?_; refine Qk rfl ?_; refine Q1 rfl ?_; obtain ⟨vh, hS⟩ := Q3Z (hp := j.hp) (h := s.h) (L := blk j.sp 63 (j.kcells vl) :: sl 112 3 vl css :: blk nb 112 [.int .i64 1, .int .i64 0, .slice none 0 0] :: blk p3 57 [.int .i64 x.op, .int .i64 x.a, .int .i64 x.b, .int .i64 x.c, .int .i64 x.k, .int .i64 x.n, vr, va] :: L) hS.sp; refine Qoy hS vw fd rfl ?_; refine Q20 hS vw fd (List.length_map _) ?_; have hS := Q3r (L := blk j.sp 63 (j.kcells vl) :: sl 112 3 vl css :: blk nb 112 [.int .i64 1, .int .i64 0, .slice none 0 0] :: blk p3 57 [.int .i64 x.op, .int .i64 x.a, .int .i64 x.b, .int .i64 x.c, .int .i64 x.k, .int .i64 x.n, vr, va] :: L) (h := s.h) (hp := j.hp) (v := vh) hS.sp; refine zb2 [_, _, _] ?_; refine Q35 (cs := [_, _, _]) vw (by rfl) ?_; intro ob w1 hb1 hf1 _ hk1; have hS := hS.laid hb1 hf1 hk1; refine zm ?_; refine zm ?_; refine zn ?_; have hM : rmk m j.f s x = .ok [.mk 2 s.h.length []] := (by rw [rmk_3 (by omega)]; exact if_neg (by omega)); have hrow : ∀ {c : Cx}, tyR.at c [.int .i64 2, .int .i64 s.h.length, .slice none 0 0] (.mk 2 s.h.length []) := Q1X (Rep.SR.nil _ _ _))
                 all_goals (refine zr ?_; refine zf2 ?_)
                 all_goals (first | (exact ⟨_, rfl, cx, _, St.refl hS, cd_e hM, Q2E hM, hS.sp⟩) | (exact ⟨_, rfl, cx, _, St.refl hS, cd_o hM, Q1j hM (Rep.SR.nil _ _ _), hS.sp⟩) | (exact ⟨_, rfl, cx, _, St.refl hS, cd_w hM hw, Q1j hM (Rep.SR.nil _ _ _), hS.sp⟩) | (obtain ⟨c9, hle9, hS, hk9⟩ := St.freeze1 (r := tyR) (L := KLf j s vl css L) hS.sp (hN : tyR.at _ _ number); exact ⟨_, rfl, c9, _, hle9, cd_c hC, Q6l hT hk9, hS⟩) | (obtain ⟨c9, hle9, hS, hk9⟩ := St.freeze1 (r := tyR) (L := KLf j s vl css L) hS.sp (hN : tyR.at _ _ number); exact ⟨_, rfl, c9, _, hle9, cd_o hM, Q1j hM hk9, hS⟩) | (obtain ⟨c9, hle9, hS, hk9⟩ := St.freeze1 (r := tyR) (L := KLf j s vl css L) hS.sp hrow; exact ⟨_, rfl, c9, _, hle9, cd_o hM, Q1j hM hk9, hS⟩)))
              | (refine Q4 rfl ?_ -- Q8 c3
                 all_goals (refine Q0 ?_; refine Q2 ?_)
                 all_goals (first | (refine Qw ?_) | (refine Qy ?_) | (refine Ql rfl rfl (fun hc => ?_) (fun hc => ?_)))
                 all_goals (refine zm ?_; refine zn ?_)
                 all_goals
                   first
                   | (refine Q3 rfl ?_ -- Q8 c5
                      all_goals (refine Q0 ?_; refine Q2 ?_; refine zm ?_; refine Q1 rfl ?_; refine zl hS ?_; refine zR4 (c := Q2M (s := s) (k := x.a) (kd := 2) (held := true) hls hS.p3) (h := ?_); rintro v1 w1 ⟨rfl, hS⟩; refine zm ?_; refine zn ?_)
                      all_goals (rcases Decidable.em (Q1b s x.a 2 true = 0) with hw | hw; rotate_left; have hM : rmk m j.f s x = .error (Q1b s x.a 2 true) := (by rw [Qtz (by omega), Qu (QgA hw)]); rotate_left; obtain ⟨t, g0, g1, ht, hk, hb, hjt⟩ := Qog (s := s) (k := x.a) (kd := 2) (by omega); obtain ⟨d, hd, hrd⟩ := hls.2 _ _ ht; have hrt := hrd; obtain ⟨vd, rfl, hld⟩ := Qi hrd)
                      all_goals (refine Q0 ?_; refine Q0 ?_; refine zD [(0, none), (1, none), (2, none), (3, none), (4, none), (5, none), (6, none), (7, none), (8, none), (9, none), (10, none), (11, none), (12, none), (13, none), (14, none), (15, none), (16, none), (17, none), (18, some none)] ?_; have hS := hS.drew; refine zm ?_)
                      all_goals (first | (refine Qw ?_) | (refine Qy ?_))
                      all_goals (refine zm ?_; (first | refine s_gn rfl rfl ?_ | (refine s_gy rfl ?_; refine zm ?_)); (first | refine s_gn rfl rfl ?_ | (refine s_gy rfl ?_; refine Qk rfl ?_)); (first | refine s_gn rfl rfl ?_ | (refine s_gy rfl ?_; refine Q1 rfl ?_)); (first | refine s_gn rfl rfl ?_ | (refine s_gy rfl ?_; refine zl hS ?_)); (first | refine s_gn rfl rfl ?_ | (refine s_gy rfl ?_; refine Q1 rfl ?_)); (first | refine s_gn rfl rfl ?_ | (refine s_gy rfl ?_; refine zl hS ?_)); (first | refine s_gn rfl rfl ?_ | (refine s_gy rfl ?_; refine Q3O hS vw rfl fd (by omega) (by omega) ?_; intro b1 o1 hel1)); (first | refine s_gn rfl rfl ?_ | (refine s_gy rfl ?_; (first | refine Q1 rfl ?_ | refine Q12 rfl ?_))); (first | refine s_gn rfl rfl ?_ | (refine s_gy rfl ?_; refine Q4a (j := 1) hS hel1 rfl fd rfl hd rfl ?_)); (first | refine s_gn rfl rfl ?_ | (refine s_gy rfl ?_; refine zm ?_)); (first | refine s_gn rfl rfl ?_ | (refine s_gy rfl ?_; refine Qk rfl ?_)); (first | refine s_gn rfl rfl ?_ | (refine s_gy rfl ?_; refine Q1 rfl ?_)); (first | refine s_gn rfl rfl ?_ | (refine s_gy rfl ?_; (first | refine Q1 rfl ?_ | refine Q12 rfl ?_))); (first | refine s_gn rfl rfl ?_ | (refine s_gy rfl ?_; refine zl hS ?_)))
                      all_goals (first | refine s_gn rfl rfl ?_ | (refine s_gy rfl ?_; (first | (refine Q1V ?_) | (refine Q1W ?_) | (refine QG rfl rfl (fun hc => ?_) (fun hc => ?_)))))
                      all_goals ((first | (refine zpt ?_) | (refine zpf ?_)); refine zn ?_)
                      all_goals
                        first
                        | (refine Q3 rfl ?_ -- Q8 c6
                           all_goals (refine Q2 ?_; refine zm ?_)
                           all_goals refine zn ?_)
                        | (refine Q4 rfl ?_ -- Q8 c6
                           all_goals refine zsk ?_)
                      all_goals (refine Q0 ?_; refine Q2 ?_; refine zm ?_; refine zm ?_; refine zm ?_; refine zn ?_; refine zr ?_; refine zf2 ?_)
                      all_goals (first | (exact ⟨_, rfl, cx, _, St.refl hS, cd_e hM, Q2E hM, hS.sp⟩) | (exact ⟨_, rfl, cx, _, St.refl hS, cd_o hM, Q1j hM (Rep.SR.nil _ _ _), hS.sp⟩) | (exact ⟨_, rfl, cx, _, St.refl hS, cd_w hM hw, Q1j hM (Rep.SR.nil _ _ _), hS.sp⟩) | (obtain ⟨c9, hle9, hS, hk9⟩ := St.freeze1 (r := tyR) (L := KLf j s vl css L) hS.sp (hN : tyR.at _ _ number); exact ⟨_, rfl, c9, _, hle9, cd_c hC, Q6l hT hk9, hS⟩) | (obtain ⟨c9, hle9, hS, hk9⟩ := St.freeze1 (r := tyR) (L := KLf j s vl css L) hS.sp (hN : tyR.at _ _ number); exact ⟨_, rfl, c9, _, hle9, cd_o hM, Q1j hM hk9, hS⟩) | (obtain ⟨c9, hle9, hS, hk9⟩ := St.freeze1 (r := tyR) (L := KLf j s vl css L) hS.sp hrow; exact ⟨_, rfl, c9, _, hle9, cd_o hM, Q1j hM hk9, hS⟩) | (obtain ⟨c9, hle9, hS, hk9⟩ := St.freeze1 (r := tyR) (L := KLf j s vl css L) hS.sp hrow; exact ⟨_, rfl, c9, _, hle2.trans hle9, cd_o hM, Q1j hM hk9, hS⟩) | (exact ⟨_, rfl, c1, _, hle2, cd_e hM, Q2E hM, hS.sp⟩) | (exact ⟨_, rfl, cx, _, St.refl hS, cd_c hC, Q6l hT (Rep.SR.nil _ _ _), hS.sp⟩) | (have hM : rmk m j.f s x = .error 11 := (by rw [Qtz (by omega), Q9 hjt, if_pos (by omega)]); exact ⟨_, rfl, cx, _, St.refl hS, cd_e hM, Q2E hM, hS.sp⟩) | (have hM : rmk m j.f s x = .ok [] := (by rw [Qtz (by omega), Q9 hjt, if_neg (by omega)]); exact ⟨_, rfl, cx, _, St.refl hS, cd_w hM hw, Q1j hM (Rep.SR.nil _ _ _), hS.sp⟩)))
                   | (refine Q4 rfl ?_ -- Q8 c5
                      all_goals (refine Q0 ?_; refine Q2 ?_)
                      all_goals (first | (refine Qw ?_) | (refine Qy ?_) | (refine Ql rfl rfl (fun hc => ?_) (fun hc => ?_)))
                      all_goals (refine zm ?_; refine zn ?_)
                      all_goals
                        first
                        | (refine Q3 rfl ?_ -- Q8 c7
                           all_goals (refine Q0 ?_; refine Q0 ?_; refine Q2 ?_; refine zm ?_; refine Q1 rfl ?_; refine zl hS ?_; refine zR4 (c := Q2M (s := s) (k := x.a) (kd := 2) (held := true) hls hS.p3) (h := ?_); rintro v1 w1 ⟨rfl, hS⟩; refine zm ?_; refine zn ?_; refine Q0 ?_; refine Q2 ?_; refine zm ?_)
                           all_goals (first | (refine QQ ?_) | (refine QR ?_) | (refine Qm rfl rfl (fun hc => ?_) (fun hc => ?_)))
                           all_goals (refine zn ?_)
                           all_goals
                             first
                             | (refine Q3 rfl ?_ -- Q8 c8
                                all_goals (refine Q0 ?_; refine Q2 ?_; refine zm ?_; refine zm ?_; refine zm ?_; refine zn ?_; have hM : rmk m j.f s x = .error (Q1b s x.a 2 true) := (by rw [QwX (by omega), Qu (QgA (by omega))]); refine zr ?_; refine zf2 ?_)
                                all_goals (exact ⟨_, rfl, cx, _, St.refl hS, cd_e hM, Q2E hM, hS.sp⟩))
                             | (refine Q4 rfl ?_ -- Q8 c8
                                all_goals refine zsk ?_)
                           all_goals (refine Q0 ?_; have hal := QeA hF (by omega); obtain ⟨t, g0, g1, ht, hk, hb, hjt⟩ := Qog (s := s) (k := x.a) (kd := 2) (by omega); obtain ⟨d, hd, hrd⟩ := hls.2 _ _ ht; have hrt := hrd; obtain ⟨vd, rfl, hld⟩ := Qi hrd; refine zC [(0, none), (1, none), (2, none), (3, none), (4, none), (5, none), (6, none), (7, none), (8, none), (9, none), (10, some (some [3, 5, 8])), (11, some none)] ?_; have hS := hS.drew; refine s_cq ?_; refine zm ?_; refine zt ?_; refine s_cq ?_; refine Qk rfl ?_; refine zt ?_; refine s_cq ?_; refine Q1 rfl ?_; refine zt ?_; refine s_cq ?_; refine zl hS ?_; refine zt ?_; refine s_cq ?_; refine Q1 rfl ?_; refine zt ?_; refine s_cq ?_; refine zl hS ?_; refine zt ?_; refine s_cq ?_; refine Q3O hS vw rfl fd (by omega) (by omega) ?_; intro b1 o1 hel1; refine zt ?_; refine s_cq ?_; (first | refine Q1 rfl ?_ | refine Q12 rfl ?_); refine zt ?_; refine s_cq ?_; refine Q4a (j := 1) hS hel1 rfl fd rfl hd rfl ?_; refine zt ?_; refine s_cq ?_; refine zb2 [_, _, _] ?_; refine zt ?_; refine QE ?_; refine Qb hS ?_; intro p9 w1 hS; refine zt ?_; refine ⟨List.forall_mem_cons.2 ⟨(by first | (exact Q4e (j := 1) hS hel1 rfl fd rfl hd rfl) | (exact Q1O hS rfl fd rfl)), List.forall_mem_cons.2 ⟨(by first | (exact Q4e (j := 1) hS hel1 rfl fd rfl hd rfl) | (exact Q1O hS rfl fd rfl)), List.forall_mem_cons.2 ⟨(by (exact Q4e (j := 1) hS hel1 rfl fd rfl hd rfl)), fun _ h => (List.not_mem_nil h).elim⟩⟩⟩, ?_⟩)
                           all_goals (refine s_cf ?_; refine zsn hS ?_; intro w1 hS; have hS := hS.ns; refine zt ?_; refine zcn ?_; refine Q0 ?_; refine Q0 ?_; refine Q2 ?_; refine zm ?_; refine zn ?_; refine Qa ?_; have hS := St.nil (T := 112) (es := 3) hS)
                           refine zo [0, 3, 9] (fun A ρ' w' => ∃ (q : Nat) (vo : Value) (co : List (List Value)) (ts : List Ty), Has ρ' A ∧ Has ρ' [(10, .int .i64 q)] ∧ (q ≤ x.args.length) ∧ (tyR.ls cx co ts) ∧ (ts.length = q) ∧ (oneC vo = true) ∧ (jfields s x.args = ebind (jfields s (x.args.drop q)) fun l => .ok (ts ++ l)) ∧ St cx w' (sl 112 3 vo co :: blk p9 112 [.int .i64 3, .int .i64 t.r, vo] :: blk nb 112 [.int .i64 1, .int .i64 0, .slice none 0 0] :: blk p3 57 [.int .i64 x.op, .int .i64 x.a, .int .i64 x.b, .int .i64 x.c, .int .i64 x.k, .int .i64 x.n, vr, va] :: blk j.sp 63 (j.kcells vl) :: Q7p j.hp s.h :: sl 112 3 vl css :: L)) (fun ρ' _ => (x.args.length - iv (ρ' 10)).toNat) ?_ ?_
                           · exact ⟨0, _, [], [], zh, zh, (by omega), Rep.LR.nil _ _ _, rfl, rfl, by rw [List.drop_zero]; cases jfields s x.args <;> rfl, hS.sp⟩
                           rintro ρ w1 ⟨q, vo, co, ts, hA, hρ, hq, hlo, hlt, hvo, hdf, hS⟩; obtain ⟨ρ, rfl⟩ := env2 hA hρ
                           unfold Q4U
                           all_goals (refine Q0 ?_; refine Q0 ?_; refine Q2 ?_; refine zm ?_; refine Q1 rfl ?_; refine zl hS ?_; (first | (refine Q20 hS vw fd hlc ?_) | (refine zL ?_)); refine Qr rfl rfl ?_; refine zn ?_)
                           refine Qn rfl (fun hc => ?_) (fun hc => ?_)
                           · skip
                             all_goals (refine zsk ?_; refine Q0 ?_; refine Qa ?_; refine Q0 ?_; refine Q0 ?_; refine zD [(0, none), (1, none), (2, none), (3, none), (4, none), (5, none), (6, none), (7, none), (8, none), (9, none), (10, none), (11, none), (12, none), (13, none), (14, none), (15, none), (16, none), (17, none), (18, some none)] ?_; have hS := hS.drew; refine Q1 rfl ?_; refine zl hS ?_; refine zm ?_; refine zi ?_; intro b1 o1 cs1 x1 hat1 hx1 he1; obtain rfl := QJ he1; (first | (refine zl hS ?_) | (refine zlk hS ?_)))
                             all_goals (first | (refine Q1V ?_) | (refine Q1W ?_) | (refine QG rfl rfl (fun hc => ?_) (fun hc => ?_)))
                             all_goals (refine zm ?_; (first | refine s_gn rfl rfl ?_ | (refine s_gy rfl ?_; refine Q1 rfl ?_)); (first | refine s_gn rfl rfl ?_ | (refine s_gy rfl ?_; refine zl hS ?_)); (first | refine s_gn rfl rfl ?_ | (refine s_gy rfl ?_; refine zm ?_)); (first | refine s_gn rfl rfl ?_ | (refine s_gy rfl ?_; refine Q5d vw rfl ha rfl (by omega) ?_; intro b8 o8 cs8 x8 hat8 hx8 he8; obtain rfl := QJ he8; obtain rfl : x1 = x8 := Option.some.inj (hx1.symm.trans hx8))); (first | refine s_gn rfl rfl ?_ | (refine s_gy rfl ?_; (first | (refine zl hS ?_) | (refine zlk hS ?_)))); (first | refine s_gn rfl rfl ?_ | (refine s_gy rfl ?_; refine zm ?_)); (first | refine s_gn rfl rfl ?_ | (refine s_gy rfl ?_; refine Qk rfl ?_)); (first | refine s_gn rfl rfl ?_ | (refine s_gy rfl ?_; refine Q1 rfl ?_)); (first | refine s_gn rfl rfl ?_ | (refine s_gy rfl ?_; refine zl hS ?_)); (first | refine s_gn rfl rfl ?_ | (refine s_gy rfl ?_; refine Q20 hS vw fd hlc ?_)))
                             all_goals (first | refine s_gn rfl rfl ?_ | (refine s_gy rfl ?_; (first | (refine Q3t ?_) | (refine Q3u ?_) | (refine Q1F rfl rfl (fun hc => ?_) (fun hc => ?_)))))
                             all_goals ((first | (refine zpt ?_) | (refine zpf ?_)); refine zn ?_)
                             all_goals
                               first
                               | (refine Q3 rfl ?_ -- Q8 c10
                                  all_goals (refine Q0 ?_; refine Q2 ?_; refine zm ?_; refine zm ?_; refine zn ?_; have hM : rmk m j.f s x = .error 1 := (by rw [QwX (by omega), Q9 hjt, Qu (QrK hx1 hdf (Q63 (by omega)))]); refine zr ?_; refine zf2 ?_)
                                  all_goals (exact ⟨_, rfl, cx, _, St.refl hS, cd_e hM, Q2E hM, hS.sp⟩))
                               | (refine Q4 rfl ?_ -- Q8 c10
                                  all_goals refine zsk ?_)
                             all_goals (obtain ⟨t2, ht2⟩ : ∃ t, s.l[x1.toNat]? = some t := ⟨_, List.getElem?_eq_getElem (by omega)⟩; obtain ⟨d2, hd2, hrd2⟩ := hls.2 _ _ ht2; have hrd2' := hrd2; obtain ⟨vd2, rfl, hld2⟩ := Qi hrd2; have h2 := Q4c (s := s) (by omega) ht2; refine zC [(0, none), (1, none), (2, none), (3, none), (4, none), (5, none), (6, none), (7, none), (8, none), (9, none), (10, none), (11, none), (12, none), (13, some (some [1])), (14, some none), (15, none), (16, some none)] ?_; have hS := hS.drew; refine s_cq ?_; refine Q1 rfl ?_; refine zt ?_; refine s_cq ?_; refine zl hS ?_; refine zt ?_; refine s_cq ?_; refine zm ?_; refine zt ?_; refine s_cq ?_; refine Qk rfl ?_; refine zt ?_; refine s_cq ?_; refine Q1 rfl ?_; refine zt ?_; refine s_cq ?_; refine zl hS ?_; refine zt ?_; refine s_cq ?_; refine Q1 rfl ?_; refine zt ?_; refine s_cq ?_; refine zl hS ?_; refine zt ?_; refine s_cq ?_; refine zm ?_; refine zt ?_; refine s_cq ?_; refine Q5d vw rfl ha rfl (by omega) ?_; intro b4 o4 cs4 x4 hat4 hx4 he4; obtain rfl := QJ he4; obtain rfl : x1 = x4 := Option.some.inj (hx1.symm.trans hx4))
                             all_goals (refine zt ?_; refine s_cq ?_; (first | (refine zl hS ?_) | (refine zlk hS ?_)); refine zt ?_; refine s_cq ?_; refine Q3O hS vw rfl fd (by omega) (by omega) ?_; intro b5 o5 hel5; refine zt ?_; refine s_cq ?_; refine Qgo hS hel5 rfl fd rfl hd2 ?_; refine zt ?_; refine QE ?_; refine zB1 hS [_, _, _] ?_; intro b1 w1 hS; refine zt ?_; refine zy ?_; refine s_cf ?_; refine za Q3s Q6O hS ?_; intro vp1 w1 css1 hls1 hv1 hS; have hS := hS.ns; refine zt ?_; refine s_cq ?_; refine Q1 rfl ?_; refine zt ?_; refine s_cf ?_; refine zst hS ?_; intro w1 hS; have hS := hS.ns; refine zt ?_; refine zcn ?_; refine Q2 ?_; refine zm ?_; refine zad ?_; refine zm ?_; refine zn ?_; exact ⟨⟨q + 1, _, _, ts ++ [t2], zh, zh, (by omega), hls1, by simp [hlt], by assumption, QrJ hx1 hdf h2, hS.sp⟩, Qo (by omega)⟩)
                           · skip
                             all_goals (refine zex ?_; have hts := QrI hdf (by omega); obtain ⟨c1, hle2, hS, hk1⟩ := St.freezeL (r := tyR) hS hlo rfl (by omega); have hrow := Q1X (k := 3) (r := t.r) hk1; have hls := hls.up hle2; obtain ⟨ao, no, rfl⟩ := Rep.SR.shape hk1; refine Q0 ?_; refine Q0 ?_; refine Q2 ?_; refine zv hS ?_; refine zR2 (c := QxA (.mk 3 t.r ts) hrow (by omega) (by omega) hS) (h := ?_); rintro v1 w1 ⟨rfl, hS⟩)
                             all_goals (first | (refine Q17 ?_) | (refine Q18 ?_) | (refine Qt rfl rfl (fun hc => ?_) (fun hc => ?_)))
                             all_goals (refine zn ?_)
                             all_goals
                               first
                               | (refine Q3 rfl ?_ -- Q8 c11
                                  all_goals (refine Q0 ?_; refine Q2 ?_; refine zm ?_; refine zm ?_; refine zn ?_; have hM : rmk m j.f s x = .error 19 := (by rw [QwX (by omega), Q9 hjt, Q9 hts]; exact if_pos (by omega)); refine zr ?_; refine zf2 ?_)
                                  all_goals (first | (exact ⟨_, rfl, cx, _, St.refl hS, cd_e hM, Q2E hM, hS.sp⟩) | (exact ⟨_, rfl, cx, _, St.refl hS, cd_o hM, Q1j hM (Rep.SR.nil _ _ _), hS.sp⟩) | (exact ⟨_, rfl, cx, _, St.refl hS, cd_w hM hw, Q1j hM (Rep.SR.nil _ _ _), hS.sp⟩) | (obtain ⟨c9, hle9, hS, hk9⟩ := St.freeze1 (r := tyR) (L := KLf j s vl css L) hS.sp (hN : tyR.at _ _ number); exact ⟨_, rfl, c9, _, hle9, cd_c hC, Q6l hT hk9, hS⟩) | (obtain ⟨c9, hle9, hS, hk9⟩ := St.freeze1 (r := tyR) (L := KLf j s vl css L) hS.sp (hN : tyR.at _ _ number); exact ⟨_, rfl, c9, _, hle9, cd_o hM, Q1j hM hk9, hS⟩) | (obtain ⟨c9, hle9, hS, hk9⟩ := St.freeze1 (r := tyR) (L := KLf j s vl css L) hS.sp hrow; exact ⟨_, rfl, c9, _, hle9, cd_o hM, Q1j hM hk9, hS⟩) | (obtain ⟨c9, hle9, hS, hk9⟩ := St.freeze1 (r := tyR) (L := KLf j s vl css L) hS.sp hrow; exact ⟨_, rfl, c9, _, hle2.trans hle9, cd_o hM, Q1j hM hk9, hS⟩) | (exact ⟨_, rfl, c1, _, hle2, cd_e hM, Q2E hM, hS.sp⟩)))
                               | (refine Q4 rfl ?_ -- Q8 c11
                                  all_goals refine zsk ?_)
                             all_goals (refine Q0 ?_; refine Q2 ?_; refine zv hS ?_; refine Q35 (cs := [_, _, _]) vw (by rfl) ?_; intro ob w1 hb1 hf1 _ hk1; have hS := hS.laid hb1 hf1 hk1; refine zm ?_; refine zm ?_; refine zn ?_; have hM : rmk m j.f s x = .ok [.mk 3 t.r ts] := (by rw [QwX (by omega), Q9 hjt, Q9 hts]; exact if_neg (by omega)); refine zr ?_; refine zf2 ?_)
                             all_goals (first | (exact ⟨_, rfl, cx, _, St.refl hS, cd_e hM, Q2E hM, hS.sp⟩) | (exact ⟨_, rfl, cx, _, St.refl hS, cd_o hM, Q1j hM (Rep.SR.nil _ _ _), hS.sp⟩) | (exact ⟨_, rfl, cx, _, St.refl hS, cd_w hM hw, Q1j hM (Rep.SR.nil _ _ _), hS.sp⟩) | (obtain ⟨c9, hle9, hS, hk9⟩ := St.freeze1 (r := tyR) (L := KLf j s vl css L) hS.sp (hN : tyR.at _ _ number); exact ⟨_, rfl, c9, _, hle9, cd_c hC, Q6l hT hk9, hS⟩) | (obtain ⟨c9, hle9, hS, hk9⟩ := St.freeze1 (r := tyR) (L := KLf j s vl css L) hS.sp (hN : tyR.at _ _ number); exact ⟨_, rfl, c9, _, hle9, cd_o hM, Q1j hM hk9, hS⟩) | (obtain ⟨c9, hle9, hS, hk9⟩ := St.freeze1 (r := tyR) (L := KLf j s vl css L) hS.sp hrow; exact ⟨_, rfl, c9, _, hle9, cd_o hM, Q1j hM hk9, hS⟩) | (obtain ⟨c9, hle9, hS, hk9⟩ := St.freeze1 (r := tyR) (L := KLf j s vl css L) hS.sp hrow; exact ⟨_, rfl, c9, _, hle2.trans hle9, cd_o hM, Q1j hM hk9, hS⟩)))
                        | (refine Q4 rfl ?_ -- Q8 c7
                           all_goals (refine Q0 ?_; refine Q0 ?_; refine Q2 ?_)
                           all_goals (first | (refine Qw ?_) | (refine Qy ?_) | (refine Ql rfl rfl (fun hc => ?_) (fun hc => ?_)))
                           all_goals (refine zm ?_; refine zn ?_)
                           all_goals
                             first
                             | (refine Q3 rfl ?_ -- Q8 c12
                                all_goals refine zsk ?_)
                             | (refine Q4 rfl ?_ -- Q8 c12
                                all_goals (refine Q2 ?_)
                                all_goals (first | (refine Qw ?_) | (refine Qy ?_) | (refine Ql rfl rfl (fun hc => ?_) (fun hc => ?_)))
                                all_goals (refine zm ?_)
                                all_goals refine zn ?_)
                           all_goals
                             first
                             | (refine Q4 rfl ?_ -- Q8 c13
                                all_goals (refine Q0 ?_; refine Q2 ?_)
                                all_goals (first | (refine Qw ?_) | (refine Qy ?_) | (refine Ql rfl rfl (fun hc => ?_) (fun hc => ?_)))
                                all_goals (refine zm ?_; refine zn ?_)
                                all_goals
                                  first
                                  | (refine Q3 rfl ?_ -- Q8 c19
                                     all_goals (refine Q0 ?_; refine Q0 ?_; refine zC [(0, none), (1, none), (2, none), (4, none), (5, none), (6, none), (3, some (some [6])), (7, some none), (8, some none), (9, some none), (10, some none)] ?_; have hS := hS.drew; refine s_cq ?_; refine zm ?_; refine zt ?_; refine s_cq ?_; refine Q1 rfl ?_; refine zt ?_; refine s_cq ?_; refine zl hS ?_; refine zt ?_; refine s_cq ?_; refine zm ?_; refine zt ?_; refine s_cq ?_; refine Q1 rfl ?_; refine zt ?_; refine s_cq ?_; refine zl hS ?_; refine zt ?_; refine QE ?_; refine zR4 (c := Q2M (s := s) (k := x.a) (kd := 2) (held := true) hls hS.p3) (h := ?_); rintro v1 w1 ⟨rfl, hS⟩; refine zt ?_; refine zy ?_; refine s_cf ?_; refine zR4 (c := Q2M (s := s) (k := x.b) (kd := 1) (held := false) hls hS.p3) (h := ?_); rintro v1 w1 ⟨rfl, hS⟩; refine zt ?_; refine s_cf ?_; refine Qhx (cs := [_, _]) vw vw (by rfl) ?_; intro fb w1 hb1 hf1 _ hk1; have hS := hS.laid hb1 hf1 hk1; have hS := St.slOf (es := 1) (css := [Q1b s x.a 2 true, Q1b s x.b 1 false].map Q3d) hS rfl (by simp [Q3d]) rfl; refine zt ?_; refine s_cf ?_; refine zR1 (c := Qgr (xs := [Q1b s x.a 2 true, Q1b s x.b 1 false]) (by simp) hS) (h := ?_); rintro v1 w1 ⟨rfl, hS⟩)
                                     all_goals (refine zt ?_; refine s_cf ?_; refine zm ?_; refine zt ?_; refine zcn ?_; refine Q0 ?_; refine Q2 ?_; refine zm ?_)
                                     all_goals (first | (refine QQ ?_) | (refine QR ?_) | (refine Qm rfl rfl (fun hc => ?_) (fun hc => ?_)))
                                     all_goals (refine zn ?_)
                                     all_goals
                                       first
                                       | (refine Q3 rfl ?_ -- Q8 c20
                                          all_goals (refine Q0 ?_; refine Q2 ?_; refine zm ?_; refine zm ?_; refine zm ?_; refine zn ?_; have hM : rmk m j.f s x = .error (Q24 [Q1b s x.a 2 true, Q1b s x.b 1 false]) := (by rw [rmk_8 (by omega), Qbi, Q4W]; exact Qvt (QhV _ _ _) (by rw [← Qbi, ← Q4W]; omega) _); refine zr ?_; refine zf2 ?_)
                                          all_goals (exact ⟨_, rfl, cx, _, St.refl hS, cd_e hM, Q2E hM, hS.sp⟩))
                                       | (refine Q4 rfl ?_ -- Q8 c20
                                          all_goals refine zsk ?_)
                                     all_goals (refine Q0 ?_; obtain ⟨t, tb, hjt, hjb⟩ := Qvs (x := jat s x.a 2) (y := jkind s x.b 1) (QhV _ _ _) (Q3p _ _ _) (by rw [← Qbi, ← Q4W]; omega); obtain ⟨g0, ht, hk, hb⟩ := Qez hjt; have g1 := (List.getElem?_eq_some_iff.1 ht).1; obtain ⟨d, hd, hrd⟩ := hls.2 _ _ ht; obtain ⟨vd, rfl, hld⟩ := Qi hrd; refine zD [(0, none), (1, none), (2, none), (3, none), (4, none), (5, none), (6, none), (7, none), (8, none), (9, none), (10, some none), (11, none), (12, some none)] ?_; have hS := hS.drew; refine zm ?_; refine Qk rfl ?_; refine Q1 rfl ?_; refine zl hS ?_; refine Q1 rfl ?_; refine zl hS ?_; refine Q3O hS vw rfl fd (by omega) (by omega) ?_; intro b1 o1 hel1; (first | refine Q1 rfl ?_ | refine Q12 rfl ?_); refine Q4a (j := 1) hS hel1 rfl fd rfl hd rfl ?_; refine zb2 [_, _, _] ?_; refine Q35 (cs := [_, _, _]) vw (by rfl) ?_; intro ob w1 hb1 hf1 _ hk1; have hS := hS.laid hb1 hf1 hk1; refine zm ?_; refine zm ?_; refine zn ?_; have hM : rmk m j.f s x = .ok [.mk 4 t.r []] := (by rw [rmk_8 (by omega), Q9 hjt, Q9 hjb]); have hrow : ∀ {c : Cx}, tyR.at c [.int .i64 4, .int .i64 t.r, .slice none 0 0] (.mk 4 t.r []) := Q1X (Rep.SR.nil _ _ _))
                                     all_goals (refine zr ?_; refine zf2 ?_)
                                     all_goals (first | (exact ⟨_, rfl, cx, _, St.refl hS, cd_e hM, Q2E hM, hS.sp⟩) | (exact ⟨_, rfl, cx, _, St.refl hS, cd_o hM, Q1j hM (Rep.SR.nil _ _ _), hS.sp⟩) | (exact ⟨_, rfl, cx, _, St.refl hS, cd_w hM hw, Q1j hM (Rep.SR.nil _ _ _), hS.sp⟩) | (obtain ⟨c9, hle9, hS, hk9⟩ := St.freeze1 (r := tyR) (L := KLf j s vl css L) hS.sp (hN : tyR.at _ _ number); exact ⟨_, rfl, c9, _, hle9, cd_c hC, Q6l hT hk9, hS⟩) | (obtain ⟨c9, hle9, hS, hk9⟩ := St.freeze1 (r := tyR) (L := KLf j s vl css L) hS.sp (hN : tyR.at _ _ number); exact ⟨_, rfl, c9, _, hle9, cd_o hM, Q1j hM hk9, hS⟩) | (obtain ⟨c9, hle9, hS, hk9⟩ := St.freeze1 (r := tyR) (L := KLf j s vl css L) hS.sp hrow; exact ⟨_, rfl, c9, _, hle9, cd_o hM, Q1j hM hk9, hS⟩)))
                                  | (refine Q4 rfl ?_ -- Q8 c19
                                     all_goals (refine Q0 ?_; refine Q2 ?_)
                                     all_goals (first | (refine Qw ?_) | (refine Qy ?_) | (refine Ql rfl rfl (fun hc => ?_) (fun hc => ?_)))
                                     all_goals (refine zm ?_; refine zn ?_)
                                     all_goals
                                       first
                                       | (refine Q3 rfl ?_ -- Q8 c21
                                          all_goals (refine Q0 ?_; refine zC [(0, none), (1, none), (2, none), (3, none), (5, none), (6, none), (7, none), (4, some (some [7])), (8, some (some [])), (9, some (some [])), (10, some (some [])), (11, none), (12, some none)] ?_; have hS := hS.drew; refine s_cq ?_; refine zm ?_; refine zt ?_; refine s_cq ?_; refine zm ?_; refine zt ?_; refine s_cq ?_; refine Q1 rfl ?_; refine zt ?_; refine s_cq ?_; refine zl hS ?_; refine zt ?_; refine s_cq ?_; refine zm ?_; refine zt ?_; refine s_cq ?_; refine Q1 rfl ?_; refine zt ?_; refine s_cq ?_; refine zl hS ?_; refine zt ?_; refine QE ?_; refine zR4 (c := Q2M (s := s) (k := x.a) (kd := 4) (held := true) hls hS.p3) (h := ?_); rintro v1 w1 ⟨rfl, hS⟩; refine zt ?_; refine zy ?_; refine QE ?_; refine zR4 (c := Q2M (s := s) (k := x.b) (kd := 1) (held := false) hls hS.p3) (h := ?_); rintro v1 w1 ⟨rfl, hS⟩; refine zt ?_; refine zy ?_; refine QE ?_; refine Qhx (cs := [_, _]) vw vw (by rfl) ?_; intro fb w1 hb1 hf1 _ hk1; have hS := hS.laid hb1 hf1 hk1; have hS := St.slOf (es := 1) (css := [Q1b s x.a 4 true, Q1b s x.b 1 false].map Q3d) hS rfl (by simp [Q3d]) rfl; refine zt ?_; refine zy ?_; refine QE ?_; refine zR1 (c := Qgr (xs := [Q1b s x.a 4 true, Q1b s x.b 1 false]) (by simp) hS) (h := ?_); rintro v1 w1 ⟨rfl, hS⟩)
                                          all_goals (refine zt ?_; refine zy ?_; refine s_cq ?_; refine zm ?_; refine zt ?_; refine s_cf ?_; refine zm ?_; refine zt ?_; refine zcn ?_)
                                          all_goals (have hC : QM (rmk m j.f s x) = Q24 [Q1b s x.a 4 true, Q1b s x.b 1 false] := (by rw [rmk_9 (by omega), Qbi, Q4W]; exact QoR (QhV _ _ _) (Q3p _ _ _) _); have hT : ∀ ts, rmk m j.f s x = .ok ts → ts = [number] := (fun ts h => by rw [rmk_9 (by omega)] at h; exact ok1 h fun _ h => ok1 h fun _ h => by cases h; rfl))
                                          all_goals (refine zr ?_; refine zf2 ?_)
                                          all_goals (first | (exact ⟨_, rfl, cx, _, St.refl hS, cd_e hM, Q2E hM, hS.sp⟩) | (exact ⟨_, rfl, cx, _, St.refl hS, cd_o hM, Q1j hM (Rep.SR.nil _ _ _), hS.sp⟩) | (exact ⟨_, rfl, cx, _, St.refl hS, cd_w hM hw, Q1j hM (Rep.SR.nil _ _ _), hS.sp⟩) | (obtain ⟨c9, hle9, hS, hk9⟩ := St.freeze1 (r := tyR) (L := KLf j s vl css L) hS.sp (hN : tyR.at _ _ number); exact ⟨_, rfl, c9, _, hle9, cd_c hC, Q6l hT hk9, hS⟩)))
                                       | (refine Q4 rfl ?_ -- Q8 c21
                                          all_goals (refine Q0 ?_; refine Q2 ?_)
                                          all_goals (first | (refine Qw ?_) | (refine Qy ?_) | (refine Ql rfl rfl (fun hc => ?_) (fun hc => ?_)))
                                          all_goals (refine zm ?_; refine zn ?_)
                                          all_goals
                                            first
                                            | (refine Q3 rfl ?_ -- Q8 c22
                                               all_goals (refine Q0 ?_; refine zC [(0, none), (1, none), (2, none), (4, none), (5, none), (6, none), (8, none), (9, none), (10, none), (3, some (some [6, 10])), (7, some (some [10])), (11, some none), (12, some none), (13, some none), (14, none), (15, some none)] ?_; have hS := hS.drew; refine s_cq ?_; refine zm ?_; refine zt ?_; refine s_cq ?_; refine Q1 rfl ?_; refine zt ?_; refine s_cq ?_; refine zl hS ?_; refine zt ?_; refine s_cq ?_; refine zm ?_; refine zt ?_; refine s_cq ?_; refine Q1 rfl ?_; refine zt ?_; refine s_cq ?_; refine zl hS ?_; refine zt ?_; refine s_cq ?_; refine zm ?_; refine zt ?_; refine s_cq ?_; refine Q1 rfl ?_; refine zt ?_; refine s_cq ?_; refine zl hS ?_; refine zt ?_; refine QE ?_; refine zR4 (c := Q2M (s := s) (k := x.a) (kd := 4) (held := true) hls hS.p3) (h := ?_); rintro v1 w1 ⟨rfl, hS⟩; refine zt ?_; refine zy ?_; refine QE ?_; refine zR4 (c := Q2M (s := s) (k := x.b) (kd := 1) (held := false) hls hS.p3) (h := ?_); rintro v1 w1 ⟨rfl, hS⟩; refine zt ?_; refine zy ?_; refine s_cf ?_; refine zR4 (c := Q2M (s := s) (k := x.c) (kd := 1) (held := false) hls hS.p3) (h := ?_); rintro v1 w1 ⟨rfl, hS⟩)
                                               all_goals (refine zt ?_; refine s_cf ?_; refine QwO (cs := [_, _, _]) vw vw vw (by rfl) ?_; intro fb w1 hb1 hf1 _ hk1; have hS := hS.laid hb1 hf1 hk1; have hS := St.slOf (es := 1) (css := [Q1b s x.a 4 true, Q1b s x.b 1 false, Q1b s x.c 1 false].map Q3d) hS rfl (by simp [Q3d]) rfl; refine zt ?_; refine s_cf ?_; refine zR1 (c := Qgr (xs := [Q1b s x.a 4 true, Q1b s x.b 1 false, Q1b s x.c 1 false]) (by simp) hS) (h := ?_); rintro v1 w1 ⟨rfl, hS⟩; refine zt ?_; refine s_cq ?_; refine zm ?_; refine zt ?_; refine s_cf ?_; refine zm ?_; refine zt ?_; refine zcn ?_)
                                               all_goals (have hC : QM (rmk m j.f s x) = Q24 [Q1b s x.a 4 true, Q1b s x.b 1 false, Q1b s x.c 1 false] := (by rw [Qx0 (by omega), Qbi, Q4W, Q4W]; exact first3_c (QhV _ _ _) (Q3p _ _ _) (Q3p _ _ _) _); have hT : ∀ ts, rmk m j.f s x = .ok ts → ts = [] := (fun ts h => by rw [Qx0 (by omega)] at h; exact ok1 h fun _ h => ok1 h fun _ h => ok1 h fun _ h => by cases h; rfl))
                                               all_goals (refine zr ?_; refine zf2 ?_)
                                               all_goals (first | (exact ⟨_, rfl, cx, _, St.refl hS, cd_e hM, Q2E hM, hS.sp⟩) | (exact ⟨_, rfl, cx, _, St.refl hS, cd_o hM, Q1j hM (Rep.SR.nil _ _ _), hS.sp⟩) | (exact ⟨_, rfl, cx, _, St.refl hS, cd_w hM hw, Q1j hM (Rep.SR.nil _ _ _), hS.sp⟩) | (obtain ⟨c9, hle9, hS, hk9⟩ := St.freeze1 (r := tyR) (L := KLf j s vl css L) hS.sp (hN : tyR.at _ _ number); exact ⟨_, rfl, c9, _, hle9, cd_c hC, Q6l hT hk9, hS⟩) | (obtain ⟨c9, hle9, hS, hk9⟩ := St.freeze1 (r := tyR) (L := KLf j s vl css L) hS.sp (hN : tyR.at _ _ number); exact ⟨_, rfl, c9, _, hle9, cd_o hM, Q1j hM hk9, hS⟩) | (obtain ⟨c9, hle9, hS, hk9⟩ := St.freeze1 (r := tyR) (L := KLf j s vl css L) hS.sp hrow; exact ⟨_, rfl, c9, _, hle9, cd_o hM, Q1j hM hk9, hS⟩) | (obtain ⟨c9, hle9, hS, hk9⟩ := St.freeze1 (r := tyR) (L := KLf j s vl css L) hS.sp hrow; exact ⟨_, rfl, c9, _, hle2.trans hle9, cd_o hM, Q1j hM hk9, hS⟩) | (exact ⟨_, rfl, c1, _, hle2, cd_e hM, Q2E hM, hS.sp⟩) | (exact ⟨_, rfl, cx, _, St.refl hS, cd_c hC, Q6l hT (Rep.SR.nil _ _ _), hS.sp⟩)))
                                            | (refine Q4 rfl ?_ -- Q8 c22
                                               all_goals (refine Q0 ?_; refine Q2 ?_)
                                               all_goals (first | (refine Qw ?_) | (refine Qy ?_) | (refine Ql rfl rfl (fun hc => ?_) (fun hc => ?_)))
                                               all_goals (refine zm ?_; refine zn ?_)
                                               all_goals
                                                 first
                                                 | (refine Q3 rfl ?_ -- Q8 c23
                                                    all_goals (refine Q0 ?_; refine Q2 ?_; refine zm ?_; refine zm ?_; refine Q1 rfl ?_; refine zl hS ?_; refine zR4 (c := Q2M (s := s) (k := x.a) (kd := 4) (held := true) hls hS.p3) (h := ?_); rintro v1 w1 ⟨rfl, hS⟩; refine zm ?_; refine zm ?_; refine zn ?_)
                                                    all_goals (have hC : QM (rmk m j.f s x) = Q1b s x.a 4 true := (by rw [QwZ (by omega), Qbi]; cases jat s x.a 4 <;> rfl); have hT : ∀ ts, rmk m j.f s x = .ok ts → ts = [number] := (fun ts h => by rw [QwZ (by omega)] at h; exact ok1 h fun _ h => by cases h; rfl))
                                                    all_goals (refine zr ?_; refine zf2 ?_)
                                                    all_goals (first | (exact ⟨_, rfl, cx, _, St.refl hS, cd_e hM, Q2E hM, hS.sp⟩) | (exact ⟨_, rfl, cx, _, St.refl hS, cd_o hM, Q1j hM (Rep.SR.nil _ _ _), hS.sp⟩) | (exact ⟨_, rfl, cx, _, St.refl hS, cd_w hM hw, Q1j hM (Rep.SR.nil _ _ _), hS.sp⟩) | (obtain ⟨c9, hle9, hS, hk9⟩ := St.freeze1 (r := tyR) (L := KLf j s vl css L) hS.sp (hN : tyR.at _ _ number); exact ⟨_, rfl, c9, _, hle9, cd_c hC, Q6l hT hk9, hS⟩)))
                                                 | (refine Q4 rfl ?_ -- Q8 c23
                                                    all_goals (refine Q0 ?_; refine Q2 ?_)
                                                    all_goals (first | (refine Qw ?_) | (refine Qy ?_) | (refine Ql rfl rfl (fun hc => ?_) (fun hc => ?_)))
                                                    all_goals (refine zm ?_; refine zn ?_)
                                                    all_goals
                                                      first
                                                      | (refine Q3 rfl ?_ -- Q8 c24
                                                         all_goals (refine Q0 ?_; refine Q2 ?_; refine zm ?_; refine Q1 rfl ?_; refine zl hS ?_; refine zR4 (c := Q2M (s := s) (k := x.a) (kd := 1) (held := false) hls hS.p3) (h := ?_); rintro v1 w1 ⟨rfl, hS⟩; refine zm ?_; refine zm ?_; refine zn ?_)
                                                         all_goals (have hC : QM (rmk m j.f s x) = Q1b s x.a 1 false := (by rw [QwY (by omega), Q4W]; cases jkind s x.a 1 <;> rfl); have hT : ∀ ts, rmk m j.f s x = .ok ts → ts = [] := (fun ts h => by rw [QwY (by omega)] at h; exact ok1 h fun _ h => by cases h; rfl))
                                                         all_goals (refine zr ?_; refine zf2 ?_)
                                                         all_goals (first | (exact ⟨_, rfl, cx, _, St.refl hS, cd_e hM, Q2E hM, hS.sp⟩) | (exact ⟨_, rfl, cx, _, St.refl hS, cd_o hM, Q1j hM (Rep.SR.nil _ _ _), hS.sp⟩) | (exact ⟨_, rfl, cx, _, St.refl hS, cd_w hM hw, Q1j hM (Rep.SR.nil _ _ _), hS.sp⟩) | (obtain ⟨c9, hle9, hS, hk9⟩ := St.freeze1 (r := tyR) (L := KLf j s vl css L) hS.sp (hN : tyR.at _ _ number); exact ⟨_, rfl, c9, _, hle9, cd_c hC, Q6l hT hk9, hS⟩) | (obtain ⟨c9, hle9, hS, hk9⟩ := St.freeze1 (r := tyR) (L := KLf j s vl css L) hS.sp (hN : tyR.at _ _ number); exact ⟨_, rfl, c9, _, hle9, cd_o hM, Q1j hM hk9, hS⟩) | (obtain ⟨c9, hle9, hS, hk9⟩ := St.freeze1 (r := tyR) (L := KLf j s vl css L) hS.sp hrow; exact ⟨_, rfl, c9, _, hle9, cd_o hM, Q1j hM hk9, hS⟩) | (obtain ⟨c9, hle9, hS, hk9⟩ := St.freeze1 (r := tyR) (L := KLf j s vl css L) hS.sp hrow; exact ⟨_, rfl, c9, _, hle2.trans hle9, cd_o hM, Q1j hM hk9, hS⟩) | (exact ⟨_, rfl, c1, _, hle2, cd_e hM, Q2E hM, hS.sp⟩) | (exact ⟨_, rfl, cx, _, St.refl hS, cd_c hC, Q6l hT (Rep.SR.nil _ _ _), hS.sp⟩)))
                                                      | (refine Q4 rfl ?_ -- Q8 c24
                                                         all_goals refine zsk ?_))))))
                             | (refine Q3 rfl ?_ -- Q8 c13
                                all_goals (refine Q0 ?_; refine Q0 ?_; refine Q2 ?_; refine zm ?_; refine Q1 rfl ?_; refine zl hS ?_; refine zR4 (c := Q2M (s := s) (k := x.a) (kd := 3) (held := true) hls hS.p3) (h := ?_); rintro v1 w1 ⟨rfl, hS⟩; refine zm ?_; refine zn ?_; refine Q0 ?_; refine Q2 ?_; refine zm ?_)
                                all_goals (first | (refine QQ ?_) | (refine QR ?_) | (refine Qm rfl rfl (fun hc => ?_) (fun hc => ?_)))
                                all_goals (refine zn ?_)
                                all_goals
                                  first
                                  | (refine Q3 rfl ?_ -- Q8 c14
                                     all_goals (refine Q0 ?_; refine Q2 ?_; refine zm ?_; refine zm ?_; refine zm ?_; refine zn ?_; have hM : rmk m j.f s x = .error (Q1b s x.a 3 true) := rmk_67e (by omega) (QgA (by omega)); refine zr ?_; refine zf2 ?_)
                                     all_goals (exact ⟨_, rfl, cx, _, St.refl hS, cd_e hM, Q2E hM, hS.sp⟩))
                                  | (refine Q4 rfl ?_ -- Q8 c14
                                     all_goals refine zsk ?_)
                                all_goals (refine Q0 ?_; refine Q0 ?_; have hxk := Q6e hF (by omega); obtain ⟨t, g0, g1, ht, hk, hb, hjt⟩ := Qog (s := s) (k := x.a) (kd := 3) (by omega); obtain ⟨d, hd, hrd⟩ := hls.2 _ _ ht; have hrt := hrd; obtain ⟨vd, rfl, hld⟩ := Qi hrd; refine zD [(0, none), (1, none), (2, none), (3, none), (4, none), (5, none), (6, none), (7, none), (8, none), (9, none), (10, none), (11, none), (12, some none)] ?_; have hS := hS.drew; refine Q1 rfl ?_; refine zl hS ?_; refine zm ?_; refine Qk rfl ?_; refine Q1 rfl ?_; refine zl hS ?_; refine Q1 rfl ?_; refine zl hS ?_; refine Q3O hS vw rfl fd (by omega) (by omega) ?_; intro b1 o1 hel1; (first | refine Q1 rfl ?_ | refine Q12 rfl ?_); refine Q4a (j := 2) hS hel1 rfl fd rfl hd rfl ?_; refine QwI vw hld ?_)
                                all_goals (first | (refine Q3t ?_) | (refine Q3u ?_) | (refine Q1F rfl rfl (fun hc => ?_) (fun hc => ?_)))
                                all_goals (refine zn ?_)
                                all_goals
                                  first
                                  | (refine Q3 rfl ?_ -- Q8 c15
                                     all_goals (refine Q0 ?_; refine Q2 ?_; refine zm ?_; refine zm ?_; refine zn ?_; have hM : rmk m j.f s x = .error 9 := rmk_67f (by omega) hjt (List.getElem?_eq_none (by omega)); refine zr ?_; refine zf2 ?_)
                                     all_goals (exact ⟨_, rfl, cx, _, St.refl hS, cd_e hM, Q2E hM, hS.sp⟩))
                                  | (refine Q4 rfl ?_ -- Q8 c15
                                     all_goals refine zsk ?_)
                                all_goals (refine Q0 ?_; refine zC [(0, none), (1, none), (2, none), (3, none), (4, none), (5, none), (6, none), (7, none), (8, none), (9, none), (10, none), (11, none), (12, none), (13, some (some [3, 5, 8, 10, 12])), (14, some none)] ?_; have hS := hS.drew; refine s_cq ?_; refine zm ?_; refine zt ?_; refine s_cq ?_; refine Qk rfl ?_; refine zt ?_; refine s_cq ?_; refine Q1 rfl ?_; refine zt ?_; refine s_cq ?_; refine zl hS ?_; refine zt ?_; refine s_cq ?_; refine Q1 rfl ?_; refine zt ?_; refine s_cq ?_; refine zl hS ?_; refine zt ?_; refine s_cq ?_; refine Q3O hS vw rfl fd (by omega) (by omega) ?_; intro b2 o2 hel2; refine zt ?_; refine s_cq ?_; (first | refine Q1 rfl ?_ | refine Q12 rfl ?_); refine zt ?_; refine s_cq ?_; refine Q4a (j := 2) hS hel2 rfl fd rfl hd rfl ?_; refine zt ?_; refine s_cq ?_; refine Q1 rfl ?_; refine zt ?_; refine s_cq ?_; refine zl hS ?_; refine zt ?_; refine s_cq ?_; refine QnX vw rfl hld rfl (by omega) (by omega) ?_; intro b3 o3 cs3 u3 hat3 hu3 hru3; have hrow := hru3; obtain ⟨vu3, rfl, hlu3⟩ := Qi hru3; have hjf := QvV hu3)
                                all_goals (refine zt ?_; refine s_cq ?_; (first | (refine zv hS ?_) | (refine zvk hS ?_)); refine zt ?_; refine QE ?_; refine Qb hS ?_; intro p12 w1 hS; refine zt ?_; refine ⟨List.forall_mem_cons.2 ⟨(by first | (exact Q4e (j := 2) hS hel2 rfl fd rfl hd rfl) | (exact Q1O hS rfl fd rfl)), List.forall_mem_cons.2 ⟨(by first | (exact Q4e (j := 2) hS hel2 rfl fd rfl hd rfl) | (exact Q1O hS rfl fd rfl)), List.forall_mem_cons.2 ⟨(by (exact Q4e (j := 2) hS hel2 rfl fd rfl hd rfl)), List.forall_mem_cons.2 ⟨(by first | (exact Q4e (j := 2) hS hel2 rfl fd rfl hd rfl) | (exact Q1O hS rfl fd rfl)), List.forall_mem_cons.2 ⟨(by first | (exact Q4e (j := 2) hS hel2 rfl fd rfl hd rfl) | (exact Q3e hS rfl fd rfl rfl) | (exact Q4O hS (by assumption) rfl rfl rfl)), fun _ h => (List.not_mem_nil h).elim⟩⟩⟩⟩⟩, ?_⟩)
                                all_goals (refine s_cf ?_; refine zsn hS ?_; intro w1 hS; have hS := hS.ns; refine zt ?_; refine zcn ?_; refine Q0 ?_; refine Q0 ?_; refine Q2 ?_; refine Q1 rfl ?_; refine zl hS ?_)
                                all_goals (first | (refine Qw ?_) | (refine Qy ?_))
                                all_goals (refine zn ?_)
                                all_goals
                                  first
                                  | (refine Q3 rfl ?_ -- Q8 c16
                                     all_goals (refine Q0 ?_; refine Q2 ?_; refine zv hS ?_; refine Q35 (cs := [_, _, _]) vw (by rfl) ?_; intro ob w1 hb1 hf1 _ hk1; have hS := hS.laid hb1 hf1 hk1; refine zm ?_; refine zm ?_; refine zn ?_; have hM : rmk m j.f s x = .ok [u3] := (by rw [rmk_6 (by omega), Q9 hjt, Q9 hjf]); refine zr ?_; refine zf2 ?_)
                                     all_goals (first | (exact ⟨_, rfl, cx, _, St.refl hS, cd_e hM, Q2E hM, hS.sp⟩) | (exact ⟨_, rfl, cx, _, St.refl hS, cd_o hM, Q1j hM (Rep.SR.nil _ _ _), hS.sp⟩) | (exact ⟨_, rfl, cx, _, St.refl hS, cd_w hM hw, Q1j hM (Rep.SR.nil _ _ _), hS.sp⟩) | (obtain ⟨c9, hle9, hS, hk9⟩ := St.freeze1 (r := tyR) (L := KLf j s vl css L) hS.sp (hN : tyR.at _ _ number); exact ⟨_, rfl, c9, _, hle9, cd_c hC, Q6l hT hk9, hS⟩) | (obtain ⟨c9, hle9, hS, hk9⟩ := St.freeze1 (r := tyR) (L := KLf j s vl css L) hS.sp (hN : tyR.at _ _ number); exact ⟨_, rfl, c9, _, hle9, cd_o hM, Q1j hM hk9, hS⟩) | (obtain ⟨c9, hle9, hS, hk9⟩ := St.freeze1 (r := tyR) (L := KLf j s vl css L) hS.sp hrow; exact ⟨_, rfl, c9, _, hle9, cd_o hM, Q1j hM hk9, hS⟩)))
                                  | (refine Q4 rfl ?_ -- Q8 c16
                                     all_goals refine zsk ?_)
                                all_goals (refine Q0 ?_; refine Q0 ?_; refine zD [(0, none), (1, none), (2, none), (3, none), (4, none), (5, none), (6, none), (7, none), (8, none), (9, none), (10, none), (11, none), (12, some none)] ?_; have hS := hS.drew; refine Q1 rfl ?_; refine zl hS ?_)
                                all_goals (first | (refine Q1V ?_) | (refine Q1W ?_) | (refine QG rfl rfl (fun hc => ?_) (fun hc => ?_)))
                                all_goals (refine zm ?_; (first | refine s_gn rfl rfl ?_ | (refine s_gy rfl ?_; refine Q1 rfl ?_)); (first | refine s_gn rfl rfl ?_ | (refine s_gy rfl ?_; refine zl hS ?_)); (first | refine s_gn rfl rfl ?_ | (refine s_gy rfl ?_; refine zm ?_)); (first | refine s_gn rfl rfl ?_ | (refine s_gy rfl ?_; refine Qk rfl ?_)); (first | refine s_gn rfl rfl ?_ | (refine s_gy rfl ?_; refine Q1 rfl ?_)); (first | refine s_gn rfl rfl ?_ | (refine s_gy rfl ?_; refine zl hS ?_)); (first | refine s_gn rfl rfl ?_ | (refine s_gy rfl ?_; refine Q20 hS vw fd hlc ?_)))
                                all_goals (first | refine s_gn rfl rfl ?_ | (refine s_gy rfl ?_; (first | (refine Q3t ?_) | (refine Q3u ?_) | (refine Q1F rfl rfl (fun hc => ?_) (fun hc => ?_)))))
                                all_goals ((first | (refine zpt ?_) | (refine zpf ?_)); refine zn ?_)
                                all_goals
                                  first
                                  | (refine Q3 rfl ?_ -- Q8 c17
                                     all_goals (refine Q0 ?_; refine Q2 ?_; refine zm ?_; refine zm ?_; refine zn ?_; have hM : rmk m j.f s x = .error 1 := (by rw [QvK (by omega), Q9 hjt, Q9 hjf, Qu (Q63 (by omega))]); refine zr ?_; refine zf2 ?_)
                                     all_goals (exact ⟨_, rfl, cx, _, St.refl hS, cd_e hM, Q2E hM, hS.sp⟩))
                                  | (refine Q4 rfl ?_ -- Q8 c17
                                     all_goals refine zsk ?_)
                                all_goals (refine Q0 ?_; refine Q0 ?_; obtain ⟨t4, ht4⟩ : ∃ t, s.l[x.b.toNat]? = some t := ⟨_, List.getElem?_eq_getElem (by omega)⟩; obtain ⟨d4, hd4, hrd4⟩ := hls.2 _ _ ht4; have hrt4 := hrd4; obtain ⟨vd4, rfl, hld4⟩ := Qi hrd4; have hj4 := Q4c (s := s) (k := x.b) (by omega) ht4; refine zD [(0, none), (1, none), (2, none), (3, none), (4, none), (5, none), (6, none), (7, none), (8, none), (9, some none), (10, some none)] ?_; have hS := hS.drew; refine zv hS ?_; refine zm ?_; refine Qk rfl ?_; refine Q1 rfl ?_; refine zl hS ?_; refine Q1 rfl ?_; refine zl hS ?_; refine Q3O hS vw rfl fd (by omega) (by omega) ?_; intro b4 o4 hel4; refine Qgo hS hel4 rfl fd rfl hd4 ?_)
                                all_goals (refine zR2 (c := Qty _ _ hrow hrt4 hS) (h := ?_); rintro v1 w1 ⟨rfl, hS⟩; cases hdc : decide (u3 = t4))
                                all_goals (refine Q1o rfl ?_; refine zn ?_)
                                all_goals
                                  first
                                  | (refine Q3 rfl ?_ -- Q8 c18
                                     all_goals (refine Q0 ?_; refine Q2 ?_; refine zm ?_; refine zm ?_; refine zn ?_; have hM : rmk m j.f s x = .error 9 := (by rw [QvK (by omega), Q9 hjt, Q9 hjf, Q9 hj4]; exact if_pos (of_decide_eq_false hdc)); refine zr ?_; refine zf2 ?_)
                                     all_goals (exact ⟨_, rfl, cx, _, St.refl hS, cd_e hM, Q2E hM, hS.sp⟩))
                                  | (refine Q4 rfl ?_ -- Q8 c18
                                     all_goals refine zsk ?_)
                                all_goals (refine Q0 ?_; refine Q2 ?_; refine zm ?_; refine zm ?_; refine zn ?_)
                                all_goals (have hM : rmk m j.f s x = .ok [] := (by rw [QvK (by omega), Q9 hjt, Q9 hjf, Q9 hj4]; exact if_neg (fun h => h (of_decide_eq_true hdc))))
                                all_goals (refine zr ?_; refine zf2 ?_)
                                all_goals (first | (exact ⟨_, rfl, cx, _, St.refl hS, cd_e hM, Q2E hM, hS.sp⟩) | (exact ⟨_, rfl, cx, _, St.refl hS, cd_o hM, Q1j hM (Rep.SR.nil _ _ _), hS.sp⟩)))
                           all_goals (refine Q0 ?_; have hk := QrR hF (by omega); have hop14 : x.op = 14 := (by omega); refine zC [(0, none), (1, none), (2, none), (3, none), (4, none), (5, none), (6, none), (7, none), (8, none), (9, some (some [4, 6, 8])), (10, some none)] ?_; have hS := hS.drew; refine s_cq ?_; refine zm ?_; refine zt ?_; refine s_cq ?_; refine Qk rfl ?_; refine zt ?_; refine s_cq ?_; refine Q1 rfl ?_; refine zt ?_; refine s_cq ?_; refine Q1 rfl ?_; refine zt ?_; refine s_cq ?_; refine zl hS ?_; refine zt ?_; refine s_cq ?_; refine Q1 rfl ?_; refine zt ?_; refine s_cq ?_; refine zl hS ?_; refine zt ?_; refine s_cq ?_; ((first | refine zi ?_ | refine zj ?_); intro b2 o2 cs2 x2 hat2 hx2 he2; obtain ⟨vp2, vr2, vb2, rfl, hp2, hr2, hb2⟩ := QO he2); refine zt ?_; refine s_cq ?_; (first | (refine zv hS ?_) | (refine zvk hS ?_)); refine zt ?_; refine QE ?_; refine Qb hS ?_; intro p14 w1 hS; refine zt ?_; refine zy ?_; refine s_cf ?_; refine zsn hS ?_; intro w1 hS; have hS := hS.ns)
                           all_goals (refine zt ?_; refine zcn ?_; have ej := rcall_k (m := m) (f := j.f) (s := s) hop14 hx2; have hsf := hm.2 x2 (List.mem_of_getElem? hx2); have hrl := hr2.len; have hrs := hsf.2.1.1; refine Q0 ?_; refine Q0 ?_; refine Q2 ?_; refine Q1 rfl ?_; refine zl hS ?_; (first | (refine Q20 hS vw fd hlc ?_) | (refine zL ?_)); refine Q1 rfl ?_; refine zl hS ?_)
                           all_goals (first | (refine QQ ?_) | (refine QR ?_) | (refine Qm rfl rfl (fun hc => ?_) (fun hc => ?_)))
                           all_goals (refine zn ?_)
                           all_goals
                             first
                             | (refine Q3 rfl ?_ -- Q8 c25
                                all_goals (refine Q0 ?_; refine Q2 ?_; refine zm ?_; refine zm ?_; refine zn ?_; have hM : rmk m j.f s x = .error 2 := ej.trans (if_pos (by omega)); refine zr ?_; refine zf2 ?_)
                                all_goals (exact ⟨_, rfl, cx, _, St.refl hS, cd_e hM, Q2E hM, hS.sp⟩))
                             | (refine Q4 rfl ?_ -- Q8 c25
                                all_goals refine zsk ?_)
                           all_goals (refine Q0 ?_; refine Q0 ?_; refine Q2 ?_; refine zm ?_; refine zn ?_; refine Qa ?_)
                           refine zoL hS [0, 3, 14] (fun A LL ρ' w' => ∃ (q : Nat), Has ρ' A ∧ Has ρ' [(15, .int .i64 q)] ∧ (q ≤ x.regs.length) ∧ (Q2N s.h [] x.regs = Q2N s.h (x.regs.take q) (x.regs.drop q)) ∧ (¬ (x.regs.length : Int) ≠ x2.regs) ∧ St cx w' (LL)) (fun ρ' _ => (x.regs.length - iv (ρ' 15)).toNat) ?_ ?_
                           · exact ⟨0, zh, zh, (by omega), by rfl, by omega, hS.sp⟩
                           rintro ρ w1 ⟨q, hA, hρ, hq, hdr, hne, hS⟩; obtain ⟨ρ, rfl⟩ := env2 hA hρ
                           unfold Q4T
                           all_goals (refine Q0 ?_; refine Q0 ?_; refine Q2 ?_; refine zm ?_; refine Q1 rfl ?_; refine zl hS ?_; (first | (refine Q20 hS vw fd hlc ?_) | (refine zL ?_)); refine Qr rfl rfl ?_; refine zn ?_)
                           refine Qn rfl (fun hc => ?_) (fun hc => ?_)
                           · skip
                             all_goals (refine zsk ?_; refine Q0 ?_; refine Qa ?_; refine Q0 ?_; refine Q0 ?_; refine zD [(0, none), (1, none), (2, none), (3, none), (4, none), (5, none), (6, none), (7, none), (8, none), (9, some none), (10, some none)] ?_; have hS := hS.drew; refine zm ?_; refine Qk rfl ?_; refine Q1 rfl ?_; refine zl hS ?_; refine Q1 rfl ?_; refine zl hS ?_; refine zm ?_; refine zi ?_; intro b3 o3 cs3 x3 hat3 hx3 he3; obtain rfl := QJ he3; (first | (refine zl hS ?_) | (refine zlk hS ?_)))
                             all_goals (refine zR2 (c := rhas_c hS fd) (h := ?_); rintro v1 w1 ⟨rfl, hS⟩; cases hb1 : hasB s.h x3)
                             all_goals (refine Q1o rfl ?_; refine zn ?_)
                             all_goals
                               first
                               | (refine Q3 rfl ?_ -- Q8 c27
                                  all_goals (refine Q0 ?_; refine Q2 ?_; refine zm ?_; refine zm ?_; refine zn ?_; have hM : rmk m j.f s x = .error 10 := (by rw [ej, if_neg hne, Qu (Qxi (p := []) hx3 hdr hb1)]); refine zr ?_; refine zf2 ?_)
                                  all_goals (exact ⟨_, rfl, cx, _, St.refl hS, cd_e hM, Q2E hM, hS.sp⟩))
                               | (refine Q4 rfl ?_ -- Q8 c27
                                  all_goals refine zsk ?_)
                             all_goals (refine Q0 ?_; refine zD [(0, none), (1, none), (2, none), (3, none), (4, none), (5, none), (6, none), (7, none), (8, none), (9, some none)] ?_; have hS := hS.drew; refine Q1 rfl ?_; refine zl hS ?_; refine zm ?_; refine Qwx vw hr rfl rfl ⟨_, rfl⟩ rfl (by omega) (by omega) ?_; intro v4 hs4; rw [List.drop_zero] at hs4; refine Q1 rfl ?_; refine zl hS ?_; refine zm ?_; refine Q5d vw rfl hr rfl (by omega) ?_; intro b7 o7 cs7 x7 hat7 hx7 he7; obtain rfl := QJ he7; obtain rfl : x3 = x7 := Option.some.inj (hx3.symm.trans hx7); (first | (refine zl hS ?_) | (refine zlk hS ?_)))
                             all_goals (refine zR2 (c := rin_c hs4 hS) (h := ?_); rintro v1 w1 ⟨rfl, hS⟩; cases hb2 : decide (x3 ∈ x.regs.take q))
                             all_goals (refine zn ?_)
                             all_goals
                               first
                               | (refine Q3 rfl ?_ -- Q8 c28
                                  all_goals (refine Q0 ?_; refine Q2 ?_; refine zm ?_; refine zm ?_; refine zn ?_; have hM : rmk m j.f s x = .error 13 := (by rw [ej, if_neg hne, Qu (QoL hx3 hdr hb1 (of_decide_eq_true hb2))]); refine zr ?_; refine zf2 ?_)
                                  all_goals (exact ⟨_, rfl, cx, _, St.refl hS, cd_e hM, Q2E hM, hS.sp⟩))
                               | (refine Q4 rfl ?_ -- Q8 c28
                                  all_goals refine zsk ?_)
                             all_goals (refine Q2 ?_; refine zm ?_; refine zad ?_; refine zm ?_; refine zn ?_; exact ⟨⟨q + 1, zh, zh, (by omega), by exact Qxh hx3 hdr hb1 (of_decide_eq_false hb2), hne, hS.sp⟩, Qo (by omega)⟩)
                           · skip
                             all_goals (refine zex ?_; have hrg := QtM hdr (by omega); refine Q0 ?_; refine Q0 ?_; refine Q2 ?_; refine zm ?_; refine Q1 rfl ?_; refine zl hS ?_; refine Q1 rfl ?_; refine zl hS ?_; refine Q1 rfl ?_; refine zl hS ?_; refine zR4 (c := QtC (s := s) hsf.1.2 hls ha hp2 hr hS.p3) (h := ?_); rintro v1 w1 ⟨rfl, hS⟩; refine zm ?_; refine zn ?_; refine Q0 ?_; refine Q2 ?_; refine zm ?_)
                             all_goals (first | (refine QQ ?_) | (refine QR ?_) | (refine Qm rfl rfl (fun hc => ?_) (fun hc => ?_)))
                             all_goals (refine zn ?_)
                             all_goals
                               first
                               | (refine Q3 rfl ?_ -- Q8 c29
                                  all_goals (refine Q0 ?_; refine Q2 ?_; refine zm ?_; refine zm ?_; refine zm ?_; refine zn ?_; have hM : rmk m j.f s x = .error (QM (Q6c s x.args x2.params x.regs)) := (by rw [ej, if_neg hne, Q9 hrg, Qu (Qgx (by omega))]); refine zr ?_; refine zf2 ?_)
                                  all_goals (exact ⟨_, rfl, cx, _, St.refl hS, cd_e hM, Q2E hM, hS.sp⟩))
                               | (refine Q4 rfl ?_ -- Q8 c29
                                  all_goals refine zsk ?_)
                             all_goals (refine Q0 ?_; refine Q2 ?_; refine zm ?_; refine zn ?_; have har := Qph (Qar s x.args x2.params x.regs) (by omega); have hM : rmk m j.f s x = .ok (x2.results.map (renT x.regs)) := (by rw [ej, if_neg hne, Q9 hrg, Q9 har]); refine Q0 ?_; refine Q0 ?_; refine Q2 ?_; refine zm ?_; refine zn ?_; refine Qa ?_; have hS := St.nil (T := 112) (es := 3) hS)
                             refine zo [3, 14] (fun A ρ' w' => ∃ (k2 : Cx) (q : Nat) (vl2 : Value) (cs2 : List (List Value)), Has ρ' A ∧ Has ρ' [(18, .int .i64 q), (17, vl2)] ∧ (cx.Le k2) ∧ (q ≤ x2.results.length) ∧ (tyR.ls k2 cs2 ((x2.results.take q).map (renT x.regs))) ∧ St k2 w' (sl 112 3 vl2 cs2 :: blk p14 53 [.int .i64 x2.regs, vp2, vr2, vb2] :: blk nb 112 [.int .i64 1, .int .i64 0, .slice none 0 0] :: blk p3 57 [.int .i64 x.op, .int .i64 x.a, .int .i64 x.b, .int .i64 x.c, .int .i64 x.k, .int .i64 x.n, vr, va] :: blk j.sp 63 (j.kcells vl) :: Q7p j.hp s.h :: sl 112 3 vl css :: L)) (fun ρ' _ => (x2.results.length - iv (ρ' 18)).toNat) ?_ ?_
                             · exact ⟨cx, 0, _, _, zh, zh, St.refl hS, (by omega), Rep.LR.nil _ _ _, hS.sp⟩
                             rintro ρ w1 ⟨k2, q, vl2, cs2, hA, hρ, hle2, hq, hlo, hS⟩; obtain ⟨ρ, rfl⟩ := env2 hA hρ; have hL2 := hle2; (try have hp2 := hp2.up hle2); (try have hr2 := hr2.up hle2); (try have hb2 := hb2.up hle2); (try have he2 := he2.up hle2); (try have hls := hls.up hle2); (try have hr := hr.up hle2); (try have ha := ha.up hle2); (try have hm1 := hm1.up hle2)
                             unfold Q4S
                             all_goals (refine Q0 ?_; refine Q0 ?_; refine Q2 ?_; refine zm ?_; refine Q1 rfl ?_; refine zl hS ?_; (first | (refine Q20 hS vw fd hlc ?_) | (refine zL ?_)); refine Qr rfl rfl ?_; refine zn ?_)
                             refine Qn rfl (fun hc => ?_) (fun hc => ?_)
                             · skip
                               all_goals (refine zsk ?_; refine Q0 ?_; refine Qa ?_; refine Q0 ?_)
                               refine Q3N 7 11 (by kernel_rfl) ?_ ?_
                               · skip
                                 all_goals (refine zC [(0, none), (1, none), (2, none), (3, none), (4, none), (5, none), (6, none), (7, some none), (8, none), (9, none), (10, none), (11, some (some [])), (12, some (some [])), (13, some none)] ?_; have hS := hS.drew; refine s_cq ?_; refine Q1 rfl ?_; refine zt ?_; refine s_cq ?_; refine zl hS ?_; refine zt ?_; refine s_cq ?_; refine zm ?_; refine zt ?_; refine s_cq ?_; refine zi ?_; intro b4 o4 cs4 x4 hat4 hx4 he4; obtain ⟨vl4, rfl, hl4⟩ := Qi he4; refine zt ?_; refine s_cq ?_; (first | (refine zv hS ?_) | (refine zvk hS ?_)); refine zt ?_; refine s_cq ?_; refine Q1 rfl ?_; refine zt ?_; refine s_cq ?_; refine zl hS ?_; refine zt ?_; refine s_cf ?_)
                                 all_goals (refine zR2 (c := QwU x4 (hsf.2.1.2 x4 (List.mem_of_getElem? hx4)) he4 hr hS) (h := ?_); rintro v1 w1 ⟨c3, ds, rfl, hle2, hu3, hS⟩; (try have hL2 := hL2.trans hle2); (try have hp2 := hp2.up hle2); (try have hr2 := hr2.up hle2); (try have hb2 := hb2.up hle2); (try have hl4 := hl4.up hle2); (try have he2 := he2.up hle2); (try have he4 := he4.up hle2); (try have hls := hls.up hle2); (try have hr := hr.up hle2); (try have ha := ha.up hle2); (try have hm1 := hm1.up hle2); (try have hlo := hlo.up hle2); have hu3' := hu3; obtain ⟨vu, rfl, hlu⟩ := Qi hu3)
                                 all_goals (refine zt ?_; refine s_cq ?_; refine zm ?_; refine zt ?_; refine s_cq ?_; refine Q47 rfl rfl ?_; refine zt ?_; refine s_cq ?_; refine Q47 rfl rfl ?_; refine zt ?_; refine QE ?_; refine Qb hS ?_; intro p19 w1 hS; refine zt ?_; refine zy ?_; refine QE ?_; refine zsn hS ?_; intro w1 hS; have hS := hS.ns; refine zt ?_; refine zy ?_; refine s_cf ?_; refine zm ?_; refine zt ?_; refine zcn ?_; refine Q2 ?_; refine zm ?_; refine zv hS ?_; refine zB1 hS [_, _, _] ?_; intro b1 w1 hS; refine za Q3s Q6O hS ?_; intro vp2 w2 css2 hls2 hv2 hS; have hS := hS.ns; refine zm ?_; refine zn ?_; refine Q2 ?_; refine zm ?_; refine zad ?_; refine zm ?_; refine zn ?_; exact ⟨⟨_, q + 1, _, _, zh, zh, hL2, (by omega), by rw [Q1m hx4, List.map_append]; exact hls2, hS.sp⟩, Qo (by omega)⟩)
                               · skip
                                 all_goals (refine zC [(0, none), (1, none), (2, none), (3, none), (4, none), (5, none), (6, none), (11, some (some [1, 4, 6])), (7, some none), (8, none), (9, none), (10, none), (12, some (some [])), (13, some none)] ?_; have hS := hS.drew; refine s_cq ?_; refine Q1 rfl ?_; refine zt ?_; refine s_cq ?_; refine zl hS ?_; refine zt ?_; refine s_cq ?_; refine zm ?_; refine zt ?_; refine s_cq ?_; refine zi ?_; intro b4 o4 cs4 x4 hat4 hx4 he4; obtain ⟨vl4, rfl, hl4⟩ := Qi he4; refine zt ?_; refine s_cq ?_; (first | (refine zv hS ?_) | (refine zvk hS ?_)); refine zt ?_; refine s_cq ?_; refine Q1 rfl ?_; refine zt ?_; refine s_cq ?_; refine zl hS ?_; refine zt ?_; refine QE ?_; refine Qb hS ?_; intro p19 w1 hS; refine zt ?_; refine zy ?_; refine s_cf ?_)
                                 all_goals (refine zR2 (c := QwU x4 (hsf.2.1.2 x4 (List.mem_of_getElem? hx4)) he4 hr hS) (h := ?_); rintro v1 w1 ⟨c3, ds, rfl, hle2, hu3, hS⟩; (try have hL2 := hL2.trans hle2); (try have hp2 := hp2.up hle2); (try have hr2 := hr2.up hle2); (try have hb2 := hb2.up hle2); (try have hl4 := hl4.up hle2); (try have he2 := he2.up hle2); (try have he4 := he4.up hle2); (try have hls := hls.up hle2); (try have hr := hr.up hle2); (try have ha := ha.up hle2); (try have hm1 := hm1.up hle2); (try have hlo := hlo.up hle2); have hu3' := hu3; obtain ⟨vu, rfl, hlu⟩ := Qi hu3)
                                 all_goals (refine zt ?_; refine s_cq ?_; refine zm ?_; refine zt ?_; refine s_cq ?_; refine Q47 rfl rfl ?_; refine zt ?_; refine s_cq ?_; refine Q47 rfl rfl ?_; refine zt ?_; refine QE ?_; refine zsn hS ?_; intro w1 hS; have hS := hS.ns; refine zt ?_; refine zy ?_; refine s_cf ?_; refine zm ?_; refine zt ?_; refine zcn ?_; refine Q2 ?_; refine zm ?_; refine zv hS ?_; refine zB1 hS [_, _, _] ?_; intro b1 w1 hS; refine za Q3s Q6O hS ?_; intro vp2 w2 css2 hls2 hv2 hS; have hS := hS.ns; refine zm ?_; refine zn ?_; refine Q2 ?_; refine zm ?_; refine zad ?_; refine zm ?_; refine zn ?_; exact ⟨⟨_, q + 1, _, _, zh, zh, hL2, (by omega), by rw [Q1m hx4, List.map_append]; exact hls2, hS.sp⟩, Qo (by omega)⟩)
                             · skip
                               all_goals (refine zex ?_; refine Q0 ?_; refine Q2 ?_; refine zm ?_; refine zm ?_; refine zm ?_; refine zn ?_; refine zr ?_; refine zf2 ?_)
                               all_goals (first | (exact ⟨_, rfl, cx, _, St.refl hS, cd_e hM, Q2E hM, hS.sp⟩) | (exact ⟨_, rfl, cx, _, St.refl hS, cd_o hM, Q1j hM (Rep.SR.nil _ _ _), hS.sp⟩) | (exact ⟨_, rfl, cx, _, St.refl hS, cd_w hM hw, Q1j hM (Rep.SR.nil _ _ _), hS.sp⟩) | (obtain ⟨c9, hle9, hS, hk9⟩ := St.freeze1 (r := tyR) (L := KLf j s vl css L) hS.sp (hN : tyR.at _ _ number); exact ⟨_, rfl, c9, _, hle9, cd_c hC, Q6l hT hk9, hS⟩) | (obtain ⟨c9, hle9, hS, hk9⟩ := St.freeze1 (r := tyR) (L := KLf j s vl css L) hS.sp (hN : tyR.at _ _ number); exact ⟨_, rfl, c9, _, hle9, cd_o hM, Q1j hM hk9, hS⟩) | (obtain ⟨c9, hle9, hS, hk9⟩ := St.freeze1 (r := tyR) (L := KLf j s vl css L) hS.sp hrow; exact ⟨_, rfl, c9, _, hle9, cd_o hM, Q1j hM hk9, hS⟩) | (obtain ⟨c9, hle9, hS, hk9⟩ := St.freeze1 (r := tyR) (L := KLf j s vl css L) hS.sp hrow; exact ⟨_, rfl, c9, _, hle2.trans hle9, cd_o hM, Q1j hM hk9, hS⟩) | (exact ⟨_, rfl, c1, _, hle2, cd_e hM, Q2E hM, hS.sp⟩) | (exact ⟨_, rfl, cx, _, St.refl hS, cd_c hC, Q6l hT (Rep.SR.nil _ _ _), hS.sp⟩) | (have hM : rmk m j.f s x = .error 11 := (by rw [Qtz (by omega), Q9 hjt, if_pos (by omega)]); exact ⟨_, rfl, cx, _, St.refl hS, cd_e hM, Q2E hM, hS.sp⟩) | (have hM : rmk m j.f s x = .ok [] := (by rw [Qtz (by omega), Q9 hjt, if_neg (by omega)]); exact ⟨_, rfl, cx, _, St.refl hS, cd_w hM hw, Q1j hM (Rep.SR.nil _ _ _), hS.sp⟩) | (obtain ⟨c9, hle9, hS, hk9⟩ := St.freezeL (r := tyR) hS hlo rfl (by simp only [List.length_map, List.length_take]; omega); exact ⟨_, rfl, c9, _, hL2.trans hle9, cd_o hM, Q1j hM (by rw [List.take_of_length_le (by omega)] at hk9; exact hk9), hS.sp⟩)))))))
end Go.Proofs.YtanlkfeogoganaaGreat
namespace Go.Proofs.YtanlkfeogoganaaGreat
open Go.Lir
set_option maxHeartbeats 1000000
attribute [local irreducible] LC.wp Q5 Q11 Q1f retQ Q2h LO.wp QD Calls
set_option linter.unusedSimpArgs false
set_option linter.unusedVariables false
attribute [local irreducible] hasB Q21 Q1N Q1Q Q3S upTo Q1b Q24 rmk jIns
variable {cx : Cx} {w : World} {L : List Res} {j : JP} {h : List Bool} {vl : Value} {css : List (List Value)} {i : Nat} {m : Module}
theorem Q5h {s s' : JS} {x : Ins} {c : Int} {c' : Cx} {vl' : Value} {css' : List (List Value)} (hJ : jIns m j.f s x = (c, s')) (hle : cx.Le c') (hls : tyR.ls c' css' s'.l) (hS : St c' w (KLf j s' vl' css' L)) :
    ∃ c' vl' css', cx.Le c' ∧ (Value.int .i64 c) = .int .i64 (jIns m j.f s x).1 ∧ tyR.ls c' css' (jIns m j.f s x).2.l ∧ St c' w (KLf j (jIns m j.f s x).2 vl' css' L) := by
  rw [hJ]; exact ⟨_, _, _, hle, rfl, hls, hS⟩
theorem rIns_c {s : JS} {x : Ins} {cs : List Value} (hm : m.Short) (hg : JInv m j.f s) (hj : j.Fits cx m) (hx : insR.at cx cs x) (hls : tyR.ls cx css s.l) (hS : St cx w (KLf j s vl css L)) :
    Rets Tryz.prog Q1H [.pointer (some ⟨j.sp, 0, none⟩), .agg ⟨cs⟩] w fun u w' => ∃ c' vl' css', cx.Le c' ∧ u = .int .i64 (jIns m j.f s x).1 ∧ tyR.ls c' css' (jIns m j.f s x).2.l ∧ St c' w' (KLf j (jIns m j.f s x).2 vl' css' L) := by
  have hx' := hx
  have hlc := hls.1
  have hn := hg.n
  have hh := hg.h
  have hlen : (s.h.map QL).length = s.h.length := List.length_map _
  obtain ⟨vr, va, rfl, hr, ha⟩ := Q1h hx
  all_goals refine Qn8 ?_
  all_goals (unfold R_Known_Ins_lc; refine Q0 ?_; refine Q2 ?_; refine zb hS ?_; intro p3 w1 hS; refine zm ?_; refine zn ?_; refine Q0 ?_; refine Q0 ?_; refine zD [(0, none), (1, none), (2, none), (3, none), (4, none), (5, some none), (6, some none)] ?_; have hS := hS.drew; refine zm ?_; refine Qk rfl ?_; refine Q1 rfl ?_; refine zv hS ?_; refine zv hS ?_; refine zR2 (c := rins_c (m := m) ⟨_, rfl, hj.m⟩ hx' hS) (h := ?_); rintro v1 w1 ⟨rfl, hS⟩; refine zm ?_; refine zn ?_; refine Q0 ?_; refine Q2 ?_; refine zm ?_)
  all_goals (first | (refine QQ ?_) | (refine QR ?_) | (refine Qm rfl rfl (fun hc => ?_) (fun hc => ?_)))
  all_goals (refine zn ?_)
  all_goals
    first
    | (refine Q3 rfl ?_ -- Q1H c0
       all_goals (refine Q0 ?_; refine Q2 ?_; refine zm ?_; refine zm ?_; refine zn ?_; have hJ := jIns_f (f := j.f) (s := s) (x := x) (m := m) (by omega); refine zr ?_; refine zf ?_)
       all_goals (exact ⟨_, rfl, Q5h hJ (St.refl hS) hls hS.sp⟩))
    | (refine Q4 rfl ?_ -- Q1H c0
       all_goals refine zsk ?_)
  all_goals (refine Q0 ?_; have hF : QF m.funcs.length x = 0 := (by omega); refine Q2 ?_; refine zm ?_; refine zv hS ?_; refine zR2 (c := rmakes_c (s := s) hm hF hg.toJGood hj hx' hls hS.p3) (h := ?_); rintro v1 w1 ⟨c1, vm1, hle2, rfl, hv0, hS⟩; have hls := hls.up hle2; refine zm ?_; refine Q47 rfl rfl ?_; refine Q47 rfl rfl ?_; refine zm ?_; refine zm ?_; refine zn ?_; refine Q0 ?_; refine Q0 ?_; refine Q2 ?_; refine zm ?_)
  all_goals (first | (refine QQ ?_) | (refine QR ?_) | (refine Qm rfl rfl (fun hc => ?_) (fun hc => ?_)))
  all_goals (refine zn ?_)
  all_goals
    first
    | (refine Q3 rfl ?_ -- Q1H c1
       all_goals (refine Q0 ?_; refine Q2 ?_; refine zm ?_; refine zm ?_; refine zn ?_; have hJ := jIns_e (f := j.f) (s := s) hF hg (by omega); refine zr ?_; refine zf ?_)
       all_goals (first | (exact ⟨_, rfl, Q5h hJ (St.refl hS) hls hS.sp⟩) | (exact ⟨_, rfl, Q5h hJ hle2 hls hS.sp⟩)))
    | (refine Q4 rfl ?_ -- Q1H c1
       all_goals refine zsk ?_)
  all_goals (refine Q0 ?_; refine Q0 ?_; obtain ⟨ts, hts⟩ := Qgw (rmk_nz m j.f s x) (by omega); have hv := hv0 ts hts; have hvl := hv.len; refine Q2 ?_; refine zm ?_; refine Qk rfl ?_; refine Q1 rfl ?_; refine zl hS ?_; refine Q20 hS vw fd hlc ?_; refine zm ?_; refine QwI vw hv ?_; refine zad ?_)
  all_goals (first | (refine Q17 ?_) | (refine Q18 ?_) | (refine Qt rfl rfl (fun hc => ?_) (fun hc => ?_)))
  all_goals (refine zn ?_)
  all_goals
    first
    | (refine Q3 rfl ?_ -- Q1H c2
       all_goals (refine Q0 ?_; refine Q2 ?_; refine zm ?_; refine zn ?_; have hJ := jIns_m hF hg hts (by omega); refine zr ?_; refine zf ?_)
       all_goals (first | (exact ⟨_, rfl, Q5h hJ (St.refl hS) hls hS.sp⟩) | (exact ⟨_, rfl, Q5h hJ hle2 hls hS.sp⟩)))
    | (refine Q4 rfl ?_ -- Q1H c2
       all_goals refine zsk ?_)
  all_goals (refine Q0 ?_; refine Q0 ?_; refine Q2 ?_; refine Q1 rfl ?_; refine zl hS ?_)
  all_goals (first | (refine Qw ?_) | (refine Qy ?_) | (refine Ql rfl rfl (fun hc => ?_) (fun hc => ?_)))
  all_goals (refine zn ?_)
  all_goals
    first
    | (refine Q3 rfl ?_ -- Q1H c3
       all_goals (obtain ⟨vh, hS⟩ := Q3Z (hp := j.hp) (h := s.h) (L := blk j.sp 63 (j.kcells vl) :: sl 112 3 vl css :: blk p3 57 [.int .i64 x.op, .int .i64 x.a, .int .i64 x.b, .int .i64 x.c, .int .i64 x.k, .int .i64 x.n, vr, va] :: L) hS.sp; have h16 := rmk_3ok hts (by omega); have hJ := jIns_o3 hF hg hts (by omega) (by omega); refine zC [(0, none), (1, none), (2, none), (3, none), (4, none), (5, none), (6, none), (7, none), (8, none), (9, none), (10, none), (11, some (some [3, 7, 10])), (12, some (some [3])), (13, none), (14, none), (15, some none)] ?_; have hS := hS.drew; refine s_cq ?_; refine zm ?_; refine zt ?_; refine s_cq ?_; refine Qk rfl ?_; refine zt ?_; refine s_cq ?_; refine Q1 rfl ?_; refine zt ?_; refine s_cq ?_; refine zl hS ?_; refine zt ?_; refine s_cq ?_; refine zm ?_; refine zt ?_; refine s_cq ?_; refine Qk rfl ?_; refine zt ?_; refine s_cq ?_; refine Q1 rfl ?_; refine zt ?_; refine s_cq ?_; refine zl hS ?_; refine zt ?_; refine s_cq ?_; refine Qk rfl ?_; refine zt ?_; refine s_cq ?_; refine Q1 rfl ?_; refine zt ?_; refine s_cq ?_; refine zl hS ?_)
       all_goals (refine zt ?_; refine QE ?_; refine zB1 hS [_] ?_; intro b1 w1 hS; refine zt ?_; refine zy ?_; refine QE ?_; refine QnY QrW (.inl u_T70) hS vw vw fd (hS.srcB1 fd rfl) (by simp; omega) ?_; intro vp w2 hS; have hS := hS.ns; rw [show s.h.map QL ++ [[Value.bool true]] = (s.h ++ [true]).map QL by simp [QL]] at hS; refine zt ?_; refine zy ?_; refine s_cq ?_; refine Qk rfl ?_; refine zt ?_; refine s_cq ?_; refine Q1 rfl ?_; refine zt ?_; refine s_cf ?_; refine zst hS ?_; intro w1 hS; have hS := hS.ns; refine zt ?_; refine zcn ?_)
       all_goals (have hS := Q3r (hp := j.hp) (h := s.h ++ [true]) (v := vp) (L := blk j.sp 63 (j.kcells vl) :: sl 112 3 vl css :: blk p3 57 [.int .i64 x.op, .int .i64 x.a, .int .i64 x.b, .int .i64 x.c, .int .i64 x.k, .int .i64 x.n, vr, va] :: L) hS.sp))
    | (refine Q4 rfl ?_ -- Q1H c3
       all_goals refine zsk ?_)
  all_goals (refine Q0 ?_; refine Q0 ?_; refine Q2 ?_; refine Q1 rfl ?_; refine zl hS ?_)
  all_goals (first | (refine Qw ?_) | (refine Qy ?_) | (refine Ql rfl rfl (fun hc => ?_) (fun hc => ?_)))
  all_goals (refine zn ?_)
  all_goals
    first
    | (refine Q4 rfl ?_ -- Q1H c4
       all_goals refine zsk ?_)
    | (refine Q3 rfl ?_ -- Q1H c4
       all_goals (obtain ⟨vh, hS⟩ := Q3Z (hp := j.hp) (h := s.h) (L := blk j.sp 63 (j.kcells vl) :: sl 112 3 vl css :: blk p3 57 [.int .i64 x.op, .int .i64 x.a, .int .i64 x.b, .int .i64 x.c, .int .i64 x.k, .int .i64 x.n, vr, va] :: L) hS.sp; obtain ⟨t, g0, g1, ht, r0, r1⟩ := rmk_4ok hts (by omega); have hJ := jIns_o4 hF hg hts (by omega) (by omega) ht; obtain ⟨d, hd, hrd⟩ := hls.2 _ _ ht; obtain ⟨vd, rfl, hld⟩ := Qi hrd; refine zD [(0, none), (1, none), (2, none), (3, none), (4, none), (5, none), (6, none), (7, none), (8, none), (9, none), (10, none), (11, none), (12, none), (13, none), (14, none), (15, none), (16, none), (17, some none)] ?_; have hS := hS.drew; refine zm ?_; refine Qk rfl ?_; refine Q1 rfl ?_; refine zl hS ?_; refine Qk rfl ?_; refine Q1 rfl ?_; refine zl hS ?_; refine zm ?_; refine Qk rfl ?_; refine Q1 rfl ?_; refine zl hS ?_; refine Q1 rfl ?_; refine zl hS ?_)
       all_goals (refine Q3O hS vw rfl fd (by omega) (by omega) ?_; intro b1 o1 hel1; (first | refine Q1 rfl ?_ | refine Q12 rfl ?_); refine Q4a (j := 1) hS hel1 rfl fd rfl hd rfl ?_; refine Q3O hS vw rfl fd (by omega) (by omega) ?_; intro b2 o2 hel2; refine Qgm hS hel2 rfl vw fd rfl (Q2i QL s.h false (by omega)) (by decide) rfl ?_; intro w2 hS; have hS := hS.ns; rw [show (QL (s.h.getD t.r.toNat false)).set 0 (Value.bool false) = QL false from rfl, map_set] at hS; refine zn ?_)
       all_goals (have hS := Q3r (hp := j.hp) (h := s.h.set t.r.toNat false) (v := vh) (L := blk j.sp 63 (j.kcells vl) :: sl 112 3 vl css :: blk p3 57 [.int .i64 x.op, .int .i64 x.a, .int .i64 x.b, .int .i64 x.c, .int .i64 x.k, .int .i64 x.n, vr, va] :: L) hS.sp))
  all_goals (refine Q0 ?_; refine Q2 ?_; refine zm ?_; refine zm ?_; refine Qk rfl ?_; refine Q1 rfl ?_; refine zl hS ?_; refine zm ?_; (first | (refine za Q3s Q6O hS ?_; intro vp1 w1 css1 hls1 hv1 hS; have hS := hS.ns) | (refine zak Q3s Q6O hS ?_; intro vp1 w1 css1 hls1 hv1 hS; have hS := hS.ns)); refine Qk rfl ?_; refine Q1 rfl ?_; refine zst hS ?_; intro w1 hS; have hS := hS.ns; refine zn ?_; refine Q0 ?_; refine Q2 ?_; refine zm ?_; refine zn ?_; refine zr ?_; refine zf ?_; (first | (exact ⟨_, rfl, Q5h hJ (St.refl hS) hls hS.sp⟩) | (exact ⟨_, rfl, Q5h hJ hle2 hls hS.sp⟩) | (exact ⟨_, rfl, Q5h hJ hle2 hls1 hS.sp⟩) | (exact ⟨_, rfl, Q5h (jIns_o hF hg hts (by omega) (by omega) (by omega)) hle2 hls1 hS.sp⟩)))
theorem rTo_c {s : JS} {t : To} {cs : List Value} (hsf : j.f.Short) (hb : 0 ≤ t.block ∧ t.block < j.f.blocks.length) (hfb : ∀ b ∈ j.f.blocks, j.f.regs ≤ b.regs) (hh : s.h.length ≤ 16) (hj : j.Fits cx m) (hx : toR.at cx cs t) (hls : tyR.ls cx css s.l) (hS : St cx w (KLf j s vl css L)) :
    Rets Tryz.prog Q2W [.pointer (some ⟨j.sp, 0, none⟩), .agg ⟨cs⟩] w fun u w' => u = .int .i64 (QM (jto j.f s t)) ∧ St cx w' (KLf j s vl css L) := by
  have hx' := hx
  obtain ⟨vr, va, rfl, hr, ha⟩ := Q3v hx
  have hlr := hr.len
  have hbl := hj.b
  all_goals refine QqC ?_
  all_goals (unfold R_Known_to_lc; refine Q0 ?_; refine Q2 ?_; refine zb hS ?_; intro p3 w1 hS; refine zm ?_; refine zn ?_; refine Q0 ?_; refine zC [(0, none), (1, none), (2, none), (3, none), (4, none), (5, none), (6, none), (7, none), (8, none), (9, some (some [4, 6, 8])), (10, some none)] ?_; have hS := hS.drew; refine s_cq ?_; refine zm ?_; refine zt ?_; refine s_cq ?_; refine Qk rfl ?_; refine zt ?_; refine s_cq ?_; refine Q1 rfl ?_; refine zt ?_; refine s_cq ?_; (first | refine Q1 rfl ?_ | refine Q12 rfl ?_); refine zt ?_; refine s_cq ?_; refine zl hS ?_; refine zt ?_; refine s_cq ?_; refine Q1 rfl ?_; refine zt ?_; refine s_cq ?_; refine zl hS ?_; refine zt ?_; refine s_cq ?_; ((first | refine zi ?_ | refine zj ?_); intro b1 o1 cs1 x1 hat1 hx1 he1; obtain ⟨vp1, vc1, ve11, ve12, ve13, ve14, ve15, rfl, hp1, hc1, he11, he12, he13, he14, he15⟩ := Q1c he1); refine zt ?_; refine s_cq ?_; (first | (refine zv hS ?_) | (refine zvk hS ?_)); refine zt ?_; refine QE ?_; refine Qb hS ?_; intro p5 w1 hS; refine zt ?_; refine zy ?_; refine s_cf ?_; refine zsn hS ?_; intro w1 hS; have hS := hS.ns)
  all_goals (refine zt ?_; refine zcn ?_; have hbm := List.mem_of_getElem? hx1; have hf1 := hfb x1 hbm; have hsb := hsf.2.2.2 x1 hbm; refine Q0 ?_; refine Q0 ?_; refine Q2 ?_; refine Q1 rfl ?_; refine zl hS ?_; refine zL ?_; refine Q1 rfl ?_; refine zl hS ?_)
  all_goals (first | (refine QQ ?_) | (refine QR ?_) | (refine Qm rfl rfl (fun hc => ?_) (fun hc => ?_)))
  all_goals (refine zn ?_)
  all_goals
    first
    | (refine Q3 rfl ?_ -- Q2W c0
       all_goals (refine Q0 ?_; refine Q2 ?_; refine zm ?_; refine zn ?_; refine zr ?_; refine zf ?_)
       all_goals (refine ⟨_, rfl, ?_, hS.sp⟩; rw [Qxg hx1 (by omega)]; rfl; done))
    | (refine Q4 rfl ?_ -- Q2W c0
       all_goals refine zsk ?_)
  all_goals (refine Q0 ?_; refine Q0 ?_; refine Q2 ?_; refine zm ?_; refine zn ?_; refine Qa ?_)
  refine zoL hS [0, 3, 5] (fun A LL ρ' w' => ∃ (q : Nat), Has ρ' A ∧ Has ρ' [(6, .int .i64 q)] ∧ (q ≤ j.f.regs.toNat) ∧ (Q3S t.regs q = true) ∧ (¬ (t.regs.length : Int) ≠ x1.regs) ∧ St cx w' (LL)) (fun ρ' _ => (j.f.regs - iv (ρ' 6)).toNat) ?_ ?_
  · exact ⟨0, zh, zh, (by omega), by unfold Q3S; rfl, by omega, hS.sp⟩
  rintro ρ w1 ⟨q, hA, hρ, hq, hk, hne, hS⟩; obtain ⟨ρ, rfl⟩ := env2 hA hρ
  unfold Qbb
  all_goals (refine Q0 ?_; refine Q0 ?_; refine Q2 ?_; refine zm ?_; refine zm ?_; refine Qk rfl ?_; refine Q1 rfl ?_; (first | refine Q1 rfl ?_ | refine Q12 rfl ?_); refine zl hS ?_; refine Qr rfl rfl ?_; refine zn ?_)
  refine Qn rfl (fun hc => ?_) (fun hc => ?_)
  · skip
    all_goals (refine zsk ?_; refine Q0 ?_; refine Qa ?_; refine Q0 ?_; refine Q2 ?_; refine Q1 rfl ?_; refine zl hS ?_; refine zm ?_; refine zi ?_; intro b2 o2 cs2 x2 hat2 hx2 he2; obtain rfl := QJ he2; (first | (refine zl hS ?_) | (refine zlk hS ?_)); refine zm ?_)
    all_goals (first | (refine QQ ?_) | (refine QR ?_) | (refine Qm rfl rfl (fun hc => ?_) (fun hc => ?_)))
    all_goals (refine zn ?_)
    all_goals
      first
      | (refine Q3 rfl ?_ -- Q2W c2
         all_goals (refine Q0 ?_; refine Q2 ?_; refine zm ?_; refine zn ?_; refine zr ?_; refine zf ?_)
         all_goals (first | (refine ⟨_, rfl, ?_, hS.sp⟩; rw [Qxg hx1 (by omega)]; rfl; done) | (refine ⟨_, rfl, ?_, hS.sp⟩; rw [Qvn hx1 hne (QoF (q := q) (by omega) (by rw [hx2]; intro h; cases h; omega))]; rfl; done)))
      | (refine Q4 rfl ?_ -- Q2W c2
         all_goals refine zsk ?_)
    all_goals (refine Q2 ?_; refine zm ?_; refine zad ?_; refine zm ?_; refine zn ?_; exact ⟨⟨q + 1, zh, zh, (by omega), by rw [kept_s, hk, hx2]; simp; omega, hne, hS.sp⟩, Qo (by omega)⟩)
  · skip
    all_goals (refine zex ?_; have hq' : q = j.f.regs.toNat := (by omega); rw [hq'] at hk; refine Q0 ?_; refine Q0 ?_; refine zD [(0, none), (1, none), (2, none), (3, none), (4, none), (5, none), (6, some none), (7, some none)] ?_; have hS := hS.drew; refine zm ?_; refine Qk rfl ?_; refine Q1 rfl ?_; refine zl hS ?_; refine Q1 rfl ?_; refine zl hS ?_; refine zR2 (c := rpass_h (h := s.h) hh hr hS fd) (h := ?_); rintro v1 w1 ⟨rfl, hS⟩; refine zm ?_; refine zn ?_; refine Q0 ?_; refine Q2 ?_; refine zm ?_)
    all_goals (first | (refine QQ ?_) | (refine QR ?_) | (refine Qm rfl rfl (fun hc => ?_) (fun hc => ?_)))
    all_goals (refine zn ?_)
    all_goals
      first
      | (refine Q3 rfl ?_ -- Q2W c3
         all_goals (refine Q0 ?_; refine Q2 ?_; refine zm ?_; refine zm ?_; refine zn ?_; refine zr ?_; refine zf ?_)
         all_goals (first | (refine ⟨_, rfl, ?_, hS.sp⟩; rw [Qxg hx1 (by omega)]; rfl; done) | (refine ⟨_, rfl, ?_, hS.sp⟩; rw [Qvn hx1 hne (QoF (q := q) (by omega) (by rw [hx2]; intro h; cases h; omega))]; rfl; done) | (refine ⟨_, rfl, ?_, hS.sp⟩; rw [jto_p hx1 hne hk (by omega)]; rfl; done)))
      | (refine Q4 rfl ?_ -- Q2W c3
         all_goals refine zsk ?_)
    all_goals (refine Q0 ?_; refine Q2 ?_; refine zm ?_; refine Q1 rfl ?_; refine zl hS ?_; refine Q1 rfl ?_; refine zl hS ?_; refine Q1 rfl ?_; refine zl hS ?_; refine zR4 (c := QtC (s := s) hsb.1.2 hls ha hp1 hr hS.p3) (h := ?_); rintro v1 w1 ⟨rfl, hS⟩; refine zm ?_; refine zn ?_; refine zr ?_; refine zf ?_)
    all_goals (first | (refine ⟨_, rfl, ?_, hS.sp⟩; rw [Qxg hx1 (by omega)]; rfl; done) | (refine ⟨_, rfl, ?_, hS.sp⟩; rw [Qvn hx1 hne (QoF (q := q) (by omega) (by rw [hx2]; intro h; cases h; omega))]; rfl; done) | (refine ⟨_, rfl, ?_, hS.sp⟩; rw [jto_p hx1 hne hk (by omega)]; rfl; done) | (refine ⟨_, rfl, ?_, hS.sp⟩; rw [jto_a hx1 hne hk (by omega)]; done))
end Go.Proofs.YtanlkfeogoganaaGreat
namespace Go.Proofs.YtanlkfeogoganaaGreat
open Go.Lir
set_option maxHeartbeats 1000000
attribute [local irreducible] LC.wp Q5 Q11 Q1f retQ Q2h LO.wp QD Calls
set_option linter.unusedSimpArgs false
set_option linter.unusedVariables false
attribute [local irreducible] hasB Q21 Q1N Q1Q Q3S upTo Q1b Q24 rmk jIns jEnd Module.fault
variable {cx : Cx} {w : World} {L : List Res} {j : JP} {h : List Bool} {vl : Value} {css : List (List Value)} {i : Nat} {m : Module}
theorem jto_nz (f : Fun) (s : JS) (t : To) : NZ (jto f s t) := by
  unfold jto
  split
  · exact .e (by decide)
  · split
    · exact .e (by decide)
    · split
      · exact .e (by decide)
      · split
        · rename_i h; exact .e h
        · exact Qar _ _ _ _
theorem rEnd_c {s : JS} {e : Tail} {cs : List Value} (hsf : j.f.Short) (hfb : ∀ b ∈ j.f.blocks, j.f.regs ≤ b.regs) (hf0 : 0 ≤ j.f.regs) (hfr : j.f.regs ≤ 100000) (hg : JInv m j.f s) (hj : j.Fits cx m) (hx : endR.at cx cs e) (hls : tyR.ls cx css s.l) (hS : St cx w (KLf j s vl css L)) :
    Rets Tryz.prog Q13 [.pointer (some ⟨j.sp, 0, none⟩), .agg ⟨cs⟩] w fun u w' => u = .int .i64 (jEnd j.f s e) ∧ St cx w' (KLf j s vl css L) := by
  have hx' := hx
  have hh := hg.h
  obtain ⟨v1, v2, v3, v4, v5, rfl, h1, h2, h3, h4, h5⟩ := Q5r hx
  have hT1 : toR.at cx [.int .i64 e.yes.block, v1, v2] e.yes := ⟨_, _, rfl, h1, h2⟩
  have hT2 : toR.at cx [.int .i64 e.no.block, v3, v4] e.no := ⟨_, _, rfl, h3, h4⟩
  have hjr := hj.r
  all_goals refine Qnk ?_
  all_goals (unfold R_Known_End_lc; refine Q0 ?_; refine Q2 ?_; refine zb hS ?_; intro p3 w1 hS; refine zm ?_; refine zn ?_; refine Q0 ?_; refine Q0 ?_; refine zD [(0, none), (1, none), (2, none), (3, none), (4, none), (5, some none), (6, some none)] ?_; have hS := hS.drew; refine zm ?_; refine Qk rfl ?_; refine Q1 rfl ?_; refine zv hS ?_; refine zv hS ?_; refine zR2 (c := rend_c (x := j.f) ⟨_, _, _, rfl, hj.p, hj.r, hj.b⟩ hx' hS) (h := ?_); rintro v1 w1 ⟨rfl, hS⟩; refine zm ?_; refine zn ?_; refine Q0 ?_; refine Q2 ?_; refine zm ?_)
  all_goals (first | (refine QQ ?_) | (refine QR ?_) | (refine Qm rfl rfl (fun hc => ?_) (fun hc => ?_)))
  all_goals (refine zn ?_)
  all_goals
    first
    | (refine Q3 rfl ?_ -- Q13 c0
       all_goals (refine Q0 ?_; refine Q2 ?_; refine zm ?_; refine zm ?_; refine zn ?_; have hJ := jEnd_f (f := j.f) (s := s) (e := e) (by omega); refine zr ?_; refine zf ?_)
       all_goals (exact ⟨_, rfl, (by rw [hJ]), hS.sp⟩))
    | (refine Q4 rfl ?_ -- Q13 c0
       all_goals refine zsk ?_)
  all_goals (refine Q0 ?_; refine Q0 ?_)
  all_goals (have hF : Q1P j.f.blocks.length e = 0 := (by omega); have hE := jEnd_g (s := s) hF; have hop := Qo7 hF; have hy : e.op ≠ 3 → 0 ≤ e.yes.block ∧ e.yes.block < j.f.blocks.length := (fun h => Qgl (by have := hop.2.2.1; rwa [decide_eq_true h] at this)); have hz : e.op = 2 → 0 ≤ e.no.block ∧ e.no.block < j.f.blocks.length := (fun h => Qgl (by have := hop.2.2.2; rwa [decide_eq_true h] at this)))
  all_goals (refine Q2 ?_; refine Q1 rfl ?_; refine zl hS ?_; refine zn ?_; refine Qa ?_; refine Q0 ?_; refine Q2 ?_)
  all_goals (first | (refine Qw ?_) | (refine Qy ?_) | (refine Ql rfl rfl (fun hc => ?_) (fun hc => ?_)))
  all_goals (refine zm ?_; refine zn ?_)
  all_goals
    first
    | (refine Q3 rfl ?_ -- Q13 c1
       all_goals (refine Q0 ?_; refine Q2 ?_; refine zm ?_; refine Q1 rfl ?_; refine zv hS ?_; refine zR2 (c := rTo_c (s := s) hsf (hy (by omega)) hfb hh hj hT1 hls hS.p3) (h := ?_); rintro v6 w1 ⟨rfl, hS⟩; refine zm ?_; refine zn ?_; have hJ : jEnd j.f s e = QM (jto j.f s e.yes) := (by rw [hE, Qxk (by omega)]); refine zr ?_; refine zf ?_)
       all_goals (exact ⟨_, rfl, (by rw [hJ]), hS.sp⟩))
    | (refine Q4 rfl ?_ -- Q13 c1
       all_goals (refine Q0 ?_; refine Q2 ?_)
       all_goals (first | (refine Qw ?_) | (refine Qy ?_) | (refine Ql rfl rfl (fun hc => ?_) (fun hc => ?_)))
       all_goals (refine zm ?_; refine zn ?_)
       all_goals
         first
         | (refine Q3 rfl ?_ -- Q13 c2
            all_goals (refine Q0 ?_; refine Q0 ?_; refine Q2 ?_; refine zm ?_; refine Q1 rfl ?_; refine zl hS ?_; refine zR4 (c := Q2M (s := s) (k := e.a) (kd := 1) (held := false) hls hS.p3) (h := ?_); rintro v6 w1 ⟨rfl, hS⟩; refine zm ?_; refine zn ?_; refine Q0 ?_; refine Q2 ?_; refine zm ?_)
            all_goals (first | (refine QQ ?_) | (refine QR ?_) | (refine Qm rfl rfl (fun hc => ?_) (fun hc => ?_)))
            all_goals (refine zn ?_)
            all_goals
              first
              | (refine Q3 rfl ?_ -- Q13 c3
                 all_goals (refine Q0 ?_; refine Q2 ?_; refine zm ?_; refine zm ?_; refine zn ?_; have hJ : jEnd j.f s e = Q1b s e.a 1 false := (by rw [hE, QhU (by omega), Qu (Qtp (by omega))]; rfl); refine zr ?_; refine zf ?_)
                 all_goals (exact ⟨_, rfl, (by rw [hJ]), hS.sp⟩))
              | (refine Q4 rfl ?_ -- Q13 c3
                 all_goals refine zsk ?_)
            all_goals (refine Q0 ?_; refine Q0 ?_; obtain ⟨t1, g1⟩ := Qwm (s := s) (k := e.a) (kd := 1) (by omega); refine Q2 ?_; refine zm ?_; refine Q1 rfl ?_; refine zv hS ?_; refine zR2 (c := rTo_c (s := s) hsf (hy (by omega)) hfb hh hj hT1 hls hS.p3) (h := ?_); rintro v6 w1 ⟨rfl, hS⟩; refine zm ?_; refine zn ?_; refine Q0 ?_; refine Q2 ?_; refine zm ?_)
            all_goals (first | (refine QQ ?_) | (refine QR ?_) | (refine Qm rfl rfl (fun hc => ?_) (fun hc => ?_)))
            all_goals (refine zn ?_)
            all_goals
              first
              | (refine Q3 rfl ?_ -- Q13 c4
                 all_goals (refine Q0 ?_; refine Q2 ?_; refine zm ?_; refine zm ?_; refine zn ?_; have hJ : jEnd j.f s e = QM (jto j.f s e.yes) := (by rw [hE, QhU (by omega), Q9 g1, Qu (Qgx (by omega))]; rfl); refine zr ?_; refine zf ?_)
                 all_goals (exact ⟨_, rfl, (by rw [hJ]), hS.sp⟩))
              | (refine Q4 rfl ?_ -- Q13 c4
                 all_goals refine zsk ?_)
            all_goals (refine Q0 ?_; refine Q2 ?_; refine zm ?_; refine Q1 rfl ?_; refine zv hS ?_; refine zR2 (c := rTo_c (s := s) hsf (hz (by omega)) hfb hh hj hT2 hls hS.p3) (h := ?_); rintro v6 w1 ⟨rfl, hS⟩; refine zm ?_; refine zn ?_; have hJ : jEnd j.f s e = QM (jto j.f s e.no) := (by rw [hE, QhU (by omega), Q9 g1, Q9 (Qph (jto_nz _ _ _) (by omega))]); refine zr ?_; refine zf ?_)
            all_goals (exact ⟨_, rfl, (by rw [hJ]), hS.sp⟩))
         | (refine Q4 rfl ?_ -- Q13 c2
            all_goals refine zsk ?_))
  all_goals (refine Q0 ?_; refine Q2 ?_; refine zm ?_; refine zn ?_; refine Q0 ?_; refine Q0 ?_; refine Q2 ?_; refine zm ?_; refine zn ?_; refine Qa ?_; have hS := St.nil (T := 3) (es := 1) hS)
  refine zo [0, 3] (fun A ρ' w' => ∃ (q : Nat) (vo : Value) (co : List (List Value)), Has ρ' A ∧ Has ρ' [(9, .int .i64 q), (8, vo)] ∧ (q ≤ j.f.regs.toNat) ∧ (intR.ls cx co (upTo q)) ∧ ((upTo q).length = q) ∧ (e.op = 3) ∧ St cx w' (sl 3 1 vo co :: blk p3 45 [.int .i64 e.op, .int .i64 e.a, .int .i64 e.yes.block, v1, v2, .int .i64 e.no.block, v3, v4, v5] :: blk j.sp 63 (j.kcells vl) :: Q7p j.hp s.h :: sl 112 3 vl css :: L)) (fun ρ' _ => (j.f.regs - iv (ρ' 9)).toNat) ?_ ?_
  · exact ⟨0, _, [], zh, zh, (by omega), by unfold upTo; exact Rep.LR.nil _ _ _, by unfold upTo; rfl, by omega, hS.sp⟩
  rintro ρ w1 ⟨q, vo, co, hA, hρ, hq, hlo, hlq, ho3, hS⟩; obtain ⟨ρ, rfl⟩ := env2 hA hρ
  unfold Q6s
  all_goals (refine Q0 ?_; refine Q0 ?_; refine Q2 ?_; refine zm ?_; refine zm ?_; refine Qk rfl ?_; refine Q1 rfl ?_; (first | refine Q1 rfl ?_ | refine Q12 rfl ?_); refine zl hS ?_; refine Qr rfl rfl ?_; refine zn ?_)
  refine Qn rfl (fun hc => ?_) (fun hc => ?_)
  · skip
    all_goals (refine zsk ?_; refine Q0 ?_; refine Qa ?_; refine Q2 ?_; refine zm ?_; refine zm ?_; refine zB1 hS [_] ?_; intro b1 w1 hS; refine za Q7D Qoj hS ?_; intro vp1 w1 css1 hls1 hv1 hS; have hS := hS.ns; refine zm ?_; refine zn ?_; refine Q2 ?_; refine zm ?_; refine zad ?_; refine zm ?_; refine zn ?_; exact ⟨⟨q + 1, _, _, zh, zh, (by omega), by rw [Qv3]; exact hls1, by rw [Qv3, List.length_append, hlq]; rfl, ho3, hS.sp⟩, Qo (by omega)⟩)
  · skip
    all_goals (refine zex ?_; have hq' : q = j.f.regs.toNat := (by omega); rw [hq'] at hlo; obtain ⟨c1, hle2, hS, hk1⟩ := St.freezeL (r := intR) hS hlo rfl (by rw [← hq']; omega); have hls' := hls.up hle2; have h5' := h5.up hle2; have hjr' := hjr.up hle2; refine Q0 ?_; refine Q0 ?_; refine zD [(0, none), (1, none), (2, none), (3, none), (4, none), (5, none), (6, none), (7, none), (8, none), (9, some none), (10, some none)] ?_; have hS := hS.drew; refine zm ?_; refine Q1 rfl ?_; refine zl hS ?_; refine zm ?_; refine Qk rfl ?_; refine Q1 rfl ?_; (first | refine Q1 rfl ?_ | refine Q12 rfl ?_); refine zl hS ?_; refine zm ?_; refine zR4 (c := QtC (s := s) hsf.2.1.2 hls' h5' hjr' hk1 hS.p3) (h := ?_); rintro v6 w1 ⟨rfl, hS⟩; refine zm ?_; refine zn ?_; refine Q0 ?_; refine Q2 ?_; refine zm ?_)
    all_goals (first | (refine QQ ?_) | (refine QR ?_) | (refine Qm rfl rfl (fun hc => ?_) (fun hc => ?_)))
    all_goals (refine zn ?_)
    all_goals
      first
      | (refine Q3 rfl ?_ -- Q13 c6
         all_goals (refine Q0 ?_; refine Q2 ?_; refine zm ?_; refine zm ?_; refine zn ?_; have hJ : jEnd j.f s e = QM (Q6c s e.args j.f.results (upTo j.f.regs.toNat)) := (by rw [hE, Qo3 ho3, Qu (Qgx (by omega))]; rfl); refine zr ?_; refine zf ?_)
         all_goals (first | (exact ⟨_, rfl, (by rw [hJ]), hS.sp⟩) | (exact ⟨_, rfl, (by rw [hJ]), St.weak hS.sp hle2⟩)))
      | (refine Q4 rfl ?_ -- Q13 c6
         all_goals refine zsk ?_)
    all_goals (refine Q0 ?_; have har := Qph (Qar s e.args j.f.results (upTo j.f.regs.toNat)) (by omega); refine Q2 ?_; refine zm ?_; refine Qk rfl ?_; refine Q1 rfl ?_; refine zl hS ?_; refine zR1 (c := rlist_h (h := s.h) hh hS fd) (h := ?_); rintro v1 w1 ⟨c2, hle3, hk2, hS⟩; have hl2 := hk2.len; refine zm ?_; refine zn ?_; refine Q0 ?_; refine Q0 ?_; refine Q2 ?_; refine zm ?_; refine zn ?_; refine Qa ?_)
    refine zoL hS [0, 11] (fun A LL ρ' w' => ∃ (q : Nat), Has ρ' A ∧ Has ρ' [(12, .int .i64 q)] ∧ (q ≤ (Q21 s.h).length) ∧ (∀ r ∈ (Q21 s.h).take q, r < j.f.regs) ∧ St c2 w' (LL)) (fun ρ' _ => ((Q21 s.h).length - iv (ρ' 12)).toNat) ?_ ?_
    · exact ⟨0, zh, zh, (by omega), by simp, hS.sp⟩
    rintro ρ w1 ⟨q, hA, hρ, hq, hall, hS⟩; obtain ⟨ρ, rfl⟩ := env2 hA hρ
    unfold Q6r
    all_goals (refine Q0 ?_; refine Q0 ?_; refine Q2 ?_; refine zm ?_; refine zm ?_; refine zL ?_; refine Qr rfl rfl ?_; refine zn ?_)
    refine Qn rfl (fun hc => ?_) (fun hc => ?_)
    · skip
      all_goals (refine zsk ?_; refine Q0 ?_; refine Qa ?_; refine Q0 ?_; refine zD [(0, none), (1, none), (2, none), (3, none), (4, none), (5, none), (6, none), (7, none), (8, none), (9, some none)] ?_; have hS := hS.drew; refine zm ?_; refine zm ?_; refine zi ?_; intro b1 o1 cs1 x1 hat1 hx1 he1; obtain rfl := QJ he1; (first | (refine zl hS ?_) | (refine zlk hS ?_)); refine zm ?_; refine Qk rfl ?_; refine Q1 rfl ?_; (first | refine Q1 rfl ?_ | refine Q12 rfl ?_); refine zl hS ?_)
      all_goals (first | (refine Q3t ?_) | (refine Q3u ?_) | (refine Q1F rfl rfl (fun hc => ?_) (fun hc => ?_)))
      all_goals (refine zn ?_)
      all_goals
        first
        | (refine Q3 rfl ?_ -- Q13 c8
           all_goals (refine Q0 ?_; refine Q2 ?_; refine zm ?_; refine zn ?_; have hJ : jEnd j.f s e = 12 := (by rw [hE, Qo3 ho3, Q9 har, if_pos ((Qvl hg hf0).2 ⟨x1, List.mem_of_getElem? hx1, by omega⟩)]; rfl); refine zr ?_; refine zf ?_)
           all_goals (first | (exact ⟨_, rfl, (by rw [hJ]), hS.sp⟩) | (exact ⟨_, rfl, (by rw [hJ]), St.weak hS.sp hle2⟩) | (exact ⟨_, rfl, (by rw [hJ]), St.weak hS.sp (hle2.trans hle3)⟩)))
        | (refine Q4 rfl ?_ -- Q13 c8
           all_goals refine zsk ?_)
      all_goals (refine Q2 ?_; refine zm ?_; refine zad ?_; refine zm ?_; refine zn ?_; exact ⟨⟨q + 1, zh, zh, (by omega), Q5u hall hx1 (by omega), hS.sp⟩, Qo (by omega)⟩)
    · skip
      all_goals (refine zex ?_; refine Q0 ?_; refine Q2 ?_; refine zm ?_; refine zn ?_)
      all_goals (have hJ : jEnd j.f s e = 0 := (by rw [hE, Qo3 ho3, Q9 har, if_neg (fun h => by obtain ⟨r, hr, h2⟩ := (Qvl hg hf0).1 h; have := hall r (by rw [List.take_of_length_le (by omega)]; exact hr); omega)]; rfl))
      all_goals (refine zr ?_; refine zf ?_; (first | (exact ⟨_, rfl, (by rw [hJ]), hS.sp⟩) | (exact ⟨_, rfl, (by rw [hJ]), St.weak hS.sp hle2⟩) | (exact ⟨_, rfl, (by rw [hJ]), St.weak hS.sp (hle2.trans hle3)⟩)))
theorem QwV {l : List Ty} (hlen : l.length ≤ 100000) (hs : ∀ x ∈ l, x.Short) {cx : Cx} {w : World} {L : List Res} {v : Value} (hl : tyR.sl cx v l) (hS : St cx w L) : Rets Tryz.prog Q6M [v] w fun u w' => ∃ c' css, cx.Le c' ∧ oneC u = true ∧ tyR.ls c' css l ∧ St c' w' (sl 112 3 u css :: L) := by
  all_goals refine Qb9 ?_
  all_goals (unfold R_OwnTypes_lc; refine Q0 ?_; refine Q2 ?_; refine zm ?_; refine zn ?_; refine Q0 ?_; refine Q2 ?_; refine zm ?_; refine zn ?_; refine Q0 ?_; refine Q0 ?_; refine Q2 ?_; refine zm ?_; refine zn ?_; refine Qa ?_)
  refine zoL hS [0] (fun A LL ρ' w' => ∃ (c1 : Cx) (j : Nat) (u : Value) (css : List (List Value)), Has ρ' A ∧ Has ρ' [(3, u), (4, .int .i64 j)] ∧ (cx.Le c1) ∧ (j ≤ l.length) ∧ (tyR.ls c1 css (l.take j)) ∧ (oneC u = true) ∧ St c1 w' (sl 112 3 u css :: LL)) (fun ρ' _ => (l.length - iv (ρ' 4)).toNat) ?_ ?_
  · exact ⟨cx, 0, .slice none 0 0, [], zh, zh, St.refl hS, (by omega), Rep.LR.nil _ _ _, rfl, by have hS := hS.nil (T := 112) (es := 3); exact hS⟩
  rintro ρ w1 ⟨c1, j, u, css, hA, hρ, hle, hj, hls, hu, hS⟩; obtain ⟨ρ, rfl⟩ := env2 hA hρ; have hl := Rep.SR.up hl hle
  unfold Q5w
  all_goals (refine Q0 ?_; refine Q0 ?_; refine Q2 ?_; refine zm ?_; refine zm ?_; refine zL ?_; refine Qr rfl rfl ?_; refine zn ?_)
  refine Qn rfl (fun hc => ?_) (fun hc => ?_)
  · skip
    all_goals (refine zsk ?_; refine Q0 ?_; refine Qa ?_; refine Q2 ?_; refine zm ?_; refine zm ?_; refine zm ?_; refine zi ?_; intro b1 o1 cs1 x1 hat1 hx1 he1; obtain ⟨vl1, rfl, hl1⟩ := Qi he1; (first | (refine zv hS ?_) | (refine zvk hS ?_)); refine zR1 (c := rown_c x1 (hs x1 (List.mem_of_getElem? hx1)) he1 hS) (h := ?_); rintro v1 w1 ⟨c2, ds, rfl, hle2, hd, hS⟩; obtain ⟨v2, rfl, hv2⟩ := Qi hd; have hls := Rep.LR.up hls hle2; refine zB1 hS [_, _, _] ?_; intro b1 w1 hS; refine za Q3s Q6O hS ?_; intro vp1 w1 css1 hls1 hv1 hS; have hS := hS.ns; refine zm ?_; refine zn ?_; refine Q2 ?_; refine zm ?_; refine zad ?_; refine zm ?_; refine zn ?_; exact ⟨⟨c2, j + 1, _, _, zh, zh, hle.trans hle2, (by omega), by rw [Q1m hx1]; assumption, by assumption, hS.sp⟩, Qo (by omega)⟩)
  · skip
    all_goals (refine zex ?_; refine Q0 ?_; refine Q2 ?_; refine zm ?_; refine zm ?_; refine zn ?_; refine zr ?_; refine zf ?_; rw [List.take_of_length_le (by omega)] at hls; exact ⟨_, rfl, c1, css, hle, hu, hls, hS.sp⟩)
theorem rKAt_c {f b : Int} {fn : Fun} {y : Block} {cs : List Value} (hm : m.Short) (hf : 0 ≤ f) (hb : 0 ≤ b) (hfn : m.funcs[f.toNat]? = some fn) (hy : fn.blocks[b.toNat]? = some y) (hx : modR.at cx cs m) (hS : St cx w L) :
    Rets Tryz.prog QsQ [.agg ⟨cs⟩, .int .i64 f, .int .i64 b] w fun u w' => ∃ (j : JP) (c' : Cx) (vl : Value) (css : List (List Value)), u = .pointer (some ⟨j.sp, 0, none⟩) ∧ cx.Le c' ∧ j.Fits c' m ∧ j.f = fn ∧ tyR.ls c' css y.params ∧ St c' w' (KLf j (Q2n y) vl css L) := by
  obtain ⟨vf, rfl, hf1⟩ := Q1U hx
  have hff := (List.getElem?_eq_some_iff.1 hfn).1
  have hbb := (List.getElem?_eq_some_iff.1 hy).1
  have hsf := hm.2 fn (List.mem_of_getElem? hfn)
  have hle := St.refl hS
  all_goals refine QsO ?_
  all_goals (unfold R_KnownAt_lc; refine Q0 ?_; refine Q2 ?_; refine zb hS ?_; intro p3 w1 hS; refine zm ?_; refine zn ?_; refine Q0 ?_; refine Q2 ?_; refine Q1 rfl ?_; refine zl hS ?_; refine zm ?_; refine QnX vw rfl hf1 rfl (by omega) (by omega) ?_; intro b1 o1 cs1 x1 hat1 hx1 he1; obtain ⟨vp1, vr1, vb1, rfl, hp1, hr1, hb1⟩ := QO he1; obtain rfl : fn = x1 := Option.some.inj (hfn.symm.trans hx1); (first | refine Q1 rfl ?_ | refine Q12 rfl ?_); (first | (refine zl hS ?_) | (refine zlk hS ?_) | (refine zlj hS ?_)); refine zm ?_; refine QnX vw rfl hb1 rfl (by omega) (by omega) ?_; intro b2 o2 cs2 x2 hat2 hx2 he2; obtain ⟨vp2, vc2, ve21, ve22, ve23, ve24, ve25, rfl, hp2, hc2, he21, he22, he23, he24, he25⟩ := Q1c he2; obtain rfl : y = x2 := Option.some.inj (hy.symm.trans hx2); (first | (refine zv hS ?_) | (refine zvk hS ?_)); refine Qb hS ?_; intro p7 w1 hS; refine zsn hS ?_; intro w1 hS; have hS := hS.ns; refine zn ?_; refine Q0 ?_; refine zC [(0, none), (1, none), (2, none), (3, none), (4, none), (5, none), (6, none), (7, none), (9, none), (10, none), (8, some (some [0, 2, 5, 10])), (11, some (some [0, 2, 5])), (12, none), (13, some none), (14, some none)] ?_; have hS := hS.drew; refine s_cq ?_; refine zv hS ?_)
  all_goals (refine zt ?_; refine s_cq ?_; refine Q1 rfl ?_; refine zt ?_; refine s_cq ?_; refine zl hS ?_; refine zt ?_; refine s_cq ?_; refine zm ?_; refine zt ?_; refine s_cq ?_; refine QnX vw rfl hf1 rfl (by omega) (by omega) ?_; intro b3 o3 cs3 x3 hat3 hx3 he3; obtain ⟨vp3, vr3, vb3, rfl, hp3, hr3, hb3⟩ := QO he3; obtain rfl : fn = x3 := Option.some.inj (hfn.symm.trans hx3); refine zt ?_; refine s_cq ?_; (first | (refine zv hS ?_) | (refine zvk hS ?_)); refine zt ?_; refine s_cq ?_; refine Q1 rfl ?_; refine zt ?_; refine s_cq ?_; refine zl hS ?_; refine zt ?_; refine s_cq ?_; refine Q1 rfl ?_; refine zt ?_; refine s_cq ?_; refine zl hS ?_; refine zt ?_; refine QE ?_; refine zR1 (c := rnew_u hS) (h := ?_); rintro v1 w1 ⟨hp, vh, rfl, hS⟩; refine zt ?_; refine zy ?_; refine QE ?_; refine zR1 (c := QwV (hsf.2.2.2 y (List.mem_of_getElem? hy)).1.1 (hsf.2.2.2 y (List.mem_of_getElem? hy)).1.2 hp2 hS) (h := ?_); rintro v1 w1 ⟨c2, css2, hle2, hv1, hls2, hS⟩; have hat3 := hat3.up hle2; obtain ⟨av, nv, rfl⟩ := hS.shape nth0; refine zt ?_; refine zy ?_; refine s_cq ?_; refine zb4 [_, _, _, _, _, _, _] ?_; refine zt ?_; refine s_cf ?_; refine zb hS ?_; intro p30 w1 hS; refine zt ?_)
  all_goals (refine s_cf ?_; refine zm ?_; refine zt ?_; refine zcn ?_; have hS := Q3r (hp := hp) (h := (Q2n y).h) (v := vh) (L := blk p30 63 (JP.kcells ⟨p30, hp, fn, vf, vp3, vr3, vb3⟩ (.slice av css2.length nv)) :: sl 112 3 (.slice av css2.length nv) css2 :: L) hS.sp; refine zr ?_; refine zf ?_; exact ⟨_, rfl, ⟨p30, hp, fn, vf, vp3, vr3, vb3⟩, c2, _, css2, rfl, hle2, ⟨hf1.up hle2, hp3.up hle2, hr3.up hle2, hb3.up hle2⟩, rfl, hls2, hS.sp⟩)
end Go.Proofs.YtanlkfeogoganaaGreat
namespace Go.Proofs.YtanlkfeogoganaaGreat
open Go.Lir
set_option maxHeartbeats 1000000
attribute [local irreducible] LC.wp Q5 Q11 Q1f retQ Q2h LO.wp QD Calls
set_option linter.unusedSimpArgs false
set_option linter.unusedVariables false
attribute [local irreducible] hasB Q21 Q1N Q1Q Q3S upTo Q1b Q24 rmk jIns jEnd Module.fault Q7v Qb2
variable {cx : Cx} {w : World} {L : List Res} {j : JP} {h : List Bool} {vl : Value} {css : List (List Value)} {i : Nat} {m : Module}
theorem rRun_c {cs : List Value} (hm : m.Short) (hx : modR.at cx cs m) (hS : St cx w L) :
    Rets Tryz.prog Q2V [.agg ⟨cs⟩] w fun u w' => u = fltV m.runs ∧ St cx w' L := by
  have hx' := hx
  obtain ⟨vf, rfl, hf1⟩ := Q1U hx
  have hle := St.refl hS
  have hlf := hf1.len
  all_goals refine Qq4 ?_
  all_goals (unfold R_RunFault_lc; refine Q0 ?_; refine Q2 ?_; refine zb hS ?_; intro p1 w1 hS; refine Qb hS ?_; intro p2 w1 hS; refine zn ?_; refine Q0 ?_; refine Q0 ?_; refine Q2 ?_; refine zv hS ?_; refine zR1 (c := rcheck_c hm hx' hS) (h := ?_); rintro v1 w1 ⟨rfl, hS⟩; unfold fltV; refine Qb hS ?_; intro p3 w1 hS; refine zsn hS ?_; intro w1 hS; have hS := hS.ns; refine zn ?_; refine Q0 ?_; refine Q2 ?_; refine Q1 rfl ?_; refine zl hS ?_)
  all_goals (first | (refine QQ ?_) | (refine QR ?_) | (refine Qm rfl rfl (fun hc => ?_) (fun hc => ?_)))
  all_goals (refine zn ?_)
  all_goals
    first
    | (refine Q4 rfl ?_ -- Q2V c0
       all_goals refine zsk ?_)
    | (refine Q3 rfl ?_ -- Q2V c0
       all_goals (refine Q0 ?_; refine Q2 ?_; refine zv hS ?_; refine zsn hS ?_; intro w1 hS; have hS := hS.ns; refine zn ?_; have hJ := QwQ (m := m) (by omega); refine zr ?_; refine Q1e vw (Qc (n := 2) (by kernel_rfl) (by kernel_rfl) (hS.blkAt fd) (by rfl) (by rfl)) ?_)
       all_goals (exact ⟨_, rfl, by rw [hJ]; rfl, St.weak hS.sp hle⟩))
  all_goals (refine Q0 ?_; refine Q0 ?_; have hF : m.fault.1 = 0 := (by omega); have hr0 := QwR hF; have hlf8 := hm.1; refine Q2 ?_; refine zm ?_; refine zn ?_; refine Qa ?_)
  refine zo [1, 2] (fun A ρ' w' => ∃ (k0 : Cx) (q : Nat), Has ρ' A ∧ Has ρ' [(4, .int .i64 q)] ∧ (cx.Le k0) ∧ (q ≤ m.funcs.length) ∧ (m.runs = Q2b m q (m.funcs.drop q)) ∧ St k0 w' (blk p3 30 [.int .i64 m.fault.1, .int .i64 m.fault.2] :: blk p2 30 [.int .i64 0, .int .i64 0] :: blk p1 24 [vf] :: L)) (fun ρ' _ => (m.funcs.length - iv (ρ' 4)).toNat) ?_ ?_
  · exact ⟨cx, 0, zh, zh, St.refl hS, (by omega), by rw [hr0]; rfl, hS.sp⟩
  rintro ρ w1 ⟨k0, q, hA, hρ, hle2, hq, hd, hS⟩; obtain ⟨ρ, rfl⟩ := env2 hA hρ; have hL0 := hle2; (try have hle := hle.trans hle2); (try have hf1 := hf1.up hle2)
  unfold Qb8
  all_goals (refine Q0 ?_; refine Q0 ?_; refine Q2 ?_; refine zm ?_; refine Q1 rfl ?_; refine zl hS ?_; refine zL ?_; refine Qr rfl rfl ?_; refine zn ?_)
  refine Qn rfl (fun hc => ?_) (fun hc => ?_)
  · skip
    all_goals (refine zsk ?_; refine Q0 ?_; refine Qa ?_; refine Q0 ?_)
    all_goals (obtain ⟨fn, hfn⟩ : ∃ fn, m.funcs[q]? = some fn := ⟨_, List.getElem?_eq_getElem (by omega)⟩; have hsf := hm.2 fn (List.mem_of_getElem? hfn); have hfb := mod_fb hF hfn; have hfh := Q5q (QaD hF hfn))
    all_goals (refine Q2 ?_; refine zm ?_; refine zn ?_; refine Qa ?_)
    refine zo [1, 2, 4] (fun A ρ' w' => ∃ (k1 : Cx) (b : Nat), Has ρ' A ∧ Has ρ' [(5, .int .i64 b)] ∧ (k0.Le k1) ∧ (b ≤ fn.blocks.length) ∧ (QK m fn q 0 fn.blocks = QK m fn q b (fn.blocks.drop b)) ∧ St k1 w' (blk p3 30 [.int .i64 m.fault.1, .int .i64 m.fault.2] :: blk p2 30 [.int .i64 0, .int .i64 0] :: blk p1 24 [vf] :: L)) (fun ρ' _ => (fn.blocks.length - iv (ρ' 5)).toNat) ?_ ?_
    · exact ⟨k0, 0, zh, zh, St.refl hS, (by omega), by rfl, hS.sp⟩
    rintro ρ w1 ⟨k1, b, hA, hρ, hle2, hb, hdb, hS⟩; obtain ⟨ρ, rfl⟩ := env2 hA hρ; have hL1 := hle2; (try have hle := hle.trans hle2); (try have hL0 := hL0.trans hle2); (try have hf1 := hf1.up hle2)
    unfold Qb7
    all_goals (refine Q0 ?_; refine Q0 ?_; refine Q2 ?_; refine zm ?_; refine Q1 rfl ?_; refine zl hS ?_; refine zm ?_; refine zi ?_; intro b1 o1 cs1 x1 hat1 hx1 he1; obtain ⟨vp1, vr1, vb1, rfl, hp1, hr1, hb1⟩ := QO he1; (first | refine Q1 rfl ?_ | refine Q12 rfl ?_); (first | (refine zl hS ?_) | (refine zlk hS ?_) | (refine zlj hS ?_)); refine zL ?_; refine Qr rfl rfl ?_; refine zn ?_; obtain rfl : fn = x1 := Option.some.inj (hfn.symm.trans hx1))
    refine Qn rfl (fun hc => ?_) (fun hc => ?_)
    · skip
      all_goals (refine zsk ?_; refine Q0 ?_; refine Qa ?_; refine Q0 ?_; obtain ⟨y, hy⟩ : ∃ y, fn.blocks[b]? = some y := ⟨_, List.getElem?_eq_getElem (by omega)⟩; have hsy := hsf.2.2.2 y (List.mem_of_getElem? hy); refine Q2 ?_; refine zv hS ?_; refine zm ?_; refine zm ?_)
      all_goals (refine zR3 (c := rKAt_c (f := q) (b := b) hm (by omega) (by omega) (by simpa using hfn) (by simpa using hy) ⟨_, rfl, hf1⟩ hS) (h := ?_); rintro v1 w1 ⟨j, c2, vl, css, rfl, hle2, hj, hjf, hls, hS⟩; (try have hle := hle.trans hle2); (try have hL0 := hL0.trans hle2); (try have hL1 := hL1.trans hle2); (try have hp1 := hp1.up hle2); (try have hr1 := hr1.up hle2); (try have hb1 := hb1.up hle2); (try have he1 := he1.up hle2); (try have hf1 := hf1.up hle2); subst hjf)
      all_goals (refine zm ?_; refine zn ?_; refine Q0 ?_; refine Q2 ?_; refine Q1 rfl ?_; refine zl hS ?_; refine zm ?_; refine zi ?_; intro b2 o2 cs2 x2 hat2 hx2 he2; obtain ⟨vp2, vr2, vb2, rfl, hp2, hr2, hb2⟩ := QO he2; (first | refine Q1 rfl ?_ | refine Q12 rfl ?_); (first | (refine zl hS ?_) | (refine zlk hS ?_) | (refine zlj hS ?_)); obtain rfl : j.f = x2 := Option.some.inj (hfn.symm.trans hx2); refine zm ?_; refine zi ?_; intro b3 o3 cs3 x3 hat3 hx3 he3; obtain ⟨vp3, vc3, ve31, ve32, ve33, ve34, ve35, rfl, hp3, hc3, he31, he32, he33, he34, he35⟩ := Q1c he3; (first | (refine zv hS ?_) | (refine zvk hS ?_)); refine Qb hS ?_; intro p7 w1 hS; refine zsn hS ?_; intro w1 hS; have hS := hS.ns; refine zn ?_; obtain rfl : y = x3 := Option.some.inj (hy.symm.trans hx3); refine Q0 ?_; refine Q0 ?_; have hg0 := QvW hm hF hfn hy; have hlc := hsy.2.1; refine Q2 ?_; refine zm ?_; refine zn ?_; refine Qa ?_)
      refine zo [1, 2, 4, 5, 6, 7] (fun A ρ' w' => ∃ (k2 : Cx) (i : Nat) (s : JS) (vl : Value) (css : List (List Value)), Has ρ' A ∧ Has ρ' [(8, .int .i64 i)] ∧ (c2.Le k2) ∧ (i ≤ y.code.length) ∧ (Q1d m j.f q b y.fin 0 (Q2n y) y.code = Q1d m j.f q b y.fin i s (y.code.drop i)) ∧ (j.Fits k2 m) ∧ (tyR.ls k2 css s.l) ∧ (JInv m j.f s) ∧ St k2 w' (blk p7 79 [.int .i64 y.regs, vp3, vc3, .int .i64 y.fin.op, .int .i64 y.fin.a, .int .i64 y.fin.yes.block, ve31, ve32, .int .i64 y.fin.no.block, ve33, ve34, ve35] :: blk j.sp 63 (j.kcells vl) :: Q7p j.hp s.h :: sl 112 3 vl css :: blk p3 30 [.int .i64 m.fault.1, .int .i64 m.fault.2] :: blk p2 30 [.int .i64 0, .int .i64 0] :: blk p1 24 [vf] :: L)) (fun ρ' _ => (y.code.length - iv (ρ' 8)).toNat) ?_ ?_
      · exact ⟨c2, 0, Q2n y, vl, css, zh, zh, St.refl hS, (by omega), by rfl, hj, hls, hg0, hS.sp⟩
      rintro ρ w1 ⟨k2, i, s, vl, css, hA, hρ, hle2, hi, hdi, hj, hls, hg, hS⟩; obtain ⟨ρ, rfl⟩ := env2 hA hρ; have hL2 := hle2; (try have hle := hle.trans hle2); (try have hL0 := hL0.trans hle2); (try have hL1 := hL1.trans hle2); (try have hp1 := hp1.up hle2); (try have hr1 := hr1.up hle2); (try have hb1 := hb1.up hle2); (try have hp2 := hp2.up hle2); (try have hr2 := hr2.up hle2); (try have hb2 := hb2.up hle2); (try have hp3 := hp3.up hle2); (try have hc3 := hc3.up hle2); (try have he31 := he31.up hle2); (try have he32 := he32.up hle2); (try have he33 := he33.up hle2); (try have he34 := he34.up hle2); (try have he35 := he35.up hle2); (try have he1 := he1.up hle2); (try have he2 := he2.up hle2); (try have he3 := he3.up hle2); (try have hf1 := hf1.up hle2)
      unfold Q7I
      all_goals (refine Q0 ?_; refine Q0 ?_; refine Q2 ?_; refine zm ?_; refine Q1 rfl ?_; refine zl hS ?_; refine zL ?_; refine Qr rfl rfl ?_; refine zn ?_)
      refine Qn rfl (fun hc => ?_) (fun hc => ?_)
      · skip
        all_goals (refine zsk ?_; refine Q0 ?_; refine Qa ?_; refine Q0 ?_; refine Q2 ?_; refine zm ?_; refine Q1 rfl ?_; refine zl hS ?_; refine zm ?_; refine zi ?_; intro b4 o4 cs4 x4 hat4 hx4 he4; obtain ⟨vr4, va4, rfl, hr4, ha4⟩ := Q1h he4; (first | (refine zv hS ?_) | (refine zvk hS ?_)))
        all_goals (refine zR2 (c := rIns_c (s := s) (x := x4) hm hg hj he4 hls hS.p3) (h := ?_); rintro v1 w1 ⟨c4, vl4, css4, hle2, rfl, hls4, hS⟩; (try have hle := hle.trans hle2); (try have hL0 := hL0.trans hle2); (try have hL1 := hL1.trans hle2); (try have hL2 := hL2.trans hle2); (try have hp1 := hp1.up hle2); (try have hr1 := hr1.up hle2); (try have hb1 := hb1.up hle2); (try have hp2 := hp2.up hle2); (try have hr2 := hr2.up hle2); (try have hb2 := hb2.up hle2); (try have hp3 := hp3.up hle2); (try have hc3 := hc3.up hle2); (try have he31 := he31.up hle2); (try have he32 := he32.up hle2); (try have he33 := he33.up hle2); (try have he34 := he34.up hle2); (try have he35 := he35.up hle2); (try have hr4 := hr4.up hle2); (try have ha4 := ha4.up hle2); (try have he1 := he1.up hle2); (try have he2 := he2.up hle2); (try have he3 := he3.up hle2); (try have he4 := he4.up hle2); (try have hls := hls.up hle2); (try have hf1 := hf1.up hle2); have hj := hj.up hle2; have hg1 := jIns_inv (x := x4) hF hm hg; obtain ⟨s1, hs1⟩ : ∃ s1, (jIns m j.f s x4).2 = s1 := ⟨_, rfl⟩; rw [hs1] at hls4 hS hg1)
        all_goals (refine zm ?_; refine zn ?_; refine Q0 ?_; refine Q2 ?_; refine zm ?_)
        all_goals (first | (refine QQ ?_) | (refine QR ?_) | (refine Qm rfl rfl (fun hc => ?_) (fun hc => ?_)))
        all_goals (refine zn ?_)
        all_goals
          first
          | (refine Q3 rfl ?_ -- Q2V c4
             all_goals (refine Q0 ?_; refine Q2 ?_; refine zm ?_; refine zm ?_; refine zm ?_; refine zm ?_; refine zR3 (c := Qvd q b i (by omega) (by omega) (by omega) hS) (h := ?_); rintro v1 w1 ⟨rfl, hS⟩; refine zR2 (c := rF_c hS) (h := ?_); rintro v1 w1 ⟨rfl, hS⟩; refine zsn hS ?_; intro w1 hS; have hS := hS.ns; refine zn ?_; have hJ := Qtx hd hfn hdb hy (by rw [hdi, Q7 hx4, Qb0 (by omega)]) (by omega); refine zr ?_; refine Q1e vw (Qc (n := 2) (by kernel_rfl) (by kernel_rfl) (hS.blkAt fd) (by rfl) (by rfl)) ?_)
             all_goals (exact ⟨_, rfl, by rw [hJ]; rfl, St.weak hS.sp hle⟩))
          | (refine Q4 rfl ?_ -- Q2V c4
             all_goals refine zsk ?_)
        all_goals (refine Q2 ?_; refine zm ?_; refine zad ?_; refine zm ?_; refine zn ?_; exact ⟨⟨_, i + 1, s1, vl4, css4, zh, zh, hL2, (by omega), by rw [hdi, Q7 hx4, Qb1 (by omega), hs1], hj, hls4, hg1, hS.sp⟩, Qo (by omega)⟩)
      · skip
        all_goals (refine zex ?_; refine Q0 ?_; refine Q2 ?_; refine zm ?_; refine Q1 rfl ?_; refine zv hS ?_; refine zR2 (c := rEnd_c (s := s) (e := y.fin) hsf hfb hfh.1 (by omega) hg hj ⟨_, _, _, _, _, rfl, he31, he32, he33, he34, he35⟩ hls hS.p3) (h := ?_); rintro v1 w1 ⟨rfl, hS⟩; have hde := QeE (m := m) (f := j.f) (fi := q) (bi := b) (e := y.fin) (s := s) (i := i) (l := y.code) (by omega); refine zm ?_; refine zn ?_; refine Q0 ?_; refine Q2 ?_; refine zm ?_)
        all_goals (first | (refine QQ ?_) | (refine QR ?_) | (refine Qm rfl rfl (fun hc => ?_) (fun hc => ?_)))
        all_goals (refine zn ?_)
        all_goals
          first
          | (refine Q3 rfl ?_ -- Q2V c5
             all_goals (refine Q0 ?_; refine Q2 ?_; refine zm ?_; refine zm ?_; refine zm ?_; refine zR2 (c := Qve q b (by omega) (by omega) hS) (h := ?_); rintro v1 w1 ⟨rfl, hS⟩; refine zR2 (c := rF_c hS) (h := ?_); rintro v1 w1 ⟨rfl, hS⟩; refine zsn hS ?_; intro w1 hS; have hS := hS.ns; refine zn ?_; have hJ := Qtx hd hfn hdb hy (hdi.trans (hde.trans (Q6P (by omega)))) (by omega); refine zr ?_; refine Q1e vw (Qc (n := 2) (by kernel_rfl) (by kernel_rfl) (hS.blkAt fd) (by rfl) (by rfl)) ?_)
             all_goals (exact ⟨_, rfl, by rw [hJ]; rfl, St.weak hS.sp hle⟩))
          | (refine Q4 rfl ?_ -- Q2V c5
             all_goals refine zsk ?_)
        all_goals (refine Q2 ?_; refine zm ?_; refine zad ?_; refine zm ?_; refine zn ?_; exact ⟨⟨_, b + 1, zh, zh, hL1, (by omega), runs_b hdb hy (by rw [hdi, hde, Q2a]; omega), hS.sp⟩, Qo (by omega)⟩)
    · skip
      all_goals (refine zex ?_; refine Q2 ?_; refine zm ?_; refine zad ?_; refine zm ?_; refine zn ?_; exact ⟨⟨_, q + 1, zh, zh, hL0, (by omega), runs_f hd hfn hdb (by omega), hS.sp⟩, Qo (by omega)⟩)
  · skip
    all_goals (refine zex ?_; refine Q0 ?_; refine Q2 ?_; refine zb0 [_, _] ?_; refine zsn hS ?_; intro w1 hS; have hS := hS.ns; refine zn ?_; have hJ := runs_z hd (by omega); refine zr ?_; refine Q1e vw (Qc (n := 2) (by kernel_rfl) (by kernel_rfl) (hS.blkAt fd) (by rfl) (by rfl)) ?_; exact ⟨_, rfl, by rw [hJ]; rfl, St.weak hS.sp hle⟩)
end Go.Proofs.YtanlkfeogoganaaGreat
namespace Go.Proofs.YtanlkfeogoganaaGreat
open Go.Lir
set_option maxHeartbeats 1000000
attribute [local irreducible] LC.wp Q5 Q11 Q1f retQ Q2h LO.wp QD Calls
set_option linter.unusedSimpArgs false
set_option linter.unusedVariables false
attribute [local irreducible] Module.runs
variable {cx : Cx} {w : World} {L : List Res} {m : Module}
theorem Ql4 {cs : List Value} (hx : modR.at cx cs m) (hS : St cx w L) : Rets Tryz.prog Q1I [.agg ⟨cs⟩] w fun u w' => u = .bool true ∧ St cx w' L := by
  obtain ⟨vf, rfl, hf⟩ := Q1U hx
  obtain ⟨a0, n0, rfl⟩ := Rep.SR.shape hf
  all_goals refine Q9v ?_
  all_goals (unfold Law_VerifyChecks_lc; refine Q0 ?_; refine Q2 ?_; refine zb hS ?_; intro p1 w1 hS; refine zm ?_; refine zn ?_; refine Q0 ?_; refine Q0 ?_; refine Q2 ?_; refine zR0 (c := Qoh hS) (h := ?_); rintro v1 w1 ⟨rfl, hS⟩; refine Q1o rfl ?_; refine zn ?_)
  all_goals
    first
    | (refine Q3 rfl ?_ -- Q1I c0
       all_goals (refine Q0 ?_; refine Q2 ?_; refine zm ?_; refine zn ?_; refine zr ?_; refine zf ?_)
       all_goals (exact ⟨_, rfl, rfl, hS.sp⟩))
    | (refine Q4 rfl ?_ -- Q1I c0
       all_goals refine zsk ?_)
  all_goals (refine Q0 ?_; refine Q0 ?_; refine Q2 ?_; refine zv hS ?_)
  all_goals (refine zR1 (c := QvY hx hS) (h := ?_); rintro v1 w1 ⟨g1, rfl, hg1, hS⟩; cases g1)
  all_goals (refine zn ?_)
  all_goals
    first
    | (refine Q3 rfl ?_ -- Q1I c1
       all_goals (refine Q0 ?_; refine Q2 ?_; refine zm ?_; refine zn ?_; refine zr ?_; refine zf ?_)
       all_goals (exact ⟨_, rfl, rfl, hS.sp⟩))
    | (refine Q4 rfl ?_ -- Q1I c1
       all_goals refine zsk ?_)
  all_goals (refine Q0 ?_; have hm := hg1 rfl; refine Q2 ?_; refine zv hS ?_; refine zR1 (c := QwW hm hx hS) (h := ?_); rintro v1 w1 ⟨c1, ds, rfl, hle1, hm1, hS⟩; obtain ⟨v9, rfl, hf9⟩ := Q1U hm1; obtain ⟨a9, n9, rfl⟩ := Rep.SR.shape hf9; have hx := Rep.R.up hx hle1; refine Qb hS ?_; intro p3 w1 hS; refine zsn hS ?_; intro w1 hS; have hS := hS.ns; refine zn ?_; refine Q0 ?_; refine zC [(0, none), (2, none), (1, some (some [2])), (3, some none), (4, none), (5, none), (6, none), (7, none), (8, some none), (9, none), (10, some none)] ?_; have hS := hS.drew; refine s_cq ?_; refine zv hS ?_; refine zt ?_; refine s_cq ?_; refine zv hS ?_; refine zt ?_; refine QE ?_; refine zR1 (c := Qoi hm hm1 hS) (h := ?_); rintro v1 w1 ⟨rfl, hS⟩; refine zt ?_; refine zy ?_; refine s_cf ?_; refine zR1 (c := rRun_c hm hx hS) (h := ?_); rintro v1 w1 ⟨rfl, hS⟩; refine zt ?_; refine s_cq ?_; refine QwK Qvq rfl rfl ?_; refine zt ?_; refine s_cq ?_; refine zm ?_; refine zt ?_; refine s_cq ?_; (first | refine s_gn rfl rfl ?_ | (refine s_gy rfl ?_; refine zv hS ?_)); refine zt ?_; refine s_cq ?_; (first | refine s_gn rfl rfl ?_ | (refine s_gy rfl ?_; refine zv hS ?_)))
  all_goals (refine zt ?_; refine s_cf ?_; (first | (refine s_gn rfl rfl ?_) | (refine s_gy rfl ?_; refine zR2 (c := QvI hm1 hx hS) (h := ?_); rintro v1 w1 ⟨rfl, hS⟩; rw [decide_eq_true (rfl : m = m)])); refine zt ?_; refine s_cq ?_; refine zpt ?_; refine zt ?_; refine s_cf ?_; refine zm ?_; refine zt ?_; refine zcn ?_; refine zr ?_; refine zf ?_; (first | (exact ⟨_, rfl, rfl, hS.sp⟩) | (exact ⟨_, rfl, rfl, St.weak hS.sp hle1⟩)))
end Go.Proofs.YtanlkfeogoganaaGreat
namespace Go.Proofs.YtanlkfeogoganaaGreat
open Go.Lir
theorem verifyChecks_rd {c : Array Value} {x : Module} {w : World} (h1 : cMod.cod.rd w.heap c.toList x) : Rets Tryz.prog Q1I [.agg c] w fun v w' => v = .bool true ∧ Fr NF w w' :=
  (Ql4 (cMod.top h1) (St.top w)).mono fun v w' ⟨h, h2⟩ => ⟨h, h2.fr⟩
end Go.Proofs.YtanlkfeogoganaaGreat
