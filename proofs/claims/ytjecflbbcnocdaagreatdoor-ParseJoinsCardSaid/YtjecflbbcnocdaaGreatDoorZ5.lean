/- Lemmas of the proof, part 5: what the functions of the program do (contracts), and what follows. -/
import Derived.Test.YtjecflbbcnocdaaGreatDoorZ2
import Derived.Test.YtjecflbbcnocdaaGreatDoorZ4
import Derived.Test.YtjecflbbcnocdaaGreatDoorZ3
import Derived.Lib.Join
import Derived.Lib.ItoaLen
import Derived.Test.YtjecflbbcnocdaaGreatDoorZ1
import Derived.Test.YtjecflbbcnocdaaGreatDoorRows
import Derived.ProofKit
import Derived.LaidMore
import Derived.OpenShut
import Derived.Stop.LaidErr
import Derived.Lib.LaidTab
import Derived.MakeChecks
namespace Go.Proofs.YtjecflbbcnocdaaGreatDoor
open Go.Lir
set_option maxHeartbeats 1000000
attribute [local irreducible] LC.wp Q3 QF QK retQ Q1E LO.wp Qq Calls
set_option linter.unusedSimpArgs false
set_option linter.unusedVariables false
attribute [local irreducible] orF mkF orC Q2h Q31 Q2z Q3q Qu Qt Qz Q39 Q3f Qg9 Qec
variable {cx : Cx} {w : World} {L : List Res} {i : Nat}
theorem fault_if (c : Int) : (if decide (c ≠ 0) = true then c else 0) = c := by by_cases h : c = 0 <;> simp [h]
theorem rto_c {x : Fun} {t : To} {is : Bool} {cs ds : List Value} (hx : funcR.at cx cs x) (ht : toR.at cx ds t) (hS : St cx w L) :
    Rets Tryz.prog Q46 [.agg ⟨cs⟩, .agg ⟨ds⟩, .bool is] w fun u w' => u = .int .i64 (Q2z x.blocks.length t is) ∧ St cx w' L := by
  obtain ⟨vp, vr, vb, rfl, hp, hr, hb⟩ := Q1B hx
  obtain ⟨v1, v2, rfl, h1, h2⟩ := Q9d ht
  have hlb := hb.len
  have hb1 := h1.len
  have hb2 := h2.len
  unfold Q2z
  cases is with
  | false =>
    all_goals refine Qek ?_
    all_goals (unfold R_toForm_lc; refine Q0 ?_; refine Q1 ?_; refine zb hS ?_; intro p3 w1 hS; refine zb hS ?_; intro p4 w1 hS; refine zm ?_; refine zn ?_; refine Q0 ?_; refine Q0 ?_; refine Q1 ?_; refine zm ?_; refine Q1w rfl ?_; refine zn ?_)
    all_goals refine Q4 rfl ?_
    all_goals (refine Q0 ?_; refine Q0 ?_; refine Q1 ?_; refine Q2 rfl ?_; refine zl hS ?_)
    all_goals (first | (refine Q12 ?_) | (refine Q18 ?_) | (refine Qx rfl rfl (fun hc => ?_) (fun hc => ?_)))
    all_goals (refine zm ?_; (first | refine s_gn rfl rfl ?_ | (refine s_gy rfl ?_; refine Q2 rfl ?_)); (first | refine s_gn rfl rfl ?_ | (refine s_gy rfl ?_; refine zl hS ?_)); (first | refine s_gn rfl rfl ?_ | (refine s_gy rfl ?_; refine zL ?_)); (first | refine s_gn rfl rfl ?_ | (refine s_gy rfl ?_; refine Q2 rfl ?_)); (first | refine s_gn rfl rfl ?_ | (refine s_gy rfl ?_; refine zl hS ?_)); (first | refine s_gn rfl rfl ?_ | (refine s_gy rfl ?_; refine zL ?_)); (first | refine s_gn rfl rfl ?_ | (refine s_gy rfl ?_; refine zad ?_)))
    all_goals (first | refine s_gn rfl rfl ?_ | (refine s_gy rfl ?_; (first | (refine QQ ?_) | (refine Q11 ?_) | (refine Qr rfl rfl (fun hc => ?_) (fun hc => ?_)))))
    all_goals ((first | (refine zpt ?_) | (refine zpf ?_)); refine zn ?_)
    all_goals
      first
      | (refine Q4 rfl ?_ -- Q46 c1
         all_goals (refine Q0 ?_; refine Q1 ?_; refine zm ?_; refine zn ?_; refine zr ?_; refine zf ?_)
         all_goals (refine ⟨_, rfl, ?_, hS.sp⟩; (rw [if_pos rfl]; first | rw [if_pos (by omega)] | rw [if_neg (by omega)]); done))
      | (refine Q5 rfl ?_ -- Q46 c1
         all_goals refine zsk ?_)
    all_goals (refine Q0 ?_; refine Q1 ?_; refine zm ?_; refine zn ?_; refine zr ?_; refine zf ?_; refine ⟨_, rfl, ?_, hS.sp⟩; (rw [if_pos rfl]; first | rw [if_pos (by omega)] | rw [if_neg (by omega)]); done)
  | true =>
    all_goals refine Qek ?_
    all_goals (unfold R_toForm_lc; refine Q0 ?_; refine Q1 ?_; refine zb hS ?_; intro p3 w1 hS; refine zb hS ?_; intro p4 w1 hS; refine zm ?_; refine zn ?_; refine Q0 ?_; refine Q0 ?_; refine Q1 ?_; refine zm ?_; refine Q1w rfl ?_; refine zn ?_)
    all_goals refine Q5 rfl ?_
    all_goals (refine zsk ?_; refine Q0 ?_; refine Q0 ?_; refine Q1 ?_; refine Q2 rfl ?_; refine zl hS ?_)
    all_goals (first | (refine Q26 ?_) | (refine Q27 ?_) | (refine QR rfl rfl (fun hc => ?_) (fun hc => ?_)))
    all_goals (refine zm ?_; (first | refine s_gn rfl rfl ?_ | (refine s_gy rfl ?_; refine Q2 rfl ?_)); (first | refine s_gn rfl rfl ?_ | (refine s_gy rfl ?_; refine zl hS ?_)); (first | refine s_gn rfl rfl ?_ | (refine s_gy rfl ?_; refine Q2 rfl ?_)); (first | refine s_gn rfl rfl ?_ | (refine s_gy rfl ?_; refine zl hS ?_)); (first | refine s_gn rfl rfl ?_ | (refine s_gy rfl ?_; refine zL ?_)))
    all_goals (first | refine s_gn rfl rfl ?_ | (refine s_gy rfl ?_; (first | (refine Qb5 ?_) | (refine Qb6 ?_) | (refine Q3d rfl rfl (fun hc => ?_) (fun hc => ?_)))))
    all_goals ((first | (refine zpt ?_) | (refine zpf ?_)); refine zn ?_)
    all_goals
      first
      | (refine Q4 rfl ?_ -- Q46 c2
         all_goals (refine Q0 ?_; refine Q1 ?_; refine zm ?_; refine zn ?_; refine zr ?_; refine zf ?_)
         all_goals (refine ⟨_, rfl, ?_, hS.sp⟩; rw [if_neg Bool.noConfusion]; (repeat (first | rw [if_pos (by omega)] | rw [if_neg (by omega)])); done))
      | (refine Q5 rfl ?_ -- Q46 c2
         all_goals refine zsk ?_)
    all_goals (refine Q0 ?_; refine Q0 ?_; refine Q1 ?_; refine Q2 rfl ?_; refine zl hS ?_; refine zL ?_)
    all_goals (first | (refine QQ ?_) | (refine Q11 ?_) | (refine Qr rfl rfl (fun hc => ?_) (fun hc => ?_)))
    all_goals (refine zm ?_; (first | refine s_gn rfl rfl ?_ | (refine s_gy rfl ?_; refine Q2 rfl ?_)); (first | refine s_gn rfl rfl ?_ | (refine s_gy rfl ?_; refine zl hS ?_)); (first | refine s_gn rfl rfl ?_ | (refine s_gy rfl ?_; refine zL ?_)))
    all_goals (first | refine s_gn rfl rfl ?_ | (refine s_gy rfl ?_; (first | (refine QQ ?_) | (refine Q11 ?_) | (refine Qr rfl rfl (fun hc => ?_) (fun hc => ?_)))))
    all_goals ((first | (refine zpt ?_) | (refine zpf ?_)); refine zn ?_)
    all_goals
      first
      | (refine Q4 rfl ?_ -- Q46 c3
         all_goals (refine Q0 ?_; refine Q1 ?_; refine zm ?_; refine zn ?_; refine zr ?_; refine zf ?_)
         all_goals (refine ⟨_, rfl, ?_, hS.sp⟩; rw [if_neg Bool.noConfusion]; (repeat (first | rw [if_pos (by omega)] | rw [if_neg (by omega)])); done))
      | (refine Q5 rfl ?_ -- Q46 c3
         all_goals refine zsk ?_)
    all_goals (refine Q0 ?_; refine Q1 ?_; refine zm ?_; refine zn ?_; refine zr ?_; refine zf ?_; refine ⟨_, rfl, ?_, hS.sp⟩; rw [if_neg Bool.noConfusion]; (repeat (first | rw [if_pos (by omega)] | rw [if_neg (by omega)])); done)
theorem rend_c {x : Fun} {e : Tail} {cs ds : List Value} (hx : funcR.at cx cs x) (he : endR.at cx ds e) (hS : St cx w L) :
    Rets Tryz.prog Q2D [.agg ⟨cs⟩, .agg ⟨ds⟩] w fun u w' => u = .int .i64 (Q3q x.blocks.length e) ∧ St cx w' L := by
  obtain ⟨vp, vr, vb, rfl, hp, hr, hb⟩ := Q1B hx
  obtain ⟨v1, v2, v3, v4, v5, rfl, h1, h2, h3, h4, h5⟩ := Qd5 he
  have s5 := h5.len
  unfold Q3q
  all_goals refine QkY ?_
  all_goals (unfold R_EndForm_lc; refine Q0 ?_; refine Q1 ?_; refine zb hS ?_; intro p2 w1 hS; refine zb hS ?_; intro p3 w1 hS; refine zm ?_; refine zn ?_; refine Q0 ?_; refine Q0 ?_; refine Q1 ?_; refine Q2 rfl ?_; refine zl hS ?_)
  all_goals (first | (refine Q26 ?_) | (refine Q27 ?_) | (refine QR rfl rfl (fun hc => ?_) (fun hc => ?_)))
  all_goals (refine zm ?_; (first | refine s_gn rfl rfl ?_ | (refine s_gy rfl ?_; refine Q2 rfl ?_)); (first | refine s_gn rfl rfl ?_ | (refine s_gy rfl ?_; refine zl hS ?_)))
  all_goals (first | refine s_gn rfl rfl ?_ | (refine s_gy rfl ?_; (first | (refine QQ ?_) | (refine Q11 ?_) | (refine Qr rfl rfl (fun hc => ?_) (fun hc => ?_)))))
  all_goals ((first | (refine zpt ?_) | (refine zpf ?_)); refine zn ?_)
  all_goals
    first
    | (refine Q4 rfl ?_ -- Q2D c0
       all_goals (refine Q0 ?_; refine Q1 ?_; refine zm ?_; refine zn ?_; refine zr ?_; refine zf ?_)
       all_goals (refine ⟨_, rfl, ?_, hS.sp⟩; rw [if_pos (by omega)]; done))
    | (refine Q5 rfl ?_ -- Q2D c0
       all_goals refine zsk ?_)
  refine zML hS [2, 3] (fun A LL ρ' w' => Has ρ' A ∧ Has ρ' [] ∧ (¬ (e.op < 1 ∨ 3 < e.op)) ∧ (¬ (e.op ≠ 2 ∧ e.a ≠ 0 ∨ e.op ≠ 3 ∧ 0 < e.args.length)) ∧ St cx w' (LL)) ?_ ?_
  · skip
    all_goals (refine Q0 ?_; refine Q1 ?_; refine Q2 rfl ?_; refine zl hS ?_)
    all_goals (first | (refine Q12 ?_) | (refine Q18 ?_) | (refine Qx rfl rfl (fun hc => ?_) (fun hc => ?_)))
    all_goals (refine zm ?_; (first | refine s_gn rfl rfl ?_ | (refine s_gy rfl ?_; refine Q2 rfl ?_)); (first | refine s_gn rfl rfl ?_ | (refine s_gy rfl ?_; refine zl hS ?_)))
    all_goals (first | refine s_gn rfl rfl ?_ | (refine s_gy rfl ?_; (first | (refine Q12 ?_) | (refine Q18 ?_) | (refine Qx rfl rfl (fun hc => ?_) (fun hc => ?_)))))
    all_goals ((first | (refine zpt ?_) | (refine zpf ?_)); refine zm ?_; (first | refine s_gn rfl rfl ?_ | (refine s_gy rfl ?_; refine Q2 rfl ?_)); (first | refine s_gn rfl rfl ?_ | (refine s_gy rfl ?_; refine zl hS ?_)); (first | refine s_gn rfl rfl ?_ | (refine s_gy rfl ?_; refine zL ?_)))
    all_goals (first | refine s_gn rfl rfl ?_ | (refine s_gy rfl ?_; (first | (refine QQ ?_) | (refine Q11 ?_) | (refine Qr rfl rfl (fun hc => ?_) (fun hc => ?_)))))
    all_goals ((first | refine s_gn rfl rfl ?_ | (refine s_gy rfl ?_; refine zm ?_)); (first | refine s_gn rfl rfl ?_ | (refine s_gy rfl ?_; refine Q2 rfl ?_)); (first | refine s_gn rfl rfl ?_ | (refine s_gy rfl ?_; refine zl hS ?_)))
    all_goals (first | refine s_gn rfl rfl ?_ | (refine s_gy rfl ?_; (first | (refine Q12 ?_) | (refine Q18 ?_) | (refine Qx rfl rfl (fun hc => ?_) (fun hc => ?_)))))
    all_goals ((first | refine s_gn rfl rfl ?_ | (refine s_gy rfl ?_; (first | (refine zpt ?_) | (refine zpf ?_)))); (first | (refine zpt ?_) | (refine zpf ?_)); refine zn ?_)
    all_goals
      first
      | (refine Q4 rfl ?_ -- Q2D c1
         all_goals (refine Q0 ?_; refine Q1 ?_; refine zm ?_; refine zn ?_; refine zr ?_; refine zf ?_)
         all_goals (first | (refine ⟨_, rfl, ?_, hS.sp⟩; rw [if_pos (by omega)]; done) | (refine ⟨_, rfl, ?_, hS.sp⟩; rw [if_neg (by omega), if_pos (by omega)]; done)))
      | (refine Q5 rfl ?_ -- Q2D c1
         all_goals refine zsk ?_)
    all_goals (exact ⟨zh, zh, by omega, by omega, hS.sp⟩)
  rintro ρ w1 ⟨hA, hρ, k1, k2, hS⟩; obtain ⟨ρ, rfl⟩ := env2 hA hρ
  all_goals (refine Q0 ?_; refine Q0 ?_; refine Q1 ?_; refine Q2 rfl ?_; refine zl hS ?_; refine zL ?_)
  all_goals (first | (refine QQ ?_) | (refine Q11 ?_) | (refine Qr rfl rfl (fun hc => ?_) (fun hc => ?_)))
  all_goals (refine zn ?_)
  all_goals
    first
    | (refine Q4 rfl ?_ -- Q2D c2
       all_goals (refine Q0 ?_; refine Q1 ?_; refine zm ?_; refine zn ?_; refine zr ?_; refine zf ?_)
       all_goals (first | (refine ⟨_, rfl, ?_, hS.sp⟩; rw [if_pos (by omega)]; done) | (refine ⟨_, rfl, ?_, hS.sp⟩; rw [if_neg (by omega), if_pos (by omega)]; done) | (refine ⟨_, rfl, ?_, hS.sp⟩; rw [if_neg k1, if_neg k2, if_pos (by omega)]; done)))
    | (refine Q5 rfl ?_ -- Q2D c2
       all_goals refine zsk ?_)
  all_goals (refine Q0 ?_; refine Q0 ?_; refine Q1 ?_; refine zv hS ?_; refine Q2 rfl ?_; refine zv hS ?_; refine Q2 rfl ?_; refine zl hS ?_; refine Q9e rfl rfl ?_; refine zR3 (c := rto_c (t := e.yes) hx ⟨_, _, rfl, h1, h2⟩ hS) (h := ?_); rintro v1 w1 ⟨rfl, hS⟩; refine zm ?_; refine zn ?_; refine Q0 ?_; refine Q1 ?_; refine zm ?_)
  all_goals (first | (refine Q12 ?_) | (refine Q18 ?_) | (refine Qx rfl rfl (fun hc => ?_) (fun hc => ?_)))
  all_goals (refine zn ?_)
  all_goals
    first
    | (refine Q4 rfl ?_ -- Q2D c3
       all_goals (refine Q0 ?_; refine Q1 ?_; refine zm ?_; refine zm ?_; refine zn ?_; refine zr ?_; refine zf ?_)
       all_goals (first | (refine ⟨_, rfl, ?_, hS.sp⟩; rw [if_pos (by omega)]; done) | (refine ⟨_, rfl, ?_, hS.sp⟩; rw [if_neg (by omega), if_pos (by omega)]; done) | (refine ⟨_, rfl, ?_, hS.sp⟩; rw [if_neg k1, if_neg k2, if_pos (by omega)]; done) | (refine ⟨_, rfl, ?_, hS.sp⟩; (rw [if_neg k1, if_neg k2, if_neg (by omega)]; first | rw [Q70 (by assumption)] | (rw [Classical.not_not.1 (by assumption : ¬ Q2z x.blocks.length e.yes (decide (e.op ≠ 3)) ≠ 0), Q63])); done)))
    | (refine Q5 rfl ?_ -- Q2D c3
       all_goals refine zsk ?_)
  all_goals (refine Q0 ?_; refine Q1 ?_; refine zv hS ?_; refine Q2 rfl ?_; refine zv hS ?_; refine Q2 rfl ?_; refine zl hS ?_; refine QdB rfl rfl ?_; refine zR3 (c := rto_c (t := e.no) hx ⟨_, _, rfl, h3, h4⟩ hS) (h := ?_); rintro v1 w1 ⟨rfl, hS⟩; refine zm ?_; refine zn ?_; refine zr ?_; refine zf ?_; (first | (refine ⟨_, rfl, ?_, hS.sp⟩; rw [if_pos (by omega)]; done) | (refine ⟨_, rfl, ?_, hS.sp⟩; rw [if_neg (by omega), if_pos (by omega)]; done) | (refine ⟨_, rfl, ?_, hS.sp⟩; rw [if_neg k1, if_neg k2, if_pos (by omega)]; done) | (refine ⟨_, rfl, ?_, hS.sp⟩; (rw [if_neg k1, if_neg k2, if_neg (by omega)]; first | rw [Q70 (by assumption)] | (rw [Classical.not_not.1 (by assumption : ¬ Q2z x.blocks.length e.yes (decide (e.op ≠ 3)) ≠ 0), Q63])); done)))
theorem Qlh {l : List Ty} {regs : Int} {v vf : Value} {g : Flt} {at' : Int} {b : Nat} (hl : tyR.sl cx v l) (hS : St cx w L) (hi : nth L i = some (jdg b vf g at')) :
    Rets Tryz.prog Q78 [.pointer (some ⟨b, 0, none⟩), v, .int .i64 regs] w fun u w' => u = .tuple #[] ∧ St cx w' (L.set i (jdg b vf (orF g (mkF (Qu l regs) at')) at')) := by
  have hS := hS.out hi
  have hlen := hl.len
  have e0 : orF g (mkF (Qu l regs) at') = orF g (mkF (orC (if 8 < l.length then 2 else 0) (Q3a regs l)) at') := by
    congr 2
    unfold Qu
    split
    · rw [Q70 (by decide)]
    · rw [Q63]
  rw [e0]
  all_goals refine QaH ?_
  all_goals (unfold code_judge_list_lc)
  refine zM [0, 1, 2] (fun A ρ' w' => Has ρ' A ∧ Has ρ' [] ∧ St cx w' (jdg b vf (orF g (mkF (if 8 < l.length then 2 else 0) at')) at' :: L.eraseIdx i)) ?_ ?_
  · skip
    all_goals (refine Q1 ?_; refine zm ?_; refine zm ?_; refine zL ?_)
    all_goals (first | (refine QQ ?_) | (refine Q11 ?_) | (refine Qr rfl rfl (fun hc => ?_) (fun hc => ?_)))
    all_goals (refine zR3 (c := Q2n (by intro _; decide) hS fd) (h := ?_); rintro v1 w1 ⟨rfl, hS⟩; simp only [List.set_cons_zero, List.set_cons_succ, if_true, Bool.false_eq_true, if_false] at hS; refine zn ?_; exact ⟨zh, zh, by first | (rw [if_pos (by omega)]; exact hS.sp) | (rw [if_neg (by omega)]; exact hS.sp)⟩)
  rintro ρ w1 ⟨hA, hρ, hS⟩; obtain ⟨ρ, rfl⟩ := env2 hA hρ
  all_goals (refine Q0 ?_; refine Q1 ?_; refine zm ?_; refine zL ?_; refine zm ?_; refine zn ?_; refine Qh ?_)
  refine zo [0, 2, 14, 15] (fun A ρ' w' => ∃ (j : Nat) (h : Flt), Has ρ' A ∧ Has ρ' [(16, .int .i64 j)] ∧ (j ≤ l.length) ∧ (orF g (mkF (orC (if 8 < l.length then 2 else 0) (Q3a regs l)) at') = orF h (mkF (Q3a regs (l.drop j)) at')) ∧ St cx w' (jdg b vf h at' :: L.eraseIdx i)) (fun ρ' _ => (l.length - iv (ρ' 16)).toNat) ?_ ?_
  · exact ⟨0, _, zh, zh, (by omega), by rw [List.drop_zero, Q2W], hS.sp⟩
  rintro ρ w1 ⟨j, h, hA, hρ, hj, hd, hS⟩; obtain ⟨ρ, rfl⟩ := env2 hA hρ
  unfold Q44
  all_goals (refine Q0 ?_; refine Q1 ?_; refine Q1x rfl rfl ?_; refine zn ?_; refine Q0 ?_)
  refine QO rfl (fun hc => ?_) (fun hc => ?_)
  · skip
    all_goals (refine zsk ?_; refine Q0 ?_; refine Qh ?_; refine Q0 ?_; refine Q1 ?_; refine zi ?_; intro b1 o1 cs1 x1 hat1 hx1 he1; obtain ⟨vl1, rfl, hl1⟩ := Q1b he1; (first | (refine zv hS ?_) | (refine zvk hS ?_)); refine Qb hS ?_; intro p7 w1 hS; refine zsn hS ?_; intro w1 hS; have hS := hS.ns; refine zn ?_; refine Q0 ?_; refine Q1 ?_; refine zv hS ?_; refine zm ?_; refine zR2 (c := tcheck_c (by assumption) hS) (h := ?_); rintro v1 w1 ⟨rfl, hS⟩; refine zm ?_; refine zn ?_; refine Q1 ?_; refine zm ?_; refine zm ?_; refine Q9e rfl rfl ?_; refine zm ?_; refine zR3 (c := Q2n (by intro h; exact of_decide_eq_true h) hS fd) (h := ?_); rintro v1 w1 ⟨rfl, hS⟩; simp only [List.set_cons_zero, List.set_cons_succ, fault_if] at hS; refine zn ?_; refine Q1 ?_; refine zad ?_; refine zm ?_; refine zn ?_; exact ⟨⟨j + 1, _, zh, zh, (by omega), by rw [hd, Q6 hx1, Q3a, ← Q2W], hS.sp⟩, Q16 (by omega)⟩)
  · skip
    all_goals (refine zex ?_; refine Q5c ?_; refine ⟨_, rfl, rfl, ?_⟩; rw [hd, List.drop_of_length_le (by omega), Q3a, Q2e, Qn0 rfl]; exact St.back hS hi)
def fltV (g : Flt) : Value := .agg ⟨[.int .i64 g.1, .int .i64 g.2]⟩
theorem rblock_c {m : Module} {f b : Nat} {x : Fun} {y : Block} (hxf : m.funcs[f]? = some x) (hyb : x.blocks[b]? = some y) (hf0 : f ≤ 1000000) (hb0 : b ≤ 1000000) (hlc : y.code.length ≤ 100000) {cs : List Value} (hm : modR.at cx cs m) (hS : St cx w L) :
    Rets Tryz.prog QP [.agg ⟨cs⟩, .int .i64 f, .int .i64 b] w fun u w' => u = fltV (QL m.funcs.length f x b y) ∧ St cx w' L := by
  have hm' := hm
  obtain ⟨vf, rfl, hf⟩ := Q41 hm
  have hflt := (List.getElem?_eq_some_iff.1 hxf).1
  have hblt := (List.getElem?_eq_some_iff.1 hyb).1
  all_goals refine Qew ?_
  all_goals (unfold R_blockFault_lc; refine Q0 ?_; refine Q1 ?_; refine zb hS ?_; intro p3 w1 hS; refine Qb hS ?_; intro p6 w1 hS; refine zn ?_; refine Q0 ?_; refine Q1 ?_; refine Q2 rfl ?_; refine zl hS ?_; refine zm ?_; refine zi ?_; intro b1 o1 cs1 x1 hat1 hx1 he1; obtain ⟨vp1, vr1, vb1, rfl, hp1, hr1, hb1⟩ := Q1B he1; (first | (refine zv hS ?_) | (refine zvk hS ?_)); refine Qb hS ?_; intro p7 w1 hS; refine zsn hS ?_; intro w1 hS; have hS := hS.ns; refine zn ?_; have e1 : x = x1 := Option.some.inj (hxf.symm.trans hx1); subst e1; refine Q0 ?_; refine Q1 ?_; refine Q2 rfl ?_; refine zl hS ?_; refine zm ?_; refine zi ?_; intro b2 o2 cs2 x2 hat2 hx2 he2; obtain ⟨vp2, vc2, ve21, ve22, ve23, ve24, ve25, rfl, hp2, hc2, he21, he22, he23, he24, he25⟩ := Q1X he2; (first | (refine zv hS ?_) | (refine zvk hS ?_)); refine Qb hS ?_; intro p8 w1 hS; refine zsn hS ?_; intro w1 hS; have hS := hS.ns; refine zn ?_; have e2 : y = x2 := Option.some.inj (hyb.symm.trans hx2); subst e2)
  all_goals (refine Q0 ?_; refine Q0 ?_; refine Q1 ?_; refine Q2 rfl ?_; refine zl hS ?_; refine Q2 rfl ?_; refine zl hS ?_)
  all_goals (first | (refine Q26 ?_) | (refine Q27 ?_) | (refine QR rfl rfl (fun hc => ?_) (fun hc => ?_)))
  all_goals (refine zm ?_; (first | refine s_gn rfl rfl ?_ | (refine s_gy rfl ?_; refine Q2 rfl ?_)); (first | refine s_gn rfl rfl ?_ | (refine s_gy rfl ?_; refine zl hS ?_)))
  all_goals (first | refine s_gn rfl rfl ?_ | (refine s_gy rfl ?_; (first | (refine QQ ?_) | (refine Q11 ?_) | (refine Qr rfl rfl (fun hc => ?_) (fun hc => ?_)))))
  all_goals ((first | (refine zpt ?_) | (refine zpf ?_)); refine zn ?_)
  all_goals
    first
    | (refine Q4 rfl ?_ -- QP c0
       all_goals (refine Q0 ?_; refine Q1 ?_; refine zm ?_; refine zm ?_; refine zR2 (c := Q7k f b hf0 hb0 hS) (h := ?_); rintro v1 w1 ⟨rfl, hS⟩; refine zR2 (c := rF_c hS) (h := ?_); rintro v1 w1 ⟨rfl, hS⟩; refine zsn hS ?_; intro w1 hS; have hS := hS.ns; refine zn ?_; refine zr ?_; refine Q1G vw (Qa (n := 2) (by kernel_rfl) (by kernel_rfl) (hS.blkAt fd) (by rfl) (by rfl)) ?_)
       all_goals (refine ⟨_, rfl, ?_, hS.sp⟩; rw [Q1H (c := 1) (by unfold Qt; rw [if_pos (by omega)]) (by decide)]; rfl; done))
    | (refine Q5 rfl ?_ -- QP c0
       all_goals refine zsk ?_)
  all_goals (refine Q0 ?_; refine Q0 ?_; refine Q1 ?_; refine Q2 rfl ?_; refine zl hS ?_; refine Q2 rfl ?_; refine zl hS ?_; refine zR2 (c := Qld (by assumption) hS) (h := ?_); rintro v1 w1 ⟨rfl, hS⟩; refine zm ?_; refine zn ?_; refine Q0 ?_; refine Q1 ?_; refine zm ?_)
  all_goals (first | (refine Q12 ?_) | (refine Q18 ?_) | (refine Qx rfl rfl (fun hc => ?_) (fun hc => ?_)))
  all_goals (refine zn ?_)
  all_goals
    first
    | (refine Q4 rfl ?_ -- QP c1
       all_goals (refine Q0 ?_; refine Q1 ?_; refine zm ?_; refine zm ?_; refine zm ?_; refine zR2 (c := Q7k f b hf0 hb0 hS) (h := ?_); rintro v1 w1 ⟨rfl, hS⟩; refine zR2 (c := rF_c hS) (h := ?_); rintro v1 w1 ⟨rfl, hS⟩; refine zsn hS ?_; intro w1 hS; have hS := hS.ns; refine zn ?_; refine zr ?_; refine Q1G vw (Qa (n := 2) (by kernel_rfl) (by kernel_rfl) (hS.blkAt fd) (by rfl) (by rfl)) ?_)
       all_goals (first | (refine ⟨_, rfl, ?_, hS.sp⟩; rw [Q1H (c := 1) (by unfold Qt; rw [if_pos (by omega)]) (by decide)]; rfl; done) | (refine ⟨_, rfl, ?_, hS.sp⟩; rw [Q1H (c := Qu y.params y.regs) (by unfold Qt; rw [if_neg (by omega), if_pos (by assumption)]) (by assumption)]; rfl; done)))
    | (refine Q5 rfl ?_ -- QP c1
       all_goals refine zsk ?_)
  all_goals (refine Q0 ?_; refine Q0 ?_; refine Q1 ?_)
  refine zKL hS 17 [1, 2, 3, 6, 7, 8] (fun A LL ρ' w' => ∃ (q : Bool), Has ρ' A ∧ Has ρ' [(65, .bool q)] ∧ (q = true ↔ (b = 0 ∧ (y.regs ≠ x.regs ∨ y.params ≠ x.params))) ∧ St cx w' (LL)) ?_ ?_
  · skip
    all_goals (refine zm ?_)
    all_goals (first | (refine Qw ?_) | (refine Qy ?_) | (refine Qj rfl rfl (fun hc => ?_) (fun hc => ?_)))
    all_goals (refine zm ?_; (first | refine s_gn rfl rfl ?_ | (refine s_gy rfl ?_; refine Q2 rfl ?_)); (first | refine s_gn rfl rfl ?_ | (refine s_gy rfl ?_; refine zl hS ?_)); (first | refine s_gn rfl rfl ?_ | (refine s_gy rfl ?_; refine Q2 rfl ?_)); (first | refine s_gn rfl rfl ?_ | (refine s_gy rfl ?_; refine zl hS ?_)))
    all_goals (first | refine s_gn rfl rfl ?_ | (refine s_gy rfl ?_; (first | (refine Q12 ?_) | (refine Q18 ?_) | (refine Qx rfl rfl (fun hc => ?_) (fun hc => ?_)))))
    all_goals ((first | refine s_gn rfl rfl ?_ | (refine s_gy rfl ?_; refine zm ?_)); (first | refine s_gn rfl rfl ?_ | (refine s_gy rfl ?_; refine Q2 rfl ?_)); (first | refine s_gn rfl rfl ?_ | (refine s_gy rfl ?_; refine zl hS ?_)); (first | refine s_gn rfl rfl ?_ | (refine s_gy rfl ?_; refine Q2 rfl ?_)); (first | refine s_gn rfl rfl ?_ | (refine s_gy rfl ?_; refine zl hS ?_)))
    all_goals (first | refine s_gn rfl rfl ?_ | (refine s_gy rfl ?_; refine zR2 (c := Q7j hp2 hp1 hS) (h := ?_); rintro v1 w1 ⟨rfl, hS⟩; (cases hdec : decide (y.params = x.params)); have hg := of_decide_eq_false hdec; rotate_left; have hg := of_decide_eq_true hdec; all_goals skip))
    all_goals ((first | refine s_gn rfl rfl ?_ | (refine s_gy rfl ?_; refine Q1w rfl ?_)); (first | refine s_gn rfl rfl ?_ | (refine s_gy rfl ?_; (first | (refine zpt ?_) | (refine zpf ?_)))); (first | (refine zpt ?_) | (refine zpf ?_)); refine Q4V ?_; refine Q2f ?_)
    all_goals (first | (exact ⟨_, zh, zh, by exact ⟨fun _ => ⟨by omega, .inl (by assumption)⟩, fun _ => rfl⟩, hS.sp⟩) | (exact ⟨_, zh, zh, by exact ⟨fun _ => ⟨by omega, .inr (by assumption)⟩, fun _ => rfl⟩, hS.sp⟩) | (exact ⟨_, zh, zh, by exact ⟨fun h => Bool.noConfusion h, fun h => absurd h.1 (by omega)⟩, hS.sp⟩) | (exact ⟨_, zh, zh, by exact ⟨fun h => Bool.noConfusion h, fun h => h.2.elim (fun h => absurd h (by assumption)) (fun h => absurd (by assumption) h)⟩, hS.sp⟩))
  rintro ρ w1 ⟨q, hA, hρ, hq, hS⟩; obtain ⟨ρ, rfl⟩ := env2 hA hρ
  all_goals (refine zn ?_)
  all_goals (cases q)
  all_goals
    first
    | (refine Q4 rfl ?_ -- QP c2
       all_goals (refine Q0 ?_; refine Q1 ?_; refine zm ?_; refine zm ?_; refine zR2 (c := Q7k f b hf0 hb0 hS) (h := ?_); rintro v1 w1 ⟨rfl, hS⟩; refine zR2 (c := rF_c hS) (h := ?_); rintro v1 w1 ⟨rfl, hS⟩; refine zsn hS ?_; intro w1 hS; have hS := hS.ns; refine zn ?_; refine zr ?_; refine Q1G vw (Qa (n := 2) (by kernel_rfl) (by kernel_rfl) (hS.blkAt fd) (by rfl) (by rfl)) ?_)
       all_goals (first | (refine ⟨_, rfl, ?_, hS.sp⟩; rw [Q1H (c := 1) (by unfold Qt; rw [if_pos (by omega)]) (by decide)]; rfl; done) | (refine ⟨_, rfl, ?_, hS.sp⟩; rw [Q1H (c := Qu y.params y.regs) (by unfold Qt; rw [if_neg (by omega), if_pos (by assumption)]) (by assumption)]; rfl; done) | (refine ⟨_, rfl, ?_, hS.sp⟩; rw [Q1H (c := 9) (by unfold Qt; rw [if_neg (by omega), if_neg (by omega), if_pos (hq.1 rfl)]) (by decide)]; rfl; done)))
    | (refine Q5 rfl ?_ -- QP c2
       all_goals refine zsk ?_)
  refine zML hS [1, 2, 3, 6, 7, 8] (fun A LL ρ' w' => Has ρ' A ∧ Has ρ' [] ∧ (Qt x b y = 0) ∧ St cx w' (LL)) ?_ ?_
  · skip
    all_goals (refine Q0 ?_; refine Q1 ?_; refine Q2 rfl ?_; refine zl hS ?_; refine zL ?_)
    all_goals (first | (refine QQ ?_) | (refine Q11 ?_) | (refine Qr rfl rfl (fun hc => ?_) (fun hc => ?_)))
    all_goals (refine zn ?_)
    all_goals
      first
      | (refine Q4 rfl ?_ -- QP c3
         all_goals (refine Q0 ?_; refine Q1 ?_; refine zm ?_; refine zm ?_; refine zR2 (c := Q7k f b hf0 hb0 hS) (h := ?_); rintro v1 w1 ⟨rfl, hS⟩; refine zR2 (c := rF_c hS) (h := ?_); rintro v1 w1 ⟨rfl, hS⟩; refine zsn hS ?_; intro w1 hS; have hS := hS.ns; refine zn ?_; refine zr ?_; refine Q1G vw (Qa (n := 2) (by kernel_rfl) (by kernel_rfl) (hS.blkAt fd) (by rfl) (by rfl)) ?_)
         all_goals (first | (refine ⟨_, rfl, ?_, hS.sp⟩; rw [Q1H (c := 1) (by unfold Qt; rw [if_pos (by omega)]) (by decide)]; rfl; done) | (refine ⟨_, rfl, ?_, hS.sp⟩; rw [Q1H (c := Qu y.params y.regs) (by unfold Qt; rw [if_neg (by omega), if_pos (by assumption)]) (by assumption)]; rfl; done) | (refine ⟨_, rfl, ?_, hS.sp⟩; rw [Q1H (c := 9) (by unfold Qt; rw [if_neg (by omega), if_neg (by omega), if_pos (hq.1 rfl)]) (by decide)]; rfl; done) | (refine ⟨_, rfl, ?_, hS.sp⟩; rw [Q1H (c := 2) (by unfold Qt; rw [if_neg (by omega), if_neg (by omega), if_neg (fun h => Bool.noConfusion (hq.2 h)), if_pos (by omega)]) (by decide)]; rfl; done)))
      | (refine Q5 rfl ?_ -- QP c3
         all_goals refine zsk ?_)
    all_goals (exact ⟨zh, zh, by unfold Qt; rw [if_neg (by omega), if_neg (by omega), if_neg (fun h => Bool.noConfusion (hq.2 h)), if_neg (by omega)], hS.sp⟩)
  rintro ρ w1 ⟨hA, hρ, hh, hS⟩; obtain ⟨ρ, rfl⟩ := env2 hA hρ
  all_goals (refine Q0 ?_; refine Q0 ?_; refine Q1 ?_; refine zm ?_; refine zn ?_; refine Qh ?_)
  refine zoL hS [1, 2, 3, 6, 7, 8] (fun A LL ρ' w' => ∃ (j : Nat), Has ρ' A ∧ Has ρ' [(10, .int .i64 j)] ∧ (j ≤ y.code.length) ∧ (Q14 m.funcs.length f b 0 y.code = Q14 m.funcs.length f b j (y.code.drop j)) ∧ St cx w' (LL)) (fun ρ' _ => (y.code.length - iv (ρ' 10)).toNat) ?_ ?_
  · exact ⟨0, zh, zh, (by omega), by simp, hS.sp⟩
  rintro ρ w1 ⟨j, hA, hρ, hj, hd, hS⟩; obtain ⟨ρ, rfl⟩ := env2 hA hρ
  unfold Q5f
  all_goals (refine Q0 ?_; refine Q0 ?_; refine Q1 ?_; refine zm ?_; refine Q2 rfl ?_; refine zl hS ?_; refine zL ?_; refine Q1x rfl rfl ?_; refine zn ?_)
  refine QO rfl (fun hc => ?_) (fun hc => ?_)
  · skip
    all_goals (refine zsk ?_; refine Q0 ?_; refine Qh ?_; refine Q0 ?_; refine zD [(0, none), (1, none), (2, none), (3, none), (4, none), (5, none), (6, some none), (7, some none)] ?_; have hS := hS.drew; refine zv hS ?_; refine Q2 rfl ?_; refine zl hS ?_; refine zm ?_; refine zi ?_; intro b3 o3 cs3 x3 hat3 hx3 he3; obtain ⟨vr3, va3, rfl, hr3, ha3⟩ := Q3i he3; (first | (refine zv hS ?_) | (refine zvk hS ?_)); refine zR2 (c := rins_c hm' (by assumption) hS) (h := ?_); rintro v1 w1 ⟨rfl, hS⟩; refine zm ?_; refine zn ?_; refine Q0 ?_; refine Q1 ?_; refine zm ?_)
    all_goals (first | (refine Q12 ?_) | (refine Q18 ?_) | (refine Qx rfl rfl (fun hc => ?_) (fun hc => ?_)))
    all_goals (refine zn ?_)
    all_goals
      first
      | (refine Q4 rfl ?_ -- QP c5
         all_goals (refine Q0 ?_; refine Q1 ?_; refine zm ?_; refine zm ?_; refine zm ?_; refine zm ?_; refine zR3 (c := rInsAt_c f b j hf0 hb0 (by omega) hS) (h := ?_); rintro v1 w1 ⟨rfl, hS⟩; refine zR2 (c := rF_c hS) (h := ?_); rintro v1 w1 ⟨rfl, hS⟩; refine zsn hS ?_; intro w1 hS; have hS := hS.ns; refine zn ?_; refine zr ?_; refine Q1G vw (Qa (n := 2) (by kernel_rfl) (by kernel_rfl) (hS.blkAt fd) (by rfl) (by rfl)) ?_)
         all_goals (first | (refine ⟨_, rfl, ?_, hS.sp⟩; rw [Q1H (c := 1) (by unfold Qt; rw [if_pos (by omega)]) (by decide)]; rfl; done) | (refine ⟨_, rfl, ?_, hS.sp⟩; rw [Q1H (c := Qu y.params y.regs) (by unfold Qt; rw [if_neg (by omega), if_pos (by assumption)]) (by assumption)]; rfl; done) | (refine ⟨_, rfl, ?_, hS.sp⟩; rw [Q1H (c := 9) (by unfold Qt; rw [if_neg (by omega), if_neg (by omega), if_pos (hq.1 rfl)]) (by decide)]; rfl; done) | (refine ⟨_, rfl, ?_, hS.sp⟩; rw [Q1H (c := 2) (by unfold Qt; rw [if_neg (by omega), if_neg (by omega), if_neg (fun h => Bool.noConfusion (hq.2 h)), if_pos (by omega)]) (by decide)]; rfl; done) | (refine ⟨_, rfl, ?_, hS.sp⟩; rw [QlG (F := (Q31 m.funcs.length x3, Qec f b j)) hh (by rw [hd, Q6 hx3, Q4o (by assumption)]) (by assumption)]; rfl; done)))
      | (refine Q5 rfl ?_ -- QP c5
         all_goals refine zsk ?_)
    all_goals (refine Q1 ?_; refine zm ?_; refine zad ?_; refine zm ?_; refine zn ?_; exact ⟨⟨j + 1, zh, zh, (by omega), by rw [hd, Q6 hx3, Qg7 (by omega)], hS.sp⟩, Q16 (by omega)⟩)
  · skip
    all_goals (refine zex ?_; refine Q0 ?_; refine Q0 ?_; refine Q1 ?_; refine zv hS ?_; refine Q2 rfl ?_; refine zv hS ?_; refine zR2 (c := rend_c (e := y.fin) he1 ⟨_, _, _, _, _, rfl, he21, he22, he23, he24, he25⟩ hS) (h := ?_); rintro v1 w1 ⟨rfl, hS⟩; refine zm ?_; refine zn ?_; refine Q0 ?_; refine Q1 ?_; refine zm ?_)
    all_goals (first | (refine Q12 ?_) | (refine Q18 ?_) | (refine Qx rfl rfl (fun hc => ?_) (fun hc => ?_)))
    all_goals (refine zn ?_)
    all_goals
      first
      | (refine Q4 rfl ?_ -- QP c6
         all_goals (refine Q0 ?_; refine Q1 ?_; refine zm ?_; refine zm ?_; refine zm ?_; refine zR2 (c := rEndAt_c f b hf0 hb0 hS) (h := ?_); rintro v1 w1 ⟨rfl, hS⟩; refine zR2 (c := rF_c hS) (h := ?_); rintro v1 w1 ⟨rfl, hS⟩; refine zsn hS ?_; intro w1 hS; have hS := hS.ns; refine zn ?_; refine zr ?_; refine Q1G vw (Qa (n := 2) (by kernel_rfl) (by kernel_rfl) (hS.blkAt fd) (by rfl) (by rfl)) ?_)
         all_goals (first | (refine ⟨_, rfl, ?_, hS.sp⟩; rw [Q1H (c := 1) (by unfold Qt; rw [if_pos (by omega)]) (by decide)]; rfl; done) | (refine ⟨_, rfl, ?_, hS.sp⟩; rw [Q1H (c := Qu y.params y.regs) (by unfold Qt; rw [if_neg (by omega), if_pos (by assumption)]) (by assumption)]; rfl; done) | (refine ⟨_, rfl, ?_, hS.sp⟩; rw [Q1H (c := 9) (by unfold Qt; rw [if_neg (by omega), if_neg (by omega), if_pos (hq.1 rfl)]) (by decide)]; rfl; done) | (refine ⟨_, rfl, ?_, hS.sp⟩; rw [Q1H (c := 2) (by unfold Qt; rw [if_neg (by omega), if_neg (by omega), if_neg (fun h => Bool.noConfusion (hq.2 h)), if_pos (by omega)]) (by decide)]; rfl; done) | (refine ⟨_, rfl, ?_, hS.sp⟩; rw [QlG (F := (Q31 m.funcs.length x3, Qec f b j)) hh (by rw [hd, Q6 hx3, Q4o (by assumption)]) (by assumption)]; rfl; done) | (refine ⟨_, rfl, ?_, hS.sp⟩; (rw [bf_end hh (by rw [hd, List.drop_of_length_le (by omega), Q14])]; first | (rw [Qat (by assumption)]; rfl) | (rw [show Q3q x.blocks.length y.fin = 0 by omega, Q2e]; rfl)); done)))
      | (refine Q5 rfl ?_ -- QP c6
         all_goals refine zsk ?_)
    all_goals (refine Q0 ?_; refine Q1 ?_; refine zb0 [_, _] ?_; refine zsn hS ?_; intro w1 hS; have hS := hS.ns; refine zn ?_; refine zr ?_; refine Q1G vw (Qa (n := 2) (by kernel_rfl) (by kernel_rfl) (hS.blkAt fd) (by rfl) (by rfl)) ?_)
    all_goals (first | (refine ⟨_, rfl, ?_, hS.sp⟩; rw [Q1H (c := 1) (by unfold Qt; rw [if_pos (by omega)]) (by decide)]; rfl; done) | (refine ⟨_, rfl, ?_, hS.sp⟩; rw [Q1H (c := Qu y.params y.regs) (by unfold Qt; rw [if_neg (by omega), if_pos (by assumption)]) (by assumption)]; rfl; done) | (refine ⟨_, rfl, ?_, hS.sp⟩; rw [Q1H (c := 9) (by unfold Qt; rw [if_neg (by omega), if_neg (by omega), if_pos (hq.1 rfl)]) (by decide)]; rfl; done) | (refine ⟨_, rfl, ?_, hS.sp⟩; rw [Q1H (c := 2) (by unfold Qt; rw [if_neg (by omega), if_neg (by omega), if_neg (fun h => Bool.noConfusion (hq.2 h)), if_pos (by omega)]) (by decide)]; rfl; done) | (refine ⟨_, rfl, ?_, hS.sp⟩; rw [QlG (F := (Q31 m.funcs.length x3, Qec f b j)) hh (by rw [hd, Q6 hx3, Q4o (by assumption)]) (by assumption)]; rfl; done) | (refine ⟨_, rfl, ?_, hS.sp⟩; (rw [bf_end hh (by rw [hd, List.drop_of_length_le (by omega), Q14])]; first | (rw [Qat (by assumption)]; rfl) | (rw [show Q3q x.blocks.length y.fin = 0 by omega, Q2e]; rfl)); done))
theorem Qmo {m : Module} (hsh : m.Short) {cs : List Value} (hm : modR.at cx cs m) (hS : St cx w L) :
    Rets Tryz.prog QJ [.agg ⟨cs⟩] w fun u w' => u = fltV m.fault ∧ St cx w' L := by
  have hm' := hm
  obtain ⟨vf, rfl, hf⟩ := Q41 hm
  have hlf := hf.len
  have hsf := hsh.2
  unfold Module.fault
  all_goals refine Qhg ?_
  all_goals (unfold R_CodeFault_lc; refine Q0 ?_; refine Q1 ?_; refine zb hS ?_; intro p1 w1 hS; refine Qb hS ?_; intro p2 w1 hS; refine zn ?_)
  refine zML hS [1, 2] (fun A LL ρ' w' => Has ρ' A ∧ Has ρ' [] ∧ (1 ≤ m.funcs.length ∧ m.funcs.length ≤ 8) ∧ St cx w' (LL)) ?_ ?_
  · skip
    all_goals (refine Q0 ?_; refine Q1 ?_; refine Q2 rfl ?_; refine zl hS ?_; refine zL ?_)
    all_goals (first | (refine Q26 ?_) | (refine Q27 ?_) | (refine QR rfl rfl (fun hc => ?_) (fun hc => ?_)))
    all_goals (refine zm ?_; (first | refine s_gn rfl rfl ?_ | (refine s_gy rfl ?_; refine Q2 rfl ?_)); (first | refine s_gn rfl rfl ?_ | (refine s_gy rfl ?_; refine zl hS ?_)); (first | refine s_gn rfl rfl ?_ | (refine s_gy rfl ?_; refine zL ?_)))
    all_goals (first | refine s_gn rfl rfl ?_ | (refine s_gy rfl ?_; (first | (refine QQ ?_) | (refine Q11 ?_) | (refine Qr rfl rfl (fun hc => ?_) (fun hc => ?_)))))
    all_goals ((first | (refine zpt ?_) | (refine zpf ?_)); refine zn ?_)
    all_goals
      first
      | (refine Q4 rfl ?_ -- QJ c0
         all_goals (refine Q0 ?_; refine Q1 ?_; refine zR2 (c := rF_c hS) (h := ?_); rintro v1 w1 ⟨rfl, hS⟩; refine zsn hS ?_; intro w1 hS; have hS := hS.ns; refine zn ?_; refine zr ?_; refine Q1G vw (Qa (n := 2) (by kernel_rfl) (by kernel_rfl) (hS.blkAt fd) (by rfl) (by rfl)) ?_)
         all_goals (refine ⟨_, rfl, ?_, hS.sp⟩; rw [if_pos (by omega), Q62 (by rw [Q3p]; decide), Qat (by decide)]; rfl; done))
      | (refine Q5 rfl ?_ -- QJ c0
         all_goals refine zsk ?_)
    all_goals (exact ⟨zh, zh, by omega, hS.sp⟩)
  rintro ρ w1 ⟨hA, hρ, hl8, hS⟩; obtain ⟨ρ, rfl⟩ := env2 hA hρ
  all_goals (refine Q0 ?_; refine Q0 ?_; refine Q1 ?_; refine zm ?_; refine zn ?_; refine Qh ?_)
  refine zoL hS [1, 2] (fun A LL ρ' w' => ∃ (f : Nat), Has ρ' A ∧ Has ρ' [(3, .int .i64 f)] ∧ (f ≤ m.funcs.length) ∧ (Q1A m.funcs.length 0 m.funcs = Q1A m.funcs.length f (m.funcs.drop f)) ∧ St cx w' (LL)) (fun ρ' _ => (m.funcs.length - iv (ρ' 3)).toNat) ?_ ?_
  · exact ⟨0, zh, zh, (by omega), by simp, hS.sp⟩
  rintro ρ w1 ⟨f, hA, hρ, hj, hd, hS⟩; obtain ⟨ρ, rfl⟩ := env2 hA hρ
  unfold Q9b
  all_goals (refine Q0 ?_; refine Q0 ?_; refine Q1 ?_; refine zm ?_; refine Q2 rfl ?_; refine zl hS ?_; refine zL ?_; refine Q1x rfl rfl ?_; refine zn ?_)
  refine QO rfl (fun hc => ?_) (fun hc => ?_)
  · skip
    all_goals (refine zsk ?_; refine Q0 ?_; refine Qh ?_; refine Q0 ?_; refine Q1 ?_; refine Q2 rfl ?_; refine zl hS ?_; refine zm ?_; refine zi ?_; intro b1 o1 cs1 x1 hat1 hx1 he1; obtain ⟨vp1, vr1, vb1, rfl, hp1, hr1, hb1⟩ := Q1B he1; (first | (refine zv hS ?_) | (refine zvk hS ?_)); refine Qb hS ?_; intro p4 w1 hS; refine zsn hS ?_; intro w1 hS; have hS := hS.ns; refine zn ?_; have hsx := hsf x1 (List.mem_of_getElem? hx1); have hlb := hb1.len; have hlr := hr1.len; refine Q0 ?_; refine Q0 ?_; refine Q1 ?_; refine Q2 rfl ?_; refine zl hS ?_)
    all_goals (first | (refine Q26 ?_) | (refine Q27 ?_) | (refine QR rfl rfl (fun hc => ?_) (fun hc => ?_)))
    all_goals (refine zm ?_; (first | refine s_gn rfl rfl ?_ | (refine s_gy rfl ?_; refine Q2 rfl ?_)); (first | refine s_gn rfl rfl ?_ | (refine s_gy rfl ?_; refine zl hS ?_)))
    all_goals (first | refine s_gn rfl rfl ?_ | (refine s_gy rfl ?_; (first | (refine QQ ?_) | (refine Q11 ?_) | (refine Qr rfl rfl (fun hc => ?_) (fun hc => ?_)))))
    all_goals ((first | (refine zpt ?_) | (refine zpf ?_)); refine zn ?_)
    all_goals
      first
      | (refine Q4 rfl ?_ -- QJ c2
         all_goals (refine Q0 ?_; refine Q1 ?_; refine zm ?_; refine zR1 (c := Q6p f (by omega) hS) (h := ?_); rintro v1 w1 ⟨rfl, hS⟩; refine zR2 (c := rF_c hS) (h := ?_); rintro v1 w1 ⟨rfl, hS⟩; refine zsn hS ?_; intro w1 hS; have hS := hS.ns; refine zn ?_; refine zr ?_; refine Q1G vw (Qa (n := 2) (by kernel_rfl) (by kernel_rfl) (hS.blkAt fd) (by rfl) (by rfl)) ?_)
         all_goals (first | (refine ⟨_, rfl, ?_, hS.sp⟩; rw [if_pos (by omega), Q62 (by rw [Q3p]; decide), Qat (by decide)]; rfl; done) | (refine ⟨_, rfl, ?_, hS.sp⟩; rw [if_neg (by omega), Q2e, Q2d Qk, hd, Q6 hx1]; rw [Qg (by rw [QV (c := 1) (by unfold Qz; rw [if_pos (by omega)]) (by decide)]; simp), QV (c := 1) (by unfold Qz; rw [if_pos (by omega)]) (by decide)]; rfl; done)))
      | (refine Q5 rfl ?_ -- QJ c2
         all_goals refine zsk ?_)
    all_goals (refine Q0 ?_; refine Q0 ?_; refine Q1 ?_; refine Q2 rfl ?_; refine zl hS ?_; refine Q2 rfl ?_; refine zl hS ?_; refine zR2 (c := Qld hp1 hS) (h := ?_); rintro v1 w1 ⟨rfl, hS⟩; refine zm ?_; refine zn ?_; refine Q0 ?_; refine Q1 ?_; refine zm ?_)
    all_goals (first | (refine Q12 ?_) | (refine Q18 ?_) | (refine Qx rfl rfl (fun hc => ?_) (fun hc => ?_)))
    all_goals (refine zn ?_)
    all_goals
      first
      | (refine Q4 rfl ?_ -- QJ c3
         all_goals (refine Q0 ?_; refine Q1 ?_; refine zm ?_; refine zm ?_; refine zR1 (c := Q6p f (by omega) hS) (h := ?_); rintro v1 w1 ⟨rfl, hS⟩; refine zR2 (c := rF_c hS) (h := ?_); rintro v1 w1 ⟨rfl, hS⟩; refine zsn hS ?_; intro w1 hS; have hS := hS.ns; refine zn ?_; refine zr ?_; refine Q1G vw (Qa (n := 2) (by kernel_rfl) (by kernel_rfl) (hS.blkAt fd) (by rfl) (by rfl)) ?_)
         all_goals (first | (refine ⟨_, rfl, ?_, hS.sp⟩; rw [if_pos (by omega), Q62 (by rw [Q3p]; decide), Qat (by decide)]; rfl; done) | (refine ⟨_, rfl, ?_, hS.sp⟩; rw [if_neg (by omega), Q2e, Q2d Qk, hd, Q6 hx1]; rw [Qg (by rw [QV (c := 1) (by unfold Qz; rw [if_pos (by omega)]) (by decide)]; simp), QV (c := 1) (by unfold Qz; rw [if_pos (by omega)]) (by decide)]; rfl; done) | (refine ⟨_, rfl, ?_, hS.sp⟩; have e := QV (n := m.funcs.length) (f := f) (x := x1) (c := Qu x1.params x1.regs) (by unfold Qz; rw [if_neg (by omega), if_pos (by assumption)]) (by assumption); rw [if_neg (by omega), Q2e, Q2d Qk, hd, Q6 hx1, Qg (by rw [e]; assumption), e]; rfl; done)))
      | (refine Q5 rfl ?_ -- QJ c3
         all_goals refine zsk ?_)
    all_goals (refine Q0 ?_; refine Q0 ?_; refine Q1 ?_; refine Q2 rfl ?_; refine zl hS ?_; refine Q2 rfl ?_; refine zl hS ?_; refine zR2 (c := Qld hr1 hS) (h := ?_); rintro v1 w1 ⟨rfl, hS⟩; refine zm ?_; refine zn ?_; refine Q0 ?_; refine Q1 ?_; refine zm ?_)
    all_goals (first | (refine Q12 ?_) | (refine Q18 ?_) | (refine Qx rfl rfl (fun hc => ?_) (fun hc => ?_)))
    all_goals (refine zn ?_)
    all_goals
      first
      | (refine Q4 rfl ?_ -- QJ c4
         all_goals (refine Q0 ?_; refine Q1 ?_; refine zm ?_; refine zm ?_; refine zR1 (c := Q6p f (by omega) hS) (h := ?_); rintro v1 w1 ⟨rfl, hS⟩; refine zR2 (c := rF_c hS) (h := ?_); rintro v1 w1 ⟨rfl, hS⟩; refine zsn hS ?_; intro w1 hS; have hS := hS.ns; refine zn ?_; refine zr ?_; refine Q1G vw (Qa (n := 2) (by kernel_rfl) (by kernel_rfl) (hS.blkAt fd) (by rfl) (by rfl)) ?_)
         all_goals (first | (refine ⟨_, rfl, ?_, hS.sp⟩; rw [if_pos (by omega), Q62 (by rw [Q3p]; decide), Qat (by decide)]; rfl; done) | (refine ⟨_, rfl, ?_, hS.sp⟩; rw [if_neg (by omega), Q2e, Q2d Qk, hd, Q6 hx1]; rw [Qg (by rw [QV (c := 1) (by unfold Qz; rw [if_pos (by omega)]) (by decide)]; simp), QV (c := 1) (by unfold Qz; rw [if_pos (by omega)]) (by decide)]; rfl; done) | (refine ⟨_, rfl, ?_, hS.sp⟩; have e := QV (n := m.funcs.length) (f := f) (x := x1) (c := Qu x1.params x1.regs) (by unfold Qz; rw [if_neg (by omega), if_pos (by assumption)]) (by assumption); rw [if_neg (by omega), Q2e, Q2d Qk, hd, Q6 hx1, Qg (by rw [e]; assumption), e]; rfl; done) | (refine ⟨_, rfl, ?_, hS.sp⟩; have e := QV (n := m.funcs.length) (f := f) (x := x1) (c := Qu x1.results x1.regs) (by unfold Qz; rw [if_neg (by omega), if_neg (by assumption), if_pos (by assumption)]) (by assumption); rw [if_neg (by omega), Q2e, Q2d Qk, hd, Q6 hx1, Qg (by rw [e]; assumption), e]; rfl; done)))
      | (refine Q5 rfl ?_ -- QJ c4
         all_goals refine zsk ?_)
    refine zML hS [1, 2, 3, 4] (fun A LL ρ' w' => Has ρ' A ∧ Has ρ' [] ∧ (¬ (x1.regs < 0 ∨ 6 < x1.regs)) ∧ (¬ Qu x1.params x1.regs ≠ 0) ∧ (¬ Qu x1.results x1.regs ≠ 0) ∧ (¬ (x1.blocks.length < 1 ∨ 12 < x1.blocks.length)) ∧ St cx w' (LL)) ?_ ?_
    · skip
      all_goals (refine Q0 ?_; refine Q1 ?_; refine Q2 rfl ?_; refine zl hS ?_; refine zL ?_)
      all_goals (first | (refine Q26 ?_) | (refine Q27 ?_) | (refine QR rfl rfl (fun hc => ?_) (fun hc => ?_)))
      all_goals (refine zm ?_; (first | refine s_gn rfl rfl ?_ | (refine s_gy rfl ?_; refine Q2 rfl ?_)); (first | refine s_gn rfl rfl ?_ | (refine s_gy rfl ?_; refine zl hS ?_)); (first | refine s_gn rfl rfl ?_ | (refine s_gy rfl ?_; refine zL ?_)))
      all_goals (first | refine s_gn rfl rfl ?_ | (refine s_gy rfl ?_; (first | (refine QQ ?_) | (refine Q11 ?_) | (refine Qr rfl rfl (fun hc => ?_) (fun hc => ?_)))))
      all_goals ((first | (refine zpt ?_) | (refine zpf ?_)); refine zn ?_)
      all_goals
        first
        | (refine Q4 rfl ?_ -- QJ c5
           all_goals (refine Q0 ?_; refine Q1 ?_; refine zm ?_; refine zR1 (c := Q6p f (by omega) hS) (h := ?_); rintro v1 w1 ⟨rfl, hS⟩; refine zR2 (c := rF_c hS) (h := ?_); rintro v1 w1 ⟨rfl, hS⟩; refine zsn hS ?_; intro w1 hS; have hS := hS.ns; refine zn ?_; refine zr ?_; refine Q1G vw (Qa (n := 2) (by kernel_rfl) (by kernel_rfl) (hS.blkAt fd) (by rfl) (by rfl)) ?_)
           all_goals (first | (refine ⟨_, rfl, ?_, hS.sp⟩; rw [if_pos (by omega), Q62 (by rw [Q3p]; decide), Qat (by decide)]; rfl; done) | (refine ⟨_, rfl, ?_, hS.sp⟩; rw [if_neg (by omega), Q2e, Q2d Qk, hd, Q6 hx1]; rw [Qg (by rw [QV (c := 1) (by unfold Qz; rw [if_pos (by omega)]) (by decide)]; simp), QV (c := 1) (by unfold Qz; rw [if_pos (by omega)]) (by decide)]; rfl; done) | (refine ⟨_, rfl, ?_, hS.sp⟩; have e := QV (n := m.funcs.length) (f := f) (x := x1) (c := Qu x1.params x1.regs) (by unfold Qz; rw [if_neg (by omega), if_pos (by assumption)]) (by assumption); rw [if_neg (by omega), Q2e, Q2d Qk, hd, Q6 hx1, Qg (by rw [e]; assumption), e]; rfl; done) | (refine ⟨_, rfl, ?_, hS.sp⟩; have e := QV (n := m.funcs.length) (f := f) (x := x1) (c := Qu x1.results x1.regs) (by unfold Qz; rw [if_neg (by omega), if_neg (by assumption), if_pos (by assumption)]) (by assumption); rw [if_neg (by omega), Q2e, Q2d Qk, hd, Q6 hx1, Qg (by rw [e]; assumption), e]; rfl; done) | (refine ⟨_, rfl, ?_, hS.sp⟩; have e := QV (n := m.funcs.length) (f := f) (x := x1) (c := 2) (by unfold Qz; rw [if_neg (by omega), if_neg (by assumption), if_neg (by assumption), if_pos (by omega)]) (by decide); rw [if_neg (by omega), Q2e, Q2d Qk, hd, Q6 hx1, Qg (by rw [e]; simp), e]; rfl; done)))
        | (refine Q5 rfl ?_ -- QJ c5
           all_goals refine zsk ?_)
      all_goals (exact ⟨zh, zh, by omega, by assumption, by assumption, by omega, hS.sp⟩)
    rintro ρ w1 ⟨hA, hρ, k1, k2, k3, k4, hS⟩; obtain ⟨ρ, rfl⟩ := env2 hA hρ
    refine zML hS [1, 2, 3, 4] (fun A LL ρ' w' => Has ρ' A ∧ Has ρ' [] ∧ (Qz f x1 = 0) ∧ St cx w' (LL)) ?_ ?_
    · skip
      all_goals (refine Q0 ?_; refine Q1 ?_; refine zm ?_)
      all_goals (first | (refine Qw ?_) | (refine Qy ?_) | (refine Qj rfl rfl (fun hc => ?_) (fun hc => ?_)))
      all_goals (refine zn ?_)
      all_goals
        first
        | (refine Q4 rfl ?_ -- QJ c6
           all_goals (refine Q0 ?_; refine Q1 ?_)
           refine zKL hS 9 [1, 2, 3, 4] (fun A LL ρ' w' => ∃ (q : Bool), Has ρ' A ∧ Has ρ' [(90, .bool q)] ∧ (q = true ↔ (x1.regs = 0 ∧ x1.params.length = 0)) ∧ St cx w' (LL)) ?_ ?_
           · skip
             all_goals (refine Q2 rfl ?_; refine zl hS ?_)
             all_goals (first | (refine Qw ?_) | (refine Qy ?_) | (refine Qj rfl rfl (fun hc => ?_) (fun hc => ?_)))
             all_goals (refine zm ?_; (first | refine s_gn rfl rfl ?_ | (refine s_gy rfl ?_; refine Q2 rfl ?_)); (first | refine s_gn rfl rfl ?_ | (refine s_gy rfl ?_; refine zl hS ?_)); (first | refine s_gn rfl rfl ?_ | (refine s_gy rfl ?_; refine zL ?_)))
             all_goals (first | refine s_gn rfl rfl ?_ | (refine s_gy rfl ?_; (first | (refine Qw ?_) | (refine Qy ?_) | (refine Qj rfl rfl (fun hc => ?_) (fun hc => ?_)))))
             all_goals ((first | (refine zpt ?_) | (refine zpf ?_)); refine Q4V ?_; refine Q2f ?_)
             all_goals (first | (exact ⟨_, zh, zh, by exact ⟨fun _ => ⟨by omega, by omega⟩, fun _ => rfl⟩, hS.sp⟩) | (exact ⟨_, zh, zh, by exact ⟨fun h => Bool.noConfusion h, fun h => by omega⟩, hS.sp⟩))
           rintro ρ w1 ⟨q, hA, hρ, hq, hS⟩; obtain ⟨ρ, rfl⟩ := env2 hA hρ
           all_goals (refine zm ?_; refine zn ?_; refine Q0 ?_; refine Q0 ?_; refine Q1 ?_; refine zm ?_; refine zn ?_; refine Qh ?_)
           refine zoL hS [1, 2, 3, 4] (fun A LL ρ' w' => ∃ (i : Nat) (q : Bool), Has ρ' A ∧ Has ρ' [(7, .bool q), (8, .int .i64 i)] ∧ (i ≤ x1.results.length) ∧ (q = true ↔ (x1.regs = 0 ∧ x1.params.length = 0 ∧ ∀ t ∈ x1.results.take i, t.kind = 1)) ∧ (f = 0) ∧ St cx w' (LL)) (fun ρ' _ => (x1.results.length - iv (ρ' 8)).toNat) ?_ ?_
           · exact ⟨0, q, zh, zh, (by omega), by rw [hq]; simp, by omega, hS.sp⟩
           rintro ρ w1 ⟨i, q, hA, hρ, hi, hq2, hf0, hS⟩; obtain ⟨ρ, rfl⟩ := env2 hA hρ
           unfold Q7f
           all_goals (refine Q0 ?_; refine Q0 ?_; refine Q1 ?_; refine zm ?_; refine Q2 rfl ?_; refine zl hS ?_; refine zL ?_; refine Q1x rfl rfl ?_; refine zn ?_)
           refine QO rfl (fun hc => ?_) (fun hc => ?_)
           · skip
             all_goals (refine zsk ?_; refine Q0 ?_; refine Qh ?_)
             all_goals (cases q)
             all_goals (refine Q1 ?_; refine zm ?_; refine zm ?_; (first | refine s_gn rfl rfl ?_ | (refine s_gy rfl ?_; refine Q2 rfl ?_)); (first | refine s_gn rfl rfl ?_ | (refine s_gy rfl ?_; refine zl hS ?_)); (first | refine s_gn rfl rfl ?_ | (refine s_gy rfl ?_; refine zm ?_)); (first | refine s_gn rfl rfl ?_ | (refine s_gy rfl ?_; refine zi ?_; intro b2 o2 cs2 x2 hat2 hx2 he2; obtain ⟨vl2, rfl, hl2⟩ := Q1b he2)); (first | refine s_gn rfl rfl ?_ | (refine s_gy rfl ?_; (first | refine Q2 rfl ?_ | refine Q2b rfl ?_))); (first | refine s_gn rfl rfl ?_ | (refine s_gy rfl ?_; (first | (refine zl hS ?_) | (refine zlk hS ?_)))))
             all_goals (first | refine s_gn rfl rfl ?_ | (refine s_gy rfl ?_; (first | (refine Qw ?_) | (refine Qy ?_) | (refine Qj rfl rfl (fun hc => ?_) (fun hc => ?_)))))
             all_goals ((first | (refine zpt ?_) | (refine zpf ?_)); refine zm ?_; refine zn ?_; refine Q1 ?_; refine zm ?_; refine zad ?_; refine zm ?_; refine zn ?_)
             all_goals (first | (exact ⟨⟨i + 1, false, zh, zh, (by omega), by exact ⟨fun h => Bool.noConfusion h, fun h => hq2.2 ⟨h.1, h.2.1, fun t ht => h.2.2 t (List.mem_of_mem_take (i := i) (by rw [List.take_take, Nat.min_eq_left (by omega)]; exact ht))⟩⟩, hf0, hS.sp⟩, Q16 (by omega)⟩) | (exact ⟨⟨i + 1, true, zh, zh, (by omega), by exact ⟨fun _ => ⟨(hq2.1 rfl).1, (hq2.1 rfl).2.1, Qj0 (hq2.1 rfl).2.2 hx2 (by assumption)⟩, fun _ => rfl⟩, hf0, hS.sp⟩, Q16 (by omega)⟩) | (exact ⟨⟨i + 1, false, zh, zh, (by omega), by exact ⟨fun h => Bool.noConfusion h, fun h => absurd (h.2.2 x2 (by rw [QjW hx2]; simp)) (by assumption)⟩, hf0, hS.sp⟩, Q16 (by omega)⟩))
           · skip
             all_goals (refine zex ?_; refine Q0 ?_)
             all_goals (cases q)
             all_goals (refine Q1 ?_; refine zm ?_; refine Q1w rfl ?_; refine zn ?_)
             all_goals
               first
               | (refine Q4 rfl ?_ -- QJ c8
                  all_goals (refine Q0 ?_; refine Q1 ?_; refine zm ?_; refine zR1 (c := Q6p f (by omega) hS) (h := ?_); rintro v1 w1 ⟨rfl, hS⟩; refine zR2 (c := rF_c hS) (h := ?_); rintro v1 w1 ⟨rfl, hS⟩; refine zsn hS ?_; intro w1 hS; have hS := hS.ns; refine zn ?_; refine zr ?_; refine Q1G vw (Qa (n := 2) (by kernel_rfl) (by kernel_rfl) (hS.blkAt fd) (by rfl) (by rfl)) ?_)
                  all_goals (first | (refine ⟨_, rfl, ?_, hS.sp⟩; rw [if_pos (by omega), Q62 (by rw [Q3p]; decide), Qat (by decide)]; rfl; done) | (refine ⟨_, rfl, ?_, hS.sp⟩; rw [if_neg (by omega), Q2e, Q2d Qk, hd, Q6 hx1]; rw [Qg (by rw [QV (c := 1) (by unfold Qz; rw [if_pos (by omega)]) (by decide)]; simp), QV (c := 1) (by unfold Qz; rw [if_pos (by omega)]) (by decide)]; rfl; done) | (refine ⟨_, rfl, ?_, hS.sp⟩; have e := QV (n := m.funcs.length) (f := f) (x := x1) (c := Qu x1.params x1.regs) (by unfold Qz; rw [if_neg (by omega), if_pos (by assumption)]) (by assumption); rw [if_neg (by omega), Q2e, Q2d Qk, hd, Q6 hx1, Qg (by rw [e]; assumption), e]; rfl; done) | (refine ⟨_, rfl, ?_, hS.sp⟩; have e := QV (n := m.funcs.length) (f := f) (x := x1) (c := Qu x1.results x1.regs) (by unfold Qz; rw [if_neg (by omega), if_neg (by assumption), if_pos (by assumption)]) (by assumption); rw [if_neg (by omega), Q2e, Q2d Qk, hd, Q6 hx1, Qg (by rw [e]; assumption), e]; rfl; done) | (refine ⟨_, rfl, ?_, hS.sp⟩; have e := QV (n := m.funcs.length) (f := f) (x := x1) (c := 2) (by unfold Qz; rw [if_neg (by omega), if_neg (by assumption), if_neg (by assumption), if_pos (by omega)]) (by decide); rw [if_neg (by omega), Q2e, Q2d Qk, hd, Q6 hx1, Qg (by rw [e]; simp), e]; rfl; done) | (refine ⟨_, rfl, ?_, hS.sp⟩; have e := QV (n := m.funcs.length) (f := f) (x := x1) (c := 18) (by unfold Qz; rw [if_neg k1, if_neg k2, if_neg k3, if_neg k4, if_pos]; refine ⟨hf0, ?_⟩; rw [List.take_of_length_le (by omega)] at hq2; refine Classical.byContradiction fun h => ?_; have := hq2.2 ⟨by omega, by omega, fun t ht => Classical.byContradiction fun hk => h (.inr (.inr ⟨t, ht, hk⟩))⟩; cases this) (by decide); rw [if_neg (by omega), Q2e, Q2d Qk, hd, Q6 hx1, Qg (by rw [e]; simp), e]; rfl; done)))
               | (refine Q5 rfl ?_ -- QJ c8
                  all_goals refine zsk ?_)
             all_goals (first | (exact ⟨zh, zh, by unfold Qz; rw [if_neg k1, if_neg k2, if_neg k3, if_neg k4, if_neg (fun h => absurd h.1 (by omega))], hS.sp⟩) | (exact ⟨zh, zh, by unfold Qz; rw [if_neg k1, if_neg k2, if_neg k3, if_neg k4, if_neg]; rintro ⟨_, h⟩; obtain ⟨a1, a2, a3⟩ := hq2.1 rfl; rw [List.take_of_length_le (by omega)] at a3; rcases h with h | h | ⟨t, ht, hk⟩ <;> first | (exfalso; omega) | exact hk (a3 t ht), hS.sp⟩)))
        | (refine Q5 rfl ?_ -- QJ c6
           all_goals (refine zsk ?_)
           all_goals (exact ⟨zh, zh, by unfold Qz; rw [if_neg k1, if_neg k2, if_neg k3, if_neg k4, if_neg (fun h => absurd h.1 (by omega))], hS.sp⟩))
    rintro ρ w1 ⟨hA, hρ, hh, hS⟩; obtain ⟨ρ, rfl⟩ := env2 hA hρ
    all_goals (refine Q0 ?_; refine Q1 ?_; refine zm ?_; refine zn ?_; refine Qh ?_)
    refine zoL hS [1, 2, 3, 4] (fun A LL ρ' w' => ∃ (b : Nat), Has ρ' A ∧ Has ρ' [(9, .int .i64 b)] ∧ (b ≤ x1.blocks.length) ∧ (QN m.funcs.length f x1 0 x1.blocks = QN m.funcs.length f x1 b (x1.blocks.drop b)) ∧ St cx w' (LL)) (fun ρ' _ => (x1.blocks.length - iv (ρ' 9)).toNat) ?_ ?_
    · exact ⟨0, zh, zh, (by omega), by simp, hS.sp⟩
    rintro ρ w1 ⟨b, hA, hρ, hb, hd2, hS⟩; obtain ⟨ρ, rfl⟩ := env2 hA hρ
    unfold Q7e
    all_goals (refine Q0 ?_; refine Q0 ?_; refine Q1 ?_; refine zm ?_; refine Q2 rfl ?_; refine zl hS ?_; refine zL ?_; refine Q1x rfl rfl ?_; refine zn ?_)
    refine QO rfl (fun hc => ?_) (fun hc => ?_)
    · skip
      all_goals (refine zsk ?_; refine Q0 ?_; refine Qh ?_; refine Q0 ?_; obtain ⟨y, hy⟩ : ∃ y, x1.blocks[b]? = some y := ⟨_, List.getElem?_eq_getElem (by omega)⟩; have hsy := hsx.2.2.2 y (List.mem_of_getElem? hy); refine Q1 ?_; refine zv hS ?_; refine zm ?_; refine zm ?_; refine zR3 (c := rblock_c hx1 hy (by omega) (by omega) hsy.2.1 hm' hS) (h := ?_); rintro v1 w1 ⟨rfl, hS⟩; unfold fltV; refine Qb hS ?_; intro p10 w1 hS; refine zsn hS ?_; intro w1 hS; have hS := hS.ns; refine zn ?_; refine Q0 ?_; refine Q1 ?_; refine Q2 rfl ?_; refine zl hS ?_)
      all_goals (first | (refine Q12 ?_) | (refine Q18 ?_) | (refine Qx rfl rfl (fun hc => ?_) (fun hc => ?_)))
      all_goals (refine zn ?_)
      all_goals
        first
        | (refine Q4 rfl ?_ -- QJ c10
           all_goals (refine Q0 ?_; refine Q1 ?_; refine zv hS ?_; refine zsn hS ?_; intro w1 hS; have hS := hS.ns; refine zn ?_; refine zr ?_; refine Q1G vw (Qa (n := 2) (by kernel_rfl) (by kernel_rfl) (hS.blkAt fd) (by rfl) (by rfl)) ?_)
           all_goals (first | (refine ⟨_, rfl, ?_, hS.sp⟩; rw [if_pos (by omega), Q62 (by rw [Q3p]; decide), Qat (by decide)]; rfl; done) | (refine ⟨_, rfl, ?_, hS.sp⟩; rw [if_neg (by omega), Q2e, Q2d Qk, hd, Q6 hx1]; rw [Qg (by rw [QV (c := 1) (by unfold Qz; rw [if_pos (by omega)]) (by decide)]; simp), QV (c := 1) (by unfold Qz; rw [if_pos (by omega)]) (by decide)]; rfl; done) | (refine ⟨_, rfl, ?_, hS.sp⟩; have e := QV (n := m.funcs.length) (f := f) (x := x1) (c := Qu x1.params x1.regs) (by unfold Qz; rw [if_neg (by omega), if_pos (by assumption)]) (by assumption); rw [if_neg (by omega), Q2e, Q2d Qk, hd, Q6 hx1, Qg (by rw [e]; assumption), e]; rfl; done) | (refine ⟨_, rfl, ?_, hS.sp⟩; have e := QV (n := m.funcs.length) (f := f) (x := x1) (c := Qu x1.results x1.regs) (by unfold Qz; rw [if_neg (by omega), if_neg (by assumption), if_pos (by assumption)]) (by assumption); rw [if_neg (by omega), Q2e, Q2d Qk, hd, Q6 hx1, Qg (by rw [e]; assumption), e]; rfl; done) | (refine ⟨_, rfl, ?_, hS.sp⟩; have e := QV (n := m.funcs.length) (f := f) (x := x1) (c := 2) (by unfold Qz; rw [if_neg (by omega), if_neg (by assumption), if_neg (by assumption), if_pos (by omega)]) (by decide); rw [if_neg (by omega), Q2e, Q2d Qk, hd, Q6 hx1, Qg (by rw [e]; simp), e]; rfl; done) | (refine ⟨_, rfl, ?_, hS.sp⟩; have e := QV (n := m.funcs.length) (f := f) (x := x1) (c := 18) (by unfold Qz; rw [if_neg k1, if_neg k2, if_neg k3, if_neg k4, if_pos]; refine ⟨hf0, ?_⟩; rw [List.take_of_length_le (by omega)] at hq2; refine Classical.byContradiction fun h => ?_; have := hq2.2 ⟨by omega, by omega, fun t ht => Classical.byContradiction fun hk => h (.inr (.inr ⟨t, ht, hk⟩))⟩; cases this) (by decide); rw [if_neg (by omega), Q2e, Q2d Qk, hd, Q6 hx1, Qg (by rw [e]; simp), e]; rfl; done) | (refine ⟨_, rfl, ?_, hS.sp⟩; have e : (QL m.funcs.length f x1 b y).1 ≠ 0 := (by assumption); have e2 : Q24 m.funcs.length f x1 = QL m.funcs.length f x1 b y := (by rw [QdX hh, hd2, Q6 hy, Q5e e]); rw [if_neg (by omega), Q2e, Q2d Qk, hd, Q6 hx1, Qg (by rw [e2]; exact e), e2]; rfl; done)))
        | (refine Q5 rfl ?_ -- QJ c10
           all_goals refine zsk ?_)
      all_goals (refine Q1 ?_; refine zm ?_; refine zad ?_; refine zm ?_; refine zn ?_; exact ⟨⟨b + 1, zh, zh, (by omega), by rw [hd2, Q6 hy, QcB (by omega)], hS.sp⟩, Q16 (by omega)⟩)
    · skip
      all_goals (refine zex ?_; refine Q1 ?_; refine zm ?_; refine zad ?_; refine zm ?_; refine zn ?_; exact ⟨⟨f + 1, zh, zh, (by omega), by rw [hd, Q6 hx1, QfS]; rw [QdX hh, hd2, List.drop_of_length_le (by omega)]; rfl, hS.sp⟩, Q16 (by omega)⟩)
  · skip
    all_goals (refine zex ?_; refine Q0 ?_; refine Q1 ?_; refine zb0 [_, _] ?_; refine zsn hS ?_; intro w1 hS; have hS := hS.ns; refine zn ?_; refine zr ?_; refine Q1G vw (Qa (n := 2) (by kernel_rfl) (by kernel_rfl) (hS.blkAt fd) (by rfl) (by rfl)) ?_)
    all_goals (first | (refine ⟨_, rfl, ?_, hS.sp⟩; rw [if_pos (by omega), Q62 (by rw [Q3p]; decide), Qat (by decide)]; rfl; done) | (refine ⟨_, rfl, ?_, hS.sp⟩; rw [if_neg (by omega), Q2e, Q2d Qk, hd, Q6 hx1]; rw [Qg (by rw [QV (c := 1) (by unfold Qz; rw [if_pos (by omega)]) (by decide)]; simp), QV (c := 1) (by unfold Qz; rw [if_pos (by omega)]) (by decide)]; rfl; done) | (refine ⟨_, rfl, ?_, hS.sp⟩; have e := QV (n := m.funcs.length) (f := f) (x := x1) (c := Qu x1.params x1.regs) (by unfold Qz; rw [if_neg (by omega), if_pos (by assumption)]) (by assumption); rw [if_neg (by omega), Q2e, Q2d Qk, hd, Q6 hx1, Qg (by rw [e]; assumption), e]; rfl; done) | (refine ⟨_, rfl, ?_, hS.sp⟩; have e := QV (n := m.funcs.length) (f := f) (x := x1) (c := Qu x1.results x1.regs) (by unfold Qz; rw [if_neg (by omega), if_neg (by assumption), if_pos (by assumption)]) (by assumption); rw [if_neg (by omega), Q2e, Q2d Qk, hd, Q6 hx1, Qg (by rw [e]; assumption), e]; rfl; done) | (refine ⟨_, rfl, ?_, hS.sp⟩; have e := QV (n := m.funcs.length) (f := f) (x := x1) (c := 2) (by unfold Qz; rw [if_neg (by omega), if_neg (by assumption), if_neg (by assumption), if_pos (by omega)]) (by decide); rw [if_neg (by omega), Q2e, Q2d Qk, hd, Q6 hx1, Qg (by rw [e]; simp), e]; rfl; done) | (refine ⟨_, rfl, ?_, hS.sp⟩; have e := QV (n := m.funcs.length) (f := f) (x := x1) (c := 18) (by unfold Qz; rw [if_neg k1, if_neg k2, if_neg k3, if_neg k4, if_pos]; refine ⟨hf0, ?_⟩; rw [List.take_of_length_le (by omega)] at hq2; refine Classical.byContradiction fun h => ?_; have := hq2.2 ⟨by omega, by omega, fun t ht => Classical.byContradiction fun hk => h (.inr (.inr ⟨t, ht, hk⟩))⟩; cases this) (by decide); rw [if_neg (by omega), Q2e, Q2d Qk, hd, Q6 hx1, Qg (by rw [e]; simp), e]; rfl; done) | (refine ⟨_, rfl, ?_, hS.sp⟩; have e : (QL m.funcs.length f x1 b y).1 ≠ 0 := (by assumption); have e2 : Q24 m.funcs.length f x1 = QL m.funcs.length f x1 b y := (by rw [QdX hh, hd2, Q6 hy, Q5e e]); rw [if_neg (by omega), Q2e, Q2d Qk, hd, Q6 hx1, Qg (by rw [e2]; exact e), e2]; rfl; done) | (refine ⟨_, rfl, ?_, hS.sp⟩; rw [if_neg (by omega), Q2e, Q2d Qk, hd, List.drop_of_length_le (l := m.funcs) (by omega), Q1A]; rfl; done))
theorem kindne_c {t : Ty} {cs : List Value} (ht : tyR.at cx cs t) (hS : St cx w L) : Rets Tryz.prog Q45 [.agg ⟨cs⟩] w fun u w' => u = .bool (decide (t.kind ≠ 1)) ∧ St cx w' L := by
  obtain ⟨v, rfl, hl⟩ := Q1b ht
  all_goals refine Qe5 ?_
  all_goals (unfold code_Check_1_lc; refine Q0 ?_; refine Q1 ?_; refine zb hS ?_; intro p1 w1 hS; refine zm ?_; refine zn ?_; refine Q0 ?_; refine Q1 ?_; refine Q2 rfl ?_; refine zl hS ?_; refine Q9e rfl rfl ?_; refine zm ?_; refine zn ?_; refine zr ?_; refine zf ?_; refine ⟨_, rfl, ?_, hS.sp⟩; (rfl); done)
theorem pcont_c {l : List Ty} {v : Value} (hl : tyR.sl cx v l) (hS : St cx w L) : Rets Tryz.prog Q1s [v, .func (.func Q45) #[] #[]] w fun u w' => ∃ q, u = .bool q ∧ (q = true ↔ ∃ t ∈ l, t.kind ≠ 1) ∧ St cx w' L := by
  have hlen := hl.len
  have hidx : ∀ {w : World} {L : List Res}, St cx w L → Rets Tryz.prog QI [v, .func (.func Q45) #[] #[]] w fun u w' => ∃ r : Int, u = .int .i64 r ∧ (0 ≤ r ↔ ∃ t ∈ l, t.kind ≠ 1) ∧ St cx w' L := by
    intro w L hS
    all_goals refine Q2w ?_
    all_goals (unfold slices_IndexFunc_api_Type_api_Type_lc; refine Q0 ?_; refine Q1 ?_; refine zm ?_; refine zn ?_; refine Q0 ?_; refine Q0 ?_; refine Q1 ?_; refine zm ?_; refine zL ?_; refine zm ?_; refine zn ?_; refine Qh ?_)
    refine zoL hS [0, 1, 7] (fun A LL ρ' w' => ∃ (j : Nat), Has ρ' A ∧ Has ρ' [(8, .int .i64 j)] ∧ (j ≤ l.length) ∧ (∀ t ∈ l.take j, t.kind = 1) ∧ St cx w' (LL)) (fun ρ' _ => (l.length - iv (ρ' 8)).toNat) ?_ ?_
    · exact ⟨0, zh, zh, (by omega), by simp, hS.sp⟩
    rintro ρ w1 ⟨j, hA, hρ, hj, hd, hS⟩; obtain ⟨ρ, rfl⟩ := env2 hA hρ
    unfold Q1r
    all_goals (refine Q0 ?_; refine Q1 ?_; refine Q1x rfl rfl ?_; refine zn ?_; refine Q0 ?_)
    refine QO rfl (fun hc => ?_) (fun hc => ?_)
    · skip
      all_goals (refine zsk ?_; refine Q0 ?_; refine Qh ?_; refine Q0 ?_; refine Q1 ?_; refine zm ?_; refine zm ?_; refine zn ?_; refine Q0 ?_; refine Q1 ?_; refine zm ?_; refine zm ?_; refine zm ?_; refine zi ?_; intro b1 o1 cs1 x1 hat1 hx1 he1; obtain ⟨vl1, rfl, hl1⟩ := Q1b he1; (first | (refine zv hS ?_) | (refine zvk hS ?_)))
      all_goals (refine QnI rfl (by kernel_rfl) (by rfl) (kindne_c he1 hS) ?_; rintro v1 w1 ⟨rfl, hS⟩; (cases hdec : decide (x1.kind ≠ 1)); have hg := of_decide_eq_false hdec; rotate_left; have hg := of_decide_eq_true hdec; all_goals skip)
      all_goals (refine zn ?_)
      all_goals
        first
        | (refine Q4 rfl ?_ -- QI c1
           all_goals (refine Q0 ?_; refine Q1 ?_; refine zm ?_; refine zm ?_; refine zn ?_; refine zr ?_; refine zf ?_)
           all_goals (exact ⟨_, rfl, j, rfl, ⟨fun _ => ⟨x1, List.mem_of_getElem? hx1, hg⟩, fun _ => by omega⟩, hS.sp⟩))
        | (refine Q5 rfl ?_ -- QI c1
           all_goals refine zsk ?_)
      all_goals (refine Q1 ?_; refine zad ?_; refine zm ?_; refine zn ?_; exact ⟨⟨j + 1, zh, zh, (by omega), Qj0 hd hx1 (Classical.not_not.1 hg), hS.sp⟩, Q16 (by omega)⟩)
    · skip
      all_goals (refine zex ?_; refine Q0 ?_; refine Q1 ?_; refine zm ?_; refine zn ?_; refine zr ?_; refine zf ?_)
      all_goals (first | (exact ⟨_, rfl, j, rfl, ⟨fun _ => ⟨x1, List.mem_of_getElem? hx1, hg⟩, fun _ => by omega⟩, hS.sp⟩) | (exact ⟨_, rfl, -1, rfl, ⟨fun h => by omega, fun ⟨t, ht, hk⟩ => absurd (all_take hd (by omega) t ht) hk⟩, hS.sp⟩))
  all_goals refine Q2a ?_
  all_goals (unfold slices_ContainsFunc_api_Type_api_Type_lc; refine Q0 ?_; refine Q1 ?_; refine zm ?_; refine zn ?_; refine Q0 ?_; refine Q1 ?_; refine zm ?_; refine zm ?_; refine zR2 (c := hidx hS) (h := ?_); rintro v1 w1 ⟨r, rfl, hr, hS⟩)
  all_goals (first | (refine Qb5 ?_) | (refine Qb6 ?_) | (refine Q3d rfl rfl (fun hc => ?_) (fun hc => ?_)))
  all_goals (refine zm ?_; refine zn ?_; refine zr ?_; refine zf ?_)
  all_goals (first | (exact ⟨_, rfl, _, rfl, ⟨fun _ => hr.1 (by omega), fun _ => rfl⟩, hS.sp⟩) | (exact ⟨_, rfl, _, rfl, ⟨fun h => Bool.noConfusion h, fun h => by have := hr.2 h; omega⟩, hS.sp⟩))
theorem QoZ {g : Flt} {a : Int} {x : Fun} {b : Nat} {y : Block} {q : Bool} (hq : q = true ↔ (b = 0 ∧ (y.regs ≠ x.regs ∨ y.params ≠ x.params))) :
    orF (orF (orF (orF g (mkF (if y.regs < x.regs ∨ 16 < y.regs then 1 else 0) a)) (mkF (Qu y.params y.regs) a)) (mkF (if q = true then 9 else 0) a)) (mkF (if 40 < y.code.length then 2 else 0) a) = orF g (mkF (Qt x b y) a) := by
  rw [Q2W, Q2W, Q2W]
  congr 2
  unfold Qt
  by_cases h0 : y.regs < x.regs ∨ 16 < y.regs
  · rw [if_pos h0, if_pos h0]; simp only [Q70 (show (1 : Int) ≠ 0 by decide)]
  · rw [if_neg h0, if_neg h0, Q63]
    by_cases h : Qu y.params y.regs ≠ 0
    · rw [if_pos h]; simp only [Q70 h]
    · rw [if_neg h, Classical.not_not.1 h, Q63]
      by_cases hb : b = 0 ∧ (y.regs ≠ x.regs ∨ y.params ≠ x.params)
      · rw [if_pos hb, if_pos (hq.2 hb)]; simp only [Q70 (show (9 : Int) ≠ 0 by decide)]
      · rw [if_neg hb, if_neg (fun h => hb (hq.1 h)), Q63]
theorem pblock_c {fs : List Fun} {f b : Nat} {x : Fun} {y : Block} {vf : Value} {g : Flt} {a : Int} {p : Nat} (hxf : fs[f]? = some x) (hyb : x.blocks[b]? = some y) (hf0 : f ≤ 1000000) (hb0 : b ≤ 1000000) (hlc : y.code.length ≤ 100000) (hf : funcR.sl cx vf fs) (hS : St cx w L) (hi : nth L i = some (jdg p vf g a)) :
    Rets Tryz.prog Q2G [.pointer (some ⟨p, 0, none⟩), .int .i64 f, .int .i64 b] w fun u w' => u = .tuple #[] ∧ ∃ a', St cx w' (L.set i (jdg p vf (orF g (QL fs.length f x b y)) a')) := by
  have hflt := (List.getElem?_eq_some_iff.1 hxf).1
  have hblt := (List.getElem?_eq_some_iff.1 hyb).1
  have hS := hS.out hi
  all_goals refine Q9Z ?_
  all_goals (unfold code_judge_block_lc; refine Q0 ?_; refine Q1 ?_; refine zm ?_; refine Qn rfl ?_; refine Q2 rfl ?_; refine Q2 rfl ?_; refine zl hS ?_; refine zm ?_; refine zi ?_; intro b1 o1 cs1 x1 hat1 hx1 he1; obtain ⟨vp1, vr1, vb1, rfl, hp1, hr1, hb1⟩ := Q1B he1; (first | (refine zv hS ?_) | (refine zvk hS ?_)); refine Qb hS ?_; intro p6 w1 hS; refine zsn hS ?_; intro w1 hS; have hS := hS.ns; refine zn ?_; have e1 : x = x1 := Option.some.inj (hxf.symm.trans hx1); subst e1; refine Q0 ?_; refine Q1 ?_; refine Q2 rfl ?_; refine zl hS ?_; refine zm ?_; refine zi ?_; intro b2 o2 cs2 x2 hat2 hx2 he2; obtain ⟨vp2, vc2, ve21, ve22, ve23, ve24, ve25, rfl, hp2, hc2, he21, he22, he23, he24, he25⟩ := Q1X he2; (first | (refine zv hS ?_) | (refine zvk hS ?_)); refine Qb hS ?_; intro p7 w1 hS; refine zsn hS ?_; intro w1 hS; have hS := hS.ns; refine zn ?_; have e2 : y = x2 := Option.some.inj (hyb.symm.trans hx2); subst e2)
  refine zM [0, 1, 2, 6, 7] (fun A ρ' w' => Has ρ' A ∧ Has ρ' [] ∧ St cx w' (blk p7 52 [.int .i64 y.regs, vp2, vc2, .int .i64 y.fin.op, .int .i64 y.fin.a, .int .i64 y.fin.yes.block, ve21, ve22, .int .i64 y.fin.no.block, ve23, ve24, ve25] :: blk p6 43 [.int .i64 x.regs, vp1, vr1, vb1] :: jdg p vf g (Q3f f b) :: L.eraseIdx i)) ?_ ?_
  · skip
    all_goals (refine Q1 ?_; refine zm ?_; refine zm ?_; refine zm ?_; refine zR2 (c := QmZ f b hf0 hb0 hS) (h := ?_); rintro v1 w1 ⟨rfl, hS⟩; refine Qn rfl ?_; refine Q2 rfl ?_; refine zst hS ?_; intro w1 hS; have hS := hS.ns; refine zn ?_; exact ⟨zh, zh, hS.sp⟩)
  rintro ρ w1 ⟨hA, hρ, hS⟩; obtain ⟨ρ, rfl⟩ := env2 hA hρ
  refine zM [0, 1, 2, 6, 7] (fun A ρ' w' => Has ρ' A ∧ Has ρ' [] ∧ St cx w' (blk p7 52 [.int .i64 y.regs, vp2, vc2, .int .i64 y.fin.op, .int .i64 y.fin.a, .int .i64 y.fin.yes.block, ve21, ve22, .int .i64 y.fin.no.block, ve23, ve24, ve25] :: blk p6 43 [.int .i64 x.regs, vp1, vr1, vb1] :: jdg p vf (orF g (mkF (if y.regs < x.regs ∨ 16 < y.regs then 1 else 0) (Q3f f b))) (Q3f f b) :: L.eraseIdx i)) ?_ ?_
  · skip
    all_goals (refine Q1 ?_; refine zm ?_; refine Q2 rfl ?_; refine zl hS ?_; refine Q2 rfl ?_; refine zl hS ?_)
    all_goals (first | (refine Q26 ?_) | (refine Q27 ?_) | (refine QR rfl rfl (fun hc => ?_) (fun hc => ?_)))
    all_goals (refine zm ?_; (first | refine s_gn rfl rfl ?_ | (refine s_gy rfl ?_; refine Q2 rfl ?_)); (first | refine s_gn rfl rfl ?_ | (refine s_gy rfl ?_; refine zl hS ?_)))
    all_goals (first | refine s_gn rfl rfl ?_ | (refine s_gy rfl ?_; (first | (refine QQ ?_) | (refine Q11 ?_) | (refine Qr rfl rfl (fun hc => ?_) (fun hc => ?_)))))
    all_goals ((first | (refine zpt ?_) | (refine zpf ?_)); refine zR3 (c := Q2n (g := _) (by intro _; decide) hS fd) (h := ?_); rintro v1 w1 ⟨rfl, hS⟩; simp only [List.set_cons_zero, List.set_cons_succ, if_true, Bool.false_eq_true, if_false] at hS; refine zn ?_; exact ⟨zh, zh, by first | (rw [if_pos (by omega)]; exact hS.sp) | (rw [if_neg (by omega)]; exact hS.sp)⟩)
  rintro ρ w1 ⟨hA, hρ, hS⟩; obtain ⟨ρ, rfl⟩ := env2 hA hρ
  all_goals (refine Q0 ?_; refine Q1 ?_; refine zm ?_; refine Q2 rfl ?_; refine zl hS ?_; refine Q2 rfl ?_; refine zl hS ?_; refine zR3 (c := Qlh hp2 hS fd) (h := ?_); rintro v1 w1 ⟨rfl, hS⟩; have hS := hS.ns; refine zn ?_; refine Q0 ?_; refine Q1 ?_)
  refine zKL hS 18 [0, 1, 2, 6, 7] (fun A LL ρ' w' => ∃ (q : Bool), Has ρ' A ∧ Has ρ' [(46, .pointer (some ⟨p, 0, none⟩)), (63, .bool q)] ∧ (q = true ↔ (b = 0 ∧ (y.regs ≠ x.regs ∨ y.params ≠ x.params))) ∧ St cx w' (LL)) ?_ ?_
  · skip
    all_goals (refine zm ?_; refine zm ?_)
    all_goals (first | (refine Qw ?_) | (refine Qy ?_) | (refine Qj rfl rfl (fun hc => ?_) (fun hc => ?_)))
    all_goals (refine zm ?_; (first | refine s_gn rfl rfl ?_ | (refine s_gy rfl ?_; refine Q2 rfl ?_)); (first | refine s_gn rfl rfl ?_ | (refine s_gy rfl ?_; refine zl hS ?_)); (first | refine s_gn rfl rfl ?_ | (refine s_gy rfl ?_; refine Q2 rfl ?_)); (first | refine s_gn rfl rfl ?_ | (refine s_gy rfl ?_; refine zl hS ?_)))
    all_goals (first | refine s_gn rfl rfl ?_ | (refine s_gy rfl ?_; (first | (refine Q12 ?_) | (refine Q18 ?_) | (refine Qx rfl rfl (fun hc => ?_) (fun hc => ?_)))))
    all_goals ((first | refine s_gn rfl rfl ?_ | (refine s_gy rfl ?_; refine zm ?_)); (first | refine s_gn rfl rfl ?_ | (refine s_gy rfl ?_; refine Q2 rfl ?_)); (first | refine s_gn rfl rfl ?_ | (refine s_gy rfl ?_; refine zl hS ?_)); (first | refine s_gn rfl rfl ?_ | (refine s_gy rfl ?_; refine Q2 rfl ?_)); (first | refine s_gn rfl rfl ?_ | (refine s_gy rfl ?_; refine zl hS ?_)))
    all_goals (first | refine s_gn rfl rfl ?_ | (refine s_gy rfl ?_; refine zR3 (c := eqfT_c (by kernel_rfl) (fun a _ b _ {_ _ _ _} h1 h2 h3 => psame_c a b h1 h2 h3) hp2 hp1 hS) (h := ?_); rintro v1 w1 ⟨rfl, hS⟩; (cases hdec : decide (y.params = x.params)); have hg := of_decide_eq_false hdec; rotate_left; have hg := of_decide_eq_true hdec; all_goals skip))
    all_goals ((first | refine s_gn rfl rfl ?_ | (refine s_gy rfl ?_; refine Q1w rfl ?_)); (first | refine s_gn rfl rfl ?_ | (refine s_gy rfl ?_; (first | (refine zpt ?_) | (refine zpf ?_)))); (first | (refine zpt ?_) | (refine zpf ?_)); refine Q4V ?_; refine Q2f ?_)
    all_goals (first | (exact ⟨_, zh, zh, by exact ⟨fun _ => ⟨by omega, .inl (by assumption)⟩, fun _ => rfl⟩, hS.sp⟩) | (exact ⟨_, zh, zh, by exact ⟨fun _ => ⟨by omega, .inr (by assumption)⟩, fun _ => rfl⟩, hS.sp⟩) | (exact ⟨_, zh, zh, by exact ⟨fun h => Bool.noConfusion h, fun h => absurd h.1 (by omega)⟩, hS.sp⟩) | (exact ⟨_, zh, zh, by exact ⟨fun h => Bool.noConfusion h, fun h => h.2.elim (fun h => absurd h (by assumption)) (fun h => absurd (by assumption) h)⟩, hS.sp⟩))
  rintro ρ w1 ⟨q, hA, hρ, hq, hS⟩; obtain ⟨ρ, rfl⟩ := env2 hA hρ
  all_goals (refine zR3 (c := Q2n (g := _) (by intro _; decide) hS fd) (h := ?_); rintro v1 w1 ⟨rfl, hS⟩; simp only [List.set_cons_zero, List.set_cons_succ, if_true, Bool.false_eq_true, if_false] at hS; refine zn ?_)
  refine zM [0, 1, 2, 6, 7] (fun A ρ' w' => Has ρ' A ∧ Has ρ' [] ∧ St cx w' (blk p7 52 [.int .i64 y.regs, vp2, vc2, .int .i64 y.fin.op, .int .i64 y.fin.a, .int .i64 y.fin.yes.block, ve21, ve22, .int .i64 y.fin.no.block, ve23, ve24, ve25] :: blk p6 43 [.int .i64 x.regs, vp1, vr1, vb1] :: jdg p vf (orF g (mkF (Qt x b y) (Q3f f b))) (Q3f f b) :: L.eraseIdx i)) ?_ ?_
  · skip
    all_goals (refine Q1 ?_; refine zm ?_; refine Q2 rfl ?_; refine zl hS ?_; refine zL ?_)
    all_goals (first | (refine QQ ?_) | (refine Q11 ?_) | (refine Qr rfl rfl (fun hc => ?_) (fun hc => ?_)))
    all_goals (refine zR3 (c := Q2n (g := _) (by intro _; decide) hS fd) (h := ?_); rintro v1 w1 ⟨rfl, hS⟩; simp only [List.set_cons_zero, List.set_cons_succ, if_true, Bool.false_eq_true, if_false] at hS; refine zn ?_; exact ⟨zh, zh, by rw [← QoZ hq]; first | (rw [if_pos (c := 40 < y.code.length) (by omega)]; exact hS.sp) | (rw [if_neg (c := 40 < y.code.length) (by omega)]; exact hS.sp)⟩)
  rintro ρ w1 ⟨hA, hρ, hS⟩; obtain ⟨ρ, rfl⟩ := env2 hA hρ
  all_goals (refine Q0 ?_; refine Q0 ?_; refine Q1 ?_; refine zm ?_; refine zn ?_; refine Qh ?_)
  refine zo [0, 1, 2, 6, 7] (fun A ρ' w' => ∃ (j : Nat) (h : Flt) (at2 : Int), Has ρ' A ∧ Has ρ' [(8, .int .i64 j)] ∧ (j ≤ y.code.length) ∧ (orF (orF g (mkF (Qt x b y) (Q3f f b))) (Q14 fs.length f b 0 y.code) = orF h (Q14 fs.length f b j (y.code.drop j))) ∧ St cx w' (blk p7 52 [.int .i64 y.regs, vp2, vc2, .int .i64 y.fin.op, .int .i64 y.fin.a, .int .i64 y.fin.yes.block, ve21, ve22, .int .i64 y.fin.no.block, ve23, ve24, ve25] :: blk p6 43 [.int .i64 x.regs, vp1, vr1, vb1] :: jdg p vf h at2 :: L.eraseIdx i)) (fun ρ' _ => (y.code.length - iv (ρ' 8)).toNat) ?_ ?_
  · exact ⟨0, _, _, zh, zh, (by omega), by rw [List.drop_zero], hS.sp⟩
  rintro ρ w1 ⟨j, h, at2, hA, hρ, hj, hd, hS⟩; obtain ⟨ρ, rfl⟩ := env2 hA hρ
  unfold Q3R
  all_goals (refine Q0 ?_; refine Q0 ?_; refine Q1 ?_; refine zm ?_; refine Q2 rfl ?_; refine zl hS ?_; refine zL ?_)
  all_goals (first | (refine Q26 ?_) | (refine Q27 ?_) | (refine QR rfl rfl (fun hc => ?_) (fun hc => ?_)))
  all_goals (refine zm ?_; (first | refine s_gn rfl rfl ?_ | (refine s_gy rfl ?_; refine zm ?_)); (first | refine s_gn rfl rfl ?_ | (refine s_gy rfl ?_; refine Qn rfl ?_)); (first | refine s_gn rfl rfl ?_ | (refine s_gy rfl ?_; refine Q2 rfl ?_)); (first | refine s_gn rfl rfl ?_ | (refine s_gy rfl ?_; (first | refine Q2 rfl ?_ | refine Q2b rfl ?_))); (first | refine s_gn rfl rfl ?_ | (refine s_gy rfl ?_; refine zl hS ?_)))
  all_goals (first | refine s_gn rfl rfl ?_ | (refine s_gy rfl ?_; (first | (refine Qw ?_) | (refine Qy ?_) | (refine Qj rfl rfl (fun hc => ?_) (fun hc => ?_)))))
  all_goals ((first | (refine zpt ?_) | (refine zpf ?_)); refine zn ?_)
  all_goals
    first
    | (refine Q4 rfl ?_ -- Q2G c0
       all_goals (refine zsk ?_; refine Q0 ?_; refine Qh ?_; refine Q0 ?_; refine Q1 ?_; refine zm ?_; refine zm ?_; refine zm ?_; refine zm ?_; refine zR3 (c := pInsAt_c f b j hf0 hb0 (by omega) hS) (h := ?_); rintro v1 w1 ⟨rfl, hS⟩; refine Qn rfl ?_; refine Q2 rfl ?_; refine zst hS ?_; intro w1 hS; have hS := hS.ns; refine zn ?_; have hS : St cx _ (blk p7 52 [.int .i64 y.regs, vp2, vc2, .int .i64 y.fin.op, .int .i64 y.fin.a, .int .i64 y.fin.yes.block, ve21, ve22, .int .i64 y.fin.no.block, ve23, ve24, ve25] :: blk p6 43 [.int .i64 x.regs, vp1, vr1, vb1] :: jdg p vf h (Qec f b j) :: L.eraseIdx i) := hS; refine Q1 ?_; refine zm ?_; refine Q2 rfl ?_; refine zl hS ?_; refine zm ?_; refine zi ?_; intro b3 o3 cs3 x3 hat3 hx3 he3; obtain ⟨vr3, va3, rfl, hr3, ha3⟩ := Q3i he3; (first | (refine zv hS ?_) | (refine zvk hS ?_)); refine zR2 (c := ins_c he3 hf hS fd) (h := ?_); rintro v1 w1 ⟨rfl, hS⟩; have hS := hS.ns; refine zn ?_; refine Q1 ?_; refine zm ?_; refine zad ?_; refine zm ?_; refine zn ?_)
       all_goals (exact ⟨⟨j + 1, _, _, zh, zh, (by omega), by rw [hd, Q6 hx3, Q14, Q3N], hS.sp⟩, Q16 (by omega)⟩))
    | (refine Q5 rfl ?_ -- Q2G c0
       all_goals (refine zex ?_; (first | (rw [List.drop_of_length_le (by omega), Q14, Qn0 (b := (0, 0)) rfl] at hd) | (rw [Q62 (a := h) (by assumption)] at hd)); refine Q0 ?_; refine Q1 ?_; refine zm ?_; refine zm ?_; refine zm ?_; refine zR2 (c := pEndAt_c f b hf0 hb0 hS) (h := ?_); rintro v1 w1 ⟨rfl, hS⟩; refine Qn rfl ?_; refine Q2 rfl ?_; refine zst hS ?_; intro w1 hS; have hS := hS.ns; refine zn ?_; have hS : St cx _ (blk p7 52 [.int .i64 y.regs, vp2, vc2, .int .i64 y.fin.op, .int .i64 y.fin.a, .int .i64 y.fin.yes.block, ve21, ve22, .int .i64 y.fin.no.block, ve23, ve24, ve25] :: blk p6 43 [.int .i64 x.regs, vp1, vr1, vb1] :: jdg p vf h (Qg9 f b) :: L.eraseIdx i) := hS; refine Q1 ?_; refine zm ?_; refine zv hS ?_; refine Q2 rfl ?_; refine zv hS ?_; refine zR3 (c := end_c (e := y.fin) he1 ⟨_, _, _, _, _, rfl, he21, he22, he23, he24, he25⟩ hS fd) (h := ?_); rintro v1 w1 ⟨rfl, hS⟩; have hS := hS.ns; refine zn ?_)
       all_goals (refine Q5c ?_; refine ⟨_, rfl, rfl, Qg9 f b, ?_⟩; have hS := hS.drop.drop; rw [show orF g (QL fs.length f x b y) = orF h (mkF (Q3q x.blocks.length y.fin) (Qg9 f b)) from (by unfold QL; rw [← Q3N, ← Q3N, hd])]; exact St.back hS hi))
theorem QoO {g : Flt} {a : Int} {x : Fun} {f : Nat} {q : Bool} (hq : q = true ↔ (f = 0 ∧ (0 < x.regs ∨ 0 < x.params.length ∨ ∃ t ∈ x.results, t.kind ≠ 1))) :
    orF (orF (orF (orF (orF g (mkF (if x.regs < 0 ∨ 6 < x.regs then 1 else 0) a)) (mkF (Qu x.params x.regs) a)) (mkF (Qu x.results x.regs) a)) (mkF (if x.blocks.length < 1 ∨ 12 < x.blocks.length then 2 else 0) a)) (mkF (if q = true then 18 else 0) a) = orF g (mkF (Qz f x) a) := by
  rw [Q2W, Q2W, Q2W, Q2W]
  congr 2
  unfold Qz
  by_cases h0 : x.regs < 0 ∨ 6 < x.regs
  · rw [if_pos h0, if_pos h0]; simp only [Q70 (show (1 : Int) ≠ 0 by decide)]
  · rw [if_neg h0, if_neg h0, Q63]
    by_cases h : Qu x.params x.regs ≠ 0
    · rw [if_pos h]; simp only [Q70 h]
    · rw [if_neg h, Classical.not_not.1 h, Q63]
      by_cases h1 : Qu x.results x.regs ≠ 0
      · rw [if_pos h1]; simp only [Q70 h1]
      · rw [if_neg h1, Classical.not_not.1 h1, Q63]
        by_cases h2 : x.blocks.length < 1 ∨ 12 < x.blocks.length
        · rw [if_pos h2, if_pos h2]; simp only [Q70 (show (2 : Int) ≠ 0 by decide)]
        · rw [if_neg h2, if_neg h2, Q63]
          by_cases hb : f = 0 ∧ (0 < x.regs ∨ 0 < x.params.length ∨ ∃ t ∈ x.results, t.kind ≠ 1)
          · rw [if_pos hb, if_pos (hq.2 hb)]
          · rw [if_neg hb, if_neg (fun h => hb (hq.1 h))]
theorem pcheck_c {m : Module} (hsh : m.Short) {cs : List Value} (hm : modR.at cx cs m) (hS : St cx w L) :
    Rets Tryz.prog Q3D [.agg ⟨cs⟩] w fun u w' => u = fltV m.fault ∧ St cx w' L := by
  obtain ⟨vf, rfl, hf⟩ := Q41 hm
  have hsl := hsh.1
  have hsf := hsh.2
  obtain ⟨a0, n0, rfl⟩ := Rep.SR.shape hf
  generalize hvf : Value.slice a0 m.funcs.length n0 = vf at *
  all_goals refine QiY ?_
  all_goals (unfold code_Check_lc; refine Q0 ?_; refine Q1 ?_; refine zb hS ?_; intro p1 w1 hS; refine Qb hS ?_; intro p2 w1 hS; refine zn ?_; refine Q0 ?_; refine Q1 ?_; refine zv hS ?_; refine Qmn (cs := [vf, .int .i64 0, .int .i64 0, .int .i64 (-1)]) vw vw (by subst hvf; rfl) ?_; refine zb hS ?_; intro p9 w1 hS; refine zm ?_; refine zn ?_)
  refine zM [1, 2, 3] (fun A ρ' w' => Has ρ' A ∧ Has ρ' [] ∧ St cx w' (jdg p9 vf (mkF (if m.funcs.length < 1 ∨ 8 < m.funcs.length then 2 else 0) (-1)) (-1) :: blk p2 29 [.int .i64 0, .int .i64 0] :: blk p1 24 [vf] :: L)) ?_ ?_
  · skip
    all_goals (have hS : St cx _ (jdg p9 vf (0, 0) (-1) :: blk p2 29 [.int .i64 0, .int .i64 0] :: blk p1 24 [vf] :: L) := hS; refine Q1 ?_; refine zm ?_; refine Q2 rfl ?_; refine zl hS ?_; refine zL ?_)
    all_goals (first | (refine Qw ?_) | (refine Qy ?_) | (refine Qj rfl rfl (fun hc => ?_) (fun hc => ?_)))
    all_goals (refine zm ?_; (first | refine s_gn rfl rfl ?_ | (refine s_gy rfl ?_; refine Q2 rfl ?_)); (first | refine s_gn rfl rfl ?_ | (refine s_gy rfl ?_; refine zl hS ?_)); (first | refine s_gn rfl rfl ?_ | (refine s_gy rfl ?_; refine zL ?_)))
    all_goals (first | refine s_gn rfl rfl ?_ | (refine s_gy rfl ?_; (first | (refine QQ ?_) | (refine Q11 ?_) | (refine Qr rfl rfl (fun hc => ?_) (fun hc => ?_)))))
    all_goals ((first | (refine zpt ?_) | (refine zpf ?_)); refine zR3 (c := Q2n (g := _) (by intro _; decide) hS fd) (h := ?_); rintro v1 w1 ⟨rfl, hS⟩; simp only [List.set_cons_zero, List.set_cons_succ, if_true, Bool.false_eq_true, if_false] at hS; refine zn ?_; exact ⟨zh, zh, by rw [Q2d (Qiv _ _)] at hS; first | (rw [if_pos (by omega)]; exact hS.sp) | (rw [if_neg (by omega)]; exact hS.sp)⟩)
  rintro ρ w1 ⟨hA, hρ, hS⟩; obtain ⟨ρ, rfl⟩ := env2 hA hρ
  all_goals (refine Q0 ?_; refine Q0 ?_; refine Q1 ?_; refine zm ?_; refine zn ?_; refine Qh ?_)
  refine zo [1, 2, 3] (fun A ρ' w' => ∃ (f : Nat) (h : Flt) (a : Int), Has ρ' A ∧ Has ρ' [(4, .int .i64 f)] ∧ (f ≤ m.funcs.length) ∧ (m.fault = orF h (Q1A m.funcs.length f (m.funcs.drop f))) ∧ St cx w' (jdg p9 vf h a :: blk p2 29 [.int .i64 0, .int .i64 0] :: blk p1 24 [vf] :: L)) (fun ρ' _ => (m.funcs.length - iv (ρ' 4)).toNat) ?_ ?_
  · exact ⟨0, _, _, zh, zh, (by omega), by rw [List.drop_zero]; rfl, hS.sp⟩
  rintro ρ w1 ⟨f, h, a, hA, hρ, hj, hd, hS⟩; obtain ⟨ρ, rfl⟩ := env2 hA hρ
  unfold QaS
  all_goals (refine Q0 ?_; refine Q0 ?_; refine Q1 ?_; refine zm ?_; refine Q2 rfl ?_; refine zl hS ?_; refine zL ?_)
  all_goals (first | (refine Q26 ?_) | (refine Q27 ?_) | (refine QR rfl rfl (fun hc => ?_) (fun hc => ?_)))
  all_goals (refine zm ?_; (first | refine s_gn rfl rfl ?_ | (refine s_gy rfl ?_; refine zm ?_)); (first | refine s_gn rfl rfl ?_ | (refine s_gy rfl ?_; refine Qn rfl ?_)); (first | refine s_gn rfl rfl ?_ | (refine s_gy rfl ?_; refine Q2 rfl ?_)); (first | refine s_gn rfl rfl ?_ | (refine s_gy rfl ?_; (first | refine Q2 rfl ?_ | refine Q2b rfl ?_))); (first | refine s_gn rfl rfl ?_ | (refine s_gy rfl ?_; refine zl hS ?_)))
  all_goals (first | refine s_gn rfl rfl ?_ | (refine s_gy rfl ?_; (first | (refine Qw ?_) | (refine Qy ?_) | (refine Qj rfl rfl (fun hc => ?_) (fun hc => ?_)))))
  all_goals ((first | (refine zpt ?_) | (refine zpf ?_)); refine zn ?_)
  all_goals
    first
    | (refine Q4 rfl ?_ -- Q3D c0
       all_goals (refine zsk ?_; refine Q0 ?_; refine Qh ?_; refine Q0 ?_; refine Q1 ?_; refine Q2 rfl ?_; refine zl hS ?_; refine zm ?_; refine zi ?_; intro b1 o1 cs1 x1 hat1 hx1 he1; obtain ⟨vp1, vr1, vb1, rfl, hp1, hr1, hb1⟩ := Q1B he1; (first | (refine zv hS ?_) | (refine zvk hS ?_)); refine Qb hS ?_; intro p5 w1 hS; refine zsn hS ?_; intro w1 hS; have hS := hS.ns; refine zn ?_; have hsx := hsf x1 (List.mem_of_getElem? hx1); have hlb := hsx.2.2.1; have hlp := hp1.len; have hlr := hr1.len; refine Q0 ?_; refine Q1 ?_; refine zm ?_; refine zm ?_; refine zR1 (c := Qoe f (by omega) hS) (h := ?_); rintro v1 w1 ⟨rfl, hS⟩; refine Qn rfl ?_; refine Q2 rfl ?_; refine zst hS ?_; intro w1 hS; have hS := hS.ns; refine zn ?_)
       refine zM [1, 2, 3, 4, 5] (fun A ρ' w' => Has ρ' A ∧ Has ρ' [] ∧ St cx w' (blk p5 43 [.int .i64 x1.regs, vp1, vr1, vb1] :: jdg p9 vf (orF h (mkF (if x1.regs < 0 ∨ 6 < x1.regs then 1 else 0) (Q39 f))) (Q39 f) :: blk p2 29 [.int .i64 0, .int .i64 0] :: blk p1 24 [vf] :: L)) ?_ ?_
       · skip
         all_goals (have hS : St cx _ (blk p5 43 [.int .i64 x1.regs, vp1, vr1, vb1] :: jdg p9 vf h (Q39 f) :: blk p2 29 [.int .i64 0, .int .i64 0] :: blk p1 24 [vf] :: L) := hS; refine Q1 ?_; refine zm ?_; refine Q2 rfl ?_; refine zl hS ?_)
         all_goals (first | (refine Q26 ?_) | (refine Q27 ?_) | (refine QR rfl rfl (fun hc => ?_) (fun hc => ?_)))
         all_goals (refine zm ?_; (first | refine s_gn rfl rfl ?_ | (refine s_gy rfl ?_; refine Q2 rfl ?_)); (first | refine s_gn rfl rfl ?_ | (refine s_gy rfl ?_; refine zl hS ?_)))
         all_goals (first | refine s_gn rfl rfl ?_ | (refine s_gy rfl ?_; (first | (refine QQ ?_) | (refine Q11 ?_) | (refine Qr rfl rfl (fun hc => ?_) (fun hc => ?_)))))
         all_goals ((first | (refine zpt ?_) | (refine zpf ?_)); refine zR3 (c := Q2n (g := _) (by intro _; decide) hS fd) (h := ?_); rintro v1 w1 ⟨rfl, hS⟩; simp only [List.set_cons_zero, List.set_cons_succ, if_true, Bool.false_eq_true, if_false] at hS; refine zn ?_; exact ⟨zh, zh, by first | (rw [if_pos (by omega)]; exact hS.sp) | (rw [if_neg (by omega)]; exact hS.sp)⟩)
       rintro ρ w1 ⟨hA, hρ, hS⟩; obtain ⟨ρ, rfl⟩ := env2 hA hρ
       all_goals (refine Q0 ?_; refine Q1 ?_; refine zm ?_; refine Q2 rfl ?_; refine zl hS ?_; refine Q2 rfl ?_; refine zl hS ?_; refine zR3 (c := Qlh hp1 hS fd) (h := ?_); rintro v1 w1 ⟨rfl, hS⟩; have hS := hS.ns; refine zn ?_; refine Q0 ?_; refine Q1 ?_; refine zm ?_; refine Q2 rfl ?_; refine zl hS ?_; refine Q2 rfl ?_; refine zl hS ?_; refine zR3 (c := Qlh hr1 hS fd) (h := ?_); rintro v1 w1 ⟨rfl, hS⟩; have hS := hS.ns; refine zn ?_)
       refine zM [1, 2, 3, 4, 5] (fun A ρ' w' => Has ρ' A ∧ Has ρ' [] ∧ St cx w' (blk p5 43 [.int .i64 x1.regs, vp1, vr1, vb1] :: jdg p9 vf (orF (orF (orF (orF h (mkF (if x1.regs < 0 ∨ 6 < x1.regs then 1 else 0) (Q39 f))) (mkF (Qu x1.params x1.regs) (Q39 f))) (mkF (Qu x1.results x1.regs) (Q39 f))) (mkF (if x1.blocks.length < 1 ∨ 12 < x1.blocks.length then 2 else 0) (Q39 f))) (Q39 f) :: blk p2 29 [.int .i64 0, .int .i64 0] :: blk p1 24 [vf] :: L)) ?_ ?_
       · skip
         all_goals (refine Q1 ?_; refine zm ?_; refine Q2 rfl ?_; refine zl hS ?_; refine zL ?_)
         all_goals (first | (refine Qw ?_) | (refine Qy ?_) | (refine Qj rfl rfl (fun hc => ?_) (fun hc => ?_)))
         all_goals (refine zm ?_; (first | refine s_gn rfl rfl ?_ | (refine s_gy rfl ?_; refine Q2 rfl ?_)); (first | refine s_gn rfl rfl ?_ | (refine s_gy rfl ?_; refine zl hS ?_)); (first | refine s_gn rfl rfl ?_ | (refine s_gy rfl ?_; refine zL ?_)))
         all_goals (first | refine s_gn rfl rfl ?_ | (refine s_gy rfl ?_; (first | (refine QQ ?_) | (refine Q11 ?_) | (refine Qr rfl rfl (fun hc => ?_) (fun hc => ?_)))))
         all_goals ((first | (refine zpt ?_) | (refine zpf ?_)); refine zR3 (c := Q2n (g := _) (by intro _; decide) hS fd) (h := ?_); rintro v1 w1 ⟨rfl, hS⟩; simp only [List.set_cons_zero, List.set_cons_succ, if_true, Bool.false_eq_true, if_false] at hS; refine zn ?_; exact ⟨zh, zh, by first | (rw [if_pos (c := x1.blocks.length < 1 ∨ 12 < x1.blocks.length) (by omega)]; exact hS.sp) | (rw [if_neg (c := x1.blocks.length < 1 ∨ 12 < x1.blocks.length) (by omega)]; exact hS.sp)⟩)
       rintro ρ w1 ⟨hA, hρ, hS⟩; obtain ⟨ρ, rfl⟩ := env2 hA hρ
       refine zM [1, 2, 3, 4, 5] (fun A ρ' w' => Has ρ' A ∧ Has ρ' [] ∧ St cx w' (blk p5 43 [.int .i64 x1.regs, vp1, vr1, vb1] :: jdg p9 vf (orF h (mkF (Qz f x1) (Q39 f))) (Q39 f) :: blk p2 29 [.int .i64 0, .int .i64 0] :: blk p1 24 [vf] :: L)) ?_ ?_
       · skip
         all_goals (refine Q1 ?_)
         refine zKL hS 19 [1, 2, 3, 4, 5] (fun A LL ρ' w' => ∃ (q : Bool), Has ρ' A ∧ Has ρ' [(81, .pointer (some ⟨p9, 0, none⟩)), (99, .bool q)] ∧ (q = true ↔ (f = 0 ∧ (0 < x1.regs ∨ 0 < x1.params.length ∨ ∃ t ∈ x1.results, t.kind ≠ 1))) ∧ St cx w' (LL)) ?_ ?_
         · skip
           all_goals (refine zm ?_; refine zm ?_)
           all_goals (first | (refine Qw ?_) | (refine Qy ?_) | (refine Qj rfl rfl (fun hc => ?_) (fun hc => ?_)))
           all_goals (refine zm ?_; (first | refine s_gn rfl rfl ?_ | (refine s_gy rfl ?_; refine Q2 rfl ?_)); (first | refine s_gn rfl rfl ?_ | (refine s_gy rfl ?_; refine zl hS ?_)))
           all_goals (first | refine s_gn rfl rfl ?_ | (refine s_gy rfl ?_; (first | (refine QQ ?_) | (refine Q11 ?_) | (refine Qr rfl rfl (fun hc => ?_) (fun hc => ?_)))))
           all_goals ((first | refine s_gn rfl rfl ?_ | (refine s_gy rfl ?_; refine zm ?_)); (first | refine s_gn rfl rfl ?_ | (refine s_gy rfl ?_; refine Q2 rfl ?_)); (first | refine s_gn rfl rfl ?_ | (refine s_gy rfl ?_; refine zl hS ?_)); (first | refine s_gn rfl rfl ?_ | (refine s_gy rfl ?_; refine zL ?_)))
           all_goals (first | refine s_gn rfl rfl ?_ | (refine s_gy rfl ?_; (first | (refine QQ ?_) | (refine Q11 ?_) | (refine Qr rfl rfl (fun hc => ?_) (fun hc => ?_)))))
           all_goals ((first | refine s_gn rfl rfl ?_ | (refine s_gy rfl ?_; (first | (refine zpt ?_) | (refine zpf ?_)))); (first | refine s_gn rfl rfl ?_ | (refine s_gy rfl ?_; refine zm ?_)); (first | refine s_gn rfl rfl ?_ | (refine s_gy rfl ?_; refine Q2 rfl ?_)); (first | refine s_gn rfl rfl ?_ | (refine s_gy rfl ?_; refine zl hS ?_)))
           all_goals ((first | (refine s_gn rfl rfl ?_) | (refine s_gy rfl ?_; refine zR2 (c := pcont_c hr1 hS) (h := ?_); rintro v1 w1 ⟨qc, rfl, hqc, hS⟩; cases qc)))
           all_goals ((first | refine s_gn rfl rfl ?_ | (refine s_gy rfl ?_; (first | (refine zpt ?_) | (refine zpf ?_)))); (first | (refine zpt ?_) | (refine zpf ?_)); refine Q4V ?_; refine Q2f ?_)
           all_goals (first | (exact ⟨_, zh, zh, by exact ⟨fun _ => ⟨by omega, .inl (by omega)⟩, fun _ => rfl⟩, hS.sp⟩) | (exact ⟨_, zh, zh, by exact ⟨fun _ => ⟨by omega, .inr (.inl (by omega))⟩, fun _ => rfl⟩, hS.sp⟩) | (exact ⟨_, zh, zh, by exact ⟨fun _ => ⟨by omega, .inr (.inr (hqc.1 rfl))⟩, fun _ => rfl⟩, hS.sp⟩) | (exact ⟨_, zh, zh, by exact ⟨fun h => Bool.noConfusion h, fun h => absurd h.1 (by omega)⟩, hS.sp⟩) | (exact ⟨_, zh, zh, by exact ⟨fun h => Bool.noConfusion h, fun h => h.2.elim (fun h => by omega) (fun h => h.elim (fun h => by omega) (fun h => Bool.noConfusion (hqc.2 h)))⟩, hS.sp⟩))
         rintro ρ w1 ⟨q, hA, hρ, hq, hS⟩; obtain ⟨ρ, rfl⟩ := env2 hA hρ
         all_goals (refine zR3 (c := Q2n (g := _) (by intro _; decide) hS fd) (h := ?_); rintro v1 w1 ⟨rfl, hS⟩; simp only [List.set_cons_zero, List.set_cons_succ, if_true, Bool.false_eq_true, if_false] at hS; refine zn ?_; exact ⟨zh, zh, by rw [← QoO hq]; exact hS.sp⟩)
       rintro ρ w1 ⟨hA, hρ, hS⟩; obtain ⟨ρ, rfl⟩ := env2 hA hρ
       all_goals (refine Q0 ?_; refine Q1 ?_; refine zm ?_; refine zn ?_; refine Qh ?_)
       refine zo [1, 2, 3, 4, 5] (fun A ρ' w' => ∃ (b : Nat) (h2 : Flt) (a2 : Int), Has ρ' A ∧ Has ρ' [(6, .int .i64 b)] ∧ (b ≤ x1.blocks.length) ∧ (orF (orF h (mkF (Qz f x1) (Q39 f))) (QN m.funcs.length f x1 0 x1.blocks) = orF h2 (QN m.funcs.length f x1 b (x1.blocks.drop b))) ∧ St cx w' (blk p5 43 [.int .i64 x1.regs, vp1, vr1, vb1] :: jdg p9 vf h2 a2 :: blk p2 29 [.int .i64 0, .int .i64 0] :: blk p1 24 [vf] :: L)) (fun ρ' _ => (x1.blocks.length - iv (ρ' 6)).toNat) ?_ ?_
       · exact ⟨0, _, _, zh, zh, (by omega), by rw [List.drop_zero], hS.sp⟩
       rintro ρ w1 ⟨b, h2, a2, hA, hρ, hb, hd2, hS⟩; obtain ⟨ρ, rfl⟩ := env2 hA hρ
       unfold Q98
       all_goals (refine Q0 ?_; refine Q0 ?_; refine Q1 ?_; refine zm ?_; refine Q2 rfl ?_; refine zl hS ?_; refine zL ?_)
       all_goals (first | (refine Q26 ?_) | (refine Q27 ?_) | (refine QR rfl rfl (fun hc => ?_) (fun hc => ?_)))
       all_goals (refine zm ?_; (first | refine s_gn rfl rfl ?_ | (refine s_gy rfl ?_; refine zm ?_)); (first | refine s_gn rfl rfl ?_ | (refine s_gy rfl ?_; refine Qn rfl ?_)); (first | refine s_gn rfl rfl ?_ | (refine s_gy rfl ?_; refine Q2 rfl ?_)); (first | refine s_gn rfl rfl ?_ | (refine s_gy rfl ?_; (first | refine Q2 rfl ?_ | refine Q2b rfl ?_))); (first | refine s_gn rfl rfl ?_ | (refine s_gy rfl ?_; refine zl hS ?_)))
       all_goals (first | refine s_gn rfl rfl ?_ | (refine s_gy rfl ?_; (first | (refine Qw ?_) | (refine Qy ?_) | (refine Qj rfl rfl (fun hc => ?_) (fun hc => ?_)))))
       all_goals ((first | (refine zpt ?_) | (refine zpf ?_)); refine zn ?_)
       all_goals
         first
         | (refine Q4 rfl ?_ -- Q3D c1
            all_goals (refine zsk ?_; refine Q0 ?_; refine Qh ?_; obtain ⟨y, hy⟩ : ∃ y, x1.blocks[b]? = some y := ⟨_, List.getElem?_eq_getElem (by omega)⟩; have hsy := hsx.2.2.2 y (List.mem_of_getElem? hy); refine Q1 ?_; refine zm ?_; refine zm ?_; refine zm ?_; refine zR3 (c := pblock_c hx1 hy (by omega) (by omega) hsy.2.1 hf hS fd) (h := ?_); rintro v1 w1 ⟨rfl, a3, hS⟩; have hS := hS.ns; refine zn ?_; refine Q1 ?_; refine zm ?_; refine zad ?_; refine zm ?_; refine zn ?_)
            all_goals (exact ⟨⟨b + 1, _, _, zh, zh, (by omega), by rw [hd2, Q6 hy, QN, Q3N], hS.sp⟩, Q16 (by omega)⟩))
         | (refine Q5 rfl ?_ -- Q3D c1
            all_goals (refine zex ?_; (first | (rw [List.drop_of_length_le (by omega), QN, Qn0 (b := (0, 0)) rfl] at hd2) | (rw [Q62 (a := h2) (by assumption)] at hd2)); refine Q1 ?_; refine zm ?_; refine zad ?_; refine zm ?_; refine zn ?_)
            all_goals (exact ⟨⟨f + 1, h2, a2, zh, zh, (by omega), by rw [hd, Q6 hx1, Q1A, ← Q3N, show orF h (Q24 m.funcs.length f x1) = h2 from (by unfold Q24; rw [← Q3N, hd2])], hS.sp⟩, Q16 (by omega)⟩)))
    | (refine Q5 rfl ?_ -- Q3D c0
       all_goals (refine zex ?_; (first | (rw [List.drop_of_length_le (by omega), Q1A, Qn0 (b := (0, 0)) rfl] at hd) | (rw [Q62 (a := h) (by assumption)] at hd)); refine Q0 ?_; refine Q1 ?_; refine zm ?_; refine Qn rfl ?_; refine Q2 rfl ?_; refine zv hS ?_; refine zsn hS ?_; intro w1 hS; have hS := hS.ns; refine zn ?_; refine zr ?_; refine Q1G vw (Qa (n := 2) (by kernel_rfl) (by kernel_rfl) (hS.blkAt fd) (by rfl) (by rfl)) ?_)
       all_goals (refine ⟨_, rfl, ?_, hS.sp⟩; rw [hd]; rfl; done))
end Go.Proofs.YtjecflbbcnocdaaGreatDoor
namespace Go.Lir
theorem Qkf {l : List Tok} (h : (l.length : Int) > 0) : (fun l : List Tok => !l.isEmpty) l = true := by
  cases l with
  | nil => simp at h
  | cons => rfl
theorem ne_no {l : List Tok} (h : ¬ (l.length : Int) > 0) : (fun l : List Tok => !l.isEmpty) l = false := by
  cases l with
  | nil => rfl
  | cons => simp at h
/-- What is written in a region that draws is only what its operations write. -/
def KeepQ (D : List Nat) (ρ0 : Env) (Q : QT) : QT := fun e ρ' w' => (∀ s, D.contains s = false → ρ' s = ρ0 s) → Q e ρ' w'
theorem Qmv {P : Program} {Q : QT} {D : List Nat} {ρ0 : Env} : ∀ (l : List GO) (ρ : Env) (w : World), l.all (fun g => g.o.takes && (match g.dst with | some d => D.contains d | none => true)) = true → (∀ s, D.contains s = false → ρ s = ρ0 s) → Q3 P l (KeepQ D ρ0 Q) ρ w → Q3 P l Q ρ w
  | [], ρ, w, _, hρ, h => h hρ
  | g :: l, ρ, w, ha, hρ, h => by
    rw [List.all_cons, Bool.and_eq_true, Bool.and_eq_true] at ha
    refine Q9K ha.1.1 (fun _ _ => rfl) (fun v w' hk => Qmv l _ _ ha.2 (fun s hs => ?_) hk) (fun e w' _ hq => hq hρ) h
    have hd := ha.1.2
    by_cases hsd : g.dst = some s
    · rw [hsd] at hd; dsimp only at hd; rw [hs] at hd; cases hd
    · rw [Q1V hsd]; exact hρ s hs
theorem zCK {P : Program} {Q : QT} {ρ : Env} {w : World} {gs : List GO} {es : List (List Nat)} (C : List CI) (D : List Nat) (h : Q1L P gs C (KeepQ D ρ Q) ρ w.drew) (hok : Qcg gs es C = true := by kernel_rfl) (hk : (GO.nop :: gs).all (fun g => g.o.takes && (match g.dst with | some d => D.contains d | none => true)) = true := by kernel_rfl) : (LC.draw gs es).wp P Q ρ w := by
  intro l hl
  refine Qmv _ ρ w.drew ?_ (fun _ _ => rfl) (Qbz C hok h l hl)
  rw [List.all_eq_true] at hk ⊢
  intro g hg
  obtain ⟨i, hi, rfl⟩ := List.mem_map.1 hg
  refine hk _ ?_
  rw [List.getD_eq_getElem?_getD]
  cases h9 : gs[i]? with
  | none => simp
  | some x => simp [List.mem_of_getElem? h9]
end Go.Lir
namespace Go.Proofs.YtjecflbbcnocdaaGreatDoor
open Go.Lir
set_option maxHeartbeats 1000000
attribute [local irreducible] LC.wp Q3 QF QK retQ Q1E LO.wp Qq Calls
set_option linter.unusedSimpArgs false
set_option linter.unusedVariables false
attribute [local irreducible] pMany Q1Q Q2l pNum want isT pTyp Q61 pTo Q57 Q6Z pIns Q3M pOpts pAll pIf Q40 pFun scan skip Q1Z Module.fault Q2c
variable {cx : Cx} {w : World} {L : List Res}
theorem Qnq {P : Program} {T : TypeId} (h : aggT P T = true) : ∃ D, P.underlying T = some D ∧ ∀ m, D ≠ .interface m := by
  unfold aggT at h
  split at h
  · exact ⟨_, by assumption, by intro m h; cases h⟩
  · exact ⟨_, by assumption, by intro m h; cases h⟩
  · cases h
theorem Qio {p q : Nat} {cs ds : List Value} (hS : St cx w (blk p 24 cs :: blk q 29 ds :: L)) : Defs Tryz.prog Q53 [.pointer (some ⟨p, 0, none⟩), .pointer (some ⟨q, 0, none⟩)] .returning w fun u' w' => u' = .returning ∧ St cx w' (blk p 24 cs :: blk q 29 ds :: L) := by
  unfold Defs
  all_goals refine Q4G ?_
  all_goals (unfold parse_Parse_1_ld; refine r_seq ?_; refine r_sp ?_; refine zn ?_; refine zm ?_; refine zn ?_; refine r_pl ?_; refine Q0 ?_; refine Q1 ?_; refine zm ?_; refine Qml (ms := #[]) (by kernel_rfl) rfl ?_; refine zn ?_)
  all_goals refine Q5 rfl ?_
  all_goals (refine zsk ?_; refine q_endR ?_; refine Q5c ?_; exact ⟨⟨_, rfl⟩, rfl, hS.sp⟩)
theorem parse1_p {p q : Nat} {v0 a0 b0 : Value} {e : Flt} (hS : St cx w (blk p 24 [v0] :: blk q 29 [a0, b0] :: L)) : Defs Tryz.prog Q53 [.pointer (some ⟨p, 0, none⟩), .pointer (some ⟨q, 0, none⟩)] (.panicking [{ v := Qli e, recovered := false }]) w fun u' w' => u' = .panicking [{ v := Qli e, recovered := true }] ∧ St cx w' (blk p 24 [vn] :: blk q 29 [.int .i64 e.1, .int .i64 e.2] :: L) := by
  obtain ⟨D, hD, hi⟩ := Qnq (P := Tryz.prog) (T := 66) (by kernel_rfl)
  unfold Defs
  all_goals refine Q4G ?_
  all_goals (unfold parse_Parse_1_ld; refine r_seq ?_; refine r_sp ?_; refine zn ?_; refine zm ?_; refine zn ?_; refine r_pl ?_; refine Q0 ?_; refine Q1 ?_; refine zm ?_; refine Qmk (ms := #[]) (by kernel_rfl) rfl ?_; refine zn ?_)
  all_goals refine Q4 rfl ?_
  all_goals (refine Q0 ?_; refine Q1 ?_; refine zm ?_; refine s_assert hD hi rfl ?_; refine zm ?_; refine Q1M rfl rfl ?_; refine Q1M rfl rfl ?_; refine Qb hS ?_; intro p3 w1 hS; refine zsn hS ?_; intro w1 hS; have hS := hS.ns; refine zm ?_; refine zn ?_; refine Q0 ?_; refine Q0 ?_; refine Q1 ?_; refine zm ?_; refine Q1w rfl ?_; refine zn ?_)
  all_goals refine Q5 rfl ?_
  all_goals (refine zsk ?_; refine zC [(0, none), (1, none), (2, some (some [1])), (3, some none)] ?_; have hS := hS.drew; refine s_cq ?_; refine zb0 [_] ?_; refine zt ?_; refine s_cq ?_; refine zv hS ?_; refine zt ?_; refine Q7x ?_; refine zsn hS ?_; intro w1 hS; have hS := hS.ns; refine zt ?_; refine zy ?_; refine s_cf ?_; refine zsn hS ?_; intro w1 hS; have hS := hS.ns; refine zt ?_; refine zcn ?_; refine q_endR ?_; refine Q5c ?_; exact ⟨⟨_, rfl⟩, rfl, hS.sp⟩)
/-- What a reading of a module gives back. -/
def Ql6 (cx : Cx) (L : List Res) (src : List UInt8) (u : Value) (w' : World) : Prop :=
  (∃ m c' vf, Q2c src = .ok m ∧ u = .tuple #[.agg ⟨[vf]⟩, fltV (0, 0)] ∧ cx.Le c' ∧ modR.at c' [vf] m ∧ St c' w' L) ∨ (∃ f, Q2c src = .error f ∧ u = .tuple #[.agg ⟨[vn]⟩, fltV f] ∧ St cx w' L)
theorem pparse_c {src : List UInt8} (hT : NumK cx) (hl : src.length ≤ 100000) (hS : St cx w L) :
    Rets Tryz.prog Q1z [.string ⟨src.toArray⟩] w fun u w' => Ql6 cx L src u w' := by
  have hle := St.refl hS
  unfold Ql6
  all_goals refine Q92 ?_
  all_goals (unfold parse_Parse_ld; refine QlA ?_; refine d_pl ?_; refine Q1 ?_; refine Qb hS ?_; intro p2 w1 hS; refine Qb hS ?_; intro p3 w1 hS; refine zn ?_; refine QlA ?_; refine d_pl ?_; refine Q1 ?_; refine zm ?_)
  all_goals (refine zR1 (c := scan_c hT hl hS) (h := ?_); rintro v1 w1 (⟨l, c2, v, hs, hle2, rfl, hv, hS⟩ | ⟨er, n, hs, rfl, hS⟩))
  all_goals (refine zm ?_; refine Q1M rfl rfl ?_; refine Q1M rfl rfl ?_; refine zm ?_; refine zsn hS ?_; intro w1 hS; have hS := hS.ns; refine zn ?_; refine QlA ?_; refine d_pl ?_; refine Q0 ?_)
  all_goals (first | (have hz := Qmh hs; dsimp only at hz) | (obtain ⟨hn1, hn2⟩ := Qmi hs; (try have hle := hle.trans hle2); obtain ⟨av, nv, rfl⟩ := Rep.SR.shape hv))
  all_goals (refine Q1 ?_; refine Q2 rfl ?_; refine zl hS ?_)
  all_goals (first | (refine Q12 ?_) | (refine Q18 ?_))
  all_goals (refine zn ?_)
  all_goals
    first
    | (refine Q4 rfl ?_ -- Q1z c0
       all_goals (refine Q0 ?_; refine zC [(0, none), (1, none), (2, some (some [1])), (3, some none)] ?_; have hS := hS.drew; refine s_cq ?_; refine zb0 [_] ?_; refine zt ?_; refine s_cq ?_; refine zv hS ?_; refine zt ?_; refine Q7x ?_; refine zsn hS ?_; intro w1 hS; have hS := hS.ns; refine zt ?_; refine zy ?_; refine s_cf ?_; refine zsn hS ?_; intro w1 hS; have hS := hS.ns; refine zt ?_; refine zcn ?_; refine zr ?_)
       all_goals (refine Qmq ?_; (first | (refine Qau (by intro h; cases h) (by kernel_rfl) (Qio hS.sp) ?_; rintro u1 w1 ⟨rfl, hS⟩; refine Q3C ?_) | refine Q3C ?_))
       all_goals (refine QdG vw (Qa (n := 1) (by kernel_rfl) (by kernel_rfl) (hS.blkAt fd) (by rfl) (by rfl)) vw (Qa (n := 2) (by kernel_rfl) (by kernel_rfl) (hS.blkAt fd) (by rfl) (by rfl)) ?_)
       all_goals (exact ⟨_, rfl, .inr ⟨_, Qib hs, rfl, hS.sp⟩⟩))
    | (refine Q5 rfl ?_ -- Q1z c0
       all_goals refine zsk ?_)
  all_goals (refine QlA ?_; refine d_sp ?_; refine s_mkfn ?_; refine zn ?_; refine ⟨_, _, rfl, ?_⟩; refine zn ?_; refine d_pl ?_; refine Q0 ?_; refine Q1 ?_; refine zm ?_; refine zm ?_; refine Q20 rfl ?_; refine zb2 [_, _] ?_; refine zb hS ?_; intro p22 w1 hS; refine zm ?_; refine zn ?_; refine Q0 ?_; refine Qh ?_)
  refine zo [2, 3, 5] (fun A ρ' w' => ∃ (k0 : Cx) (l1 : List Tok) (v1 : Value) (k : Nat) (xs : List Fun) (vb : Value) (cb : List (List Value)), Has ρ' A ∧ Has ρ' [] ∧ (c2.Le k0) ∧ (l1.length < k) ∧ (xs.length + l1.length ≤ l.length) ∧ (tokR.sl k0 v1 l1) ∧ (funcR.ls k0 cb xs) ∧ (oneC vb = true) ∧ (QdO src.length l = Q2l xs (pOpts (pIf (fun l => !l.isEmpty) (pFun src.length)) k l1)) ∧ St k0 w' (prs p22 v1 src.length :: sl 43 4 vb cb :: blk p2 24 [vb] :: blk p3 29 [vi 0, vi 0] :: L)) (fun _ w' => l.length + 1 - slen (QoT w' p2 0)) ?_ ?_
  · exact ⟨c2, l, _, l.length + 1, [], .slice none 0 0, [], zh, zh, St.refl hS, Nat.lt_succ_self _, (by simp only [List.length_nil]; omega), hv, Rep.LR.nil _ _ _, rfl, Qoh _ _, by have hS := hS.nil (T := 43) (es := 4); exact hS.sp⟩
  rintro ρ w1 ⟨k0, l1, v1, k, xs, vb, cb, hA, hρ, hle2, hk, hxl, hv1, hlb, hvb, hd, hS⟩; obtain ⟨ρ, rfl⟩ := env2 hA hρ; have hL0 := hle2; (try have hle := hle.trans hle2); have hm0 := Q7p (j := 0) hS (i := 2) rfl rfl; have hsl0 := St.slen hS (i := 1) rfl; have hcl0 := hlb.1
  unfold Q93
  all_goals (refine Q0 ?_; refine Q0 ?_; refine Q1 ?_; refine zm ?_; refine Qn rfl ?_; refine Q2 rfl ?_; refine zl hS ?_; refine zL ?_; refine Q6m rfl rfl ?_; refine zn ?_)
  refine QO rfl (fun hc => ?_) (fun hc => ?_)
  · skip
    all_goals (refine zsk ?_; refine Qh ?_; have hc1 := hc; refine zCK [(0, none), (1, none), (2, none), (3, some (some [1])), (4, some (some [1])), (5, some none), (6, none), (7, some none)] [0, 29, 30, 31, 32, 33, 34, 35] ?_; have hS := hS.drew; refine s_cq ?_; refine Q2 rfl ?_; refine zt ?_; refine s_cq ?_; refine zl hS ?_; refine zt ?_; refine s_cq ?_; refine zm ?_; refine zt ?_; refine Q7x ?_)
    all_goals (refine zE1 (c := prfun_c (by omega) hv1 hS) (p := by rintro u9 w9 ⟨f, v', g1, rfl, hS⟩; refine Qo ?_; refine fun ρ9 hK => ?_; (repeat (first | refine Qo ?_ | refine Qp ?_)); refine q_panD ?_; refine Qau (by intro h; cases h) (by kernel_rfl) (parse1_p hS.sp) ?_; rintro u' w' ⟨rfl, hS⟩; refine Q3C ?_; refine QdG ((hK 2 rfl).trans vw) (Qa (n := 1) (by kernel_rfl) (by kernel_rfl) (hS.blkAt fd) (by rfl) (by rfl)) ((hK 3 rfl).trans vw) (Qa (n := 2) (by kernel_rfl) (by kernel_rfl) (hS.blkAt fd) (by rfl) (by rfl)) ?_; exact ⟨_, rfl, .inr ⟨_, parse_e hs (Qmu hd hk (pif_e (Qkf hc1) g1)), rfl, St.weak hS.sp hle⟩⟩) (h := ?_); rintro u1 w2 ⟨x, l8, v8, c8, ds, g1, k8, hle2, hx8, rfl, hv8, hS⟩; (try have hle := hle.trans hle2); (try have hL0 := hL0.trans hle2); (try have hlb := hlb.up hle2); (try have hv1 := hv1.up hle2); have hd9 := hx8; obtain ⟨n1, n2, n3, rfl, -⟩ := Q1B hx8; unfold Q56; have hd4 := Qof hd hk (pif_o (Qkf hc1) g1))
    all_goals (refine zt ?_; refine zy ?_; refine Q7x ?_; refine zB1 hS [_, _, _, _] ?_; intro b1 w1 hS; refine zt ?_; refine zy ?_; refine s_cf ?_; refine za Qay QhC hS ?_; intro vp1 w1 css1 hls1 hv1 hS; have hS := hS.ns; refine zt ?_; refine s_cq ?_; refine Q2 rfl ?_; refine zt ?_; refine s_cf ?_; refine zst hS ?_; intro w1 hS; have hS := hS.ns; refine zt ?_; refine s_cnil ?_; refine fun _ => ?_; (repeat (first | refine Q2f ?_ | refine Qaa ?_)); exact ⟨⟨_, l8, v8, k - 1, xs ++ [x], _, _, zh, zh, hL0, by omega, (by rw [List.length_append]; simp only [List.length_cons, List.length_nil]; omega), hv8, hls1, by assumption, hd4, hS.sp⟩, by rw [hm0, Q7p (j := 0) hS (i := 3) rfl rfl, St.slen hS (i := 2) rfl, hsl0, hcl0, hls1.1, List.length_append]; simp only [List.length_cons, List.length_nil]; omega⟩)
  · skip
    all_goals (refine zex ?_)
    all_goals (have hfin := Qog hd hk (pif_n (ne_no hc)); obtain ⟨c6, hle2, hS2, hkf⟩ := St.freezeL (r := funcR) (hS.out (r := sl 43 4 vb cb) fd) hlb rfl (by omega); clear hS; have hS := hS2; simp only [List.eraseIdx_cons_zero, List.eraseIdx_cons_succ] at hS; (try have hle := hle.trans hle2); (try have hL0 := hL0.trans hle2); (try have hlb := hlb.up hle2); (try have hv1 := hv1.up hle2); have hx' : modR.at c6 [vb] ⟨xs⟩ := ⟨_, rfl, hkf⟩; have hms := QdH (by omega) hfin)
    all_goals (refine Q0 ?_; refine Q0 ?_; refine Q1 ?_; refine zv hS ?_; refine zR1 (c := pcheck_c hms hx' hS) (h := ?_); rintro v1 w1 ⟨rfl, hS⟩; unfold fltV; refine Qb hS ?_; intro p6 w1 hS; refine zsn hS ?_; intro w1 hS; have hS := hS.ns; refine zn ?_; refine Q0 ?_; refine Q1 ?_; refine Q2 rfl ?_; refine zl hS ?_)
    all_goals (first | (refine Q12 ?_) | (refine Q18 ?_) | (refine Qx rfl rfl (fun hc => ?_) (fun hc => ?_)))
    all_goals (refine zn ?_)
    all_goals
      first
      | (refine Q4 rfl ?_ -- Q1z c2
         all_goals (refine Q0 ?_; refine zC [(0, none), (1, none), (2, some (some [1])), (3, some none)] ?_; have hS := hS.drew; refine s_cq ?_; refine zb0 [_] ?_; refine zt ?_; refine s_cq ?_; refine zv hS ?_; refine zt ?_; refine Q7x ?_; refine zsn hS ?_; intro w1 hS; have hS := hS.ns; refine zt ?_; refine zy ?_; refine s_cf ?_; refine zsn hS ?_; intro w1 hS; have hS := hS.ns; refine zt ?_; refine zcn ?_; refine zr ?_)
         all_goals (refine Qmq ?_; refine Qau (by intro h; cases h) (by kernel_rfl) (Qio hS.sp) ?_; rintro u1 w1 ⟨rfl, hS⟩; refine Q3C ?_)
         all_goals (refine QdG vw (Qa (n := 1) (by kernel_rfl) (by kernel_rfl) (hS.blkAt fd) (by rfl) (by rfl)) vw (Qa (n := 2) (by kernel_rfl) (by kernel_rfl) (hS.blkAt fd) (by rfl) (by rfl)) ?_)
         all_goals ((first | exact ⟨_, rfl, .inr ⟨_, Qib hs, rfl, hS.sp⟩⟩ | exact ⟨_, rfl, .inr ⟨_, Qob hs hfin (by omega), rfl, St.weak hS.sp hle⟩⟩)))
      | (refine Q5 rfl ?_ -- Q1z c2
         all_goals refine zsk ?_)
    all_goals (refine Q0 ?_; refine Q1 ?_; refine zv hS ?_; refine zb0 [_, _] ?_; refine zsn hS ?_; intro w1 hS; have hS := hS.ns; refine zsn hS ?_; intro w1 hS; have hS := hS.ns; refine zn ?_; refine zr ?_)
    all_goals (refine Qmq ?_; refine Qau (by intro h; cases h) (by kernel_rfl) (Qio hS.sp) ?_; rintro u1 w1 ⟨rfl, hS⟩; refine Q3C ?_)
    all_goals (refine QdG vw (Qa (n := 1) (by kernel_rfl) (by kernel_rfl) (hS.blkAt fd) (by rfl) (by rfl)) vw (Qa (n := 2) (by kernel_rfl) (by kernel_rfl) (hS.blkAt fd) (by rfl) (by rfl)) ?_; (first | exact ⟨_, rfl, .inr ⟨_, Qib hs, rfl, hS.sp⟩⟩ | exact ⟨_, rfl, .inr ⟨_, Qob hs hfin (by omega), rfl, St.weak hS.sp hle⟩⟩ | exact ⟨_, rfl, .inl ⟨_, c6, vb, parse_o hs hfin (by omega), rfl, hle, hx', hS.sp⟩⟩))
end Go.Proofs.YtjecflbbcnocdaaGreatDoor
namespace Go.Proofs.YtjecflbbcnocdaaGreatDoor
open Go.Lir
set_option maxHeartbeats 1000000
attribute [local irreducible] LC.wp Q3 QF QK retQ Q1E LO.wp Qq Calls
set_option linter.unusedSimpArgs false
set_option linter.unusedVariables false
attribute [local irreducible] scan skip Q1Z Module.fault Q2c
variable {cx : Cx} {w : World} {L : List Res}
theorem scan_big {src : List UInt8} (h : 40000 < src.length) (h2 : src.length ≤ 9223372036854775807) (hS : St cx w L) :
    Rets Tryz.prog Q3b [.string ⟨src.toArray⟩] w fun u w' => u = .tuple #[.slice none 0 0, .agg ⟨[.int .i64 2, .int .i64 40000]⟩] ∧ St cx w' L := by
  all_goals refine Qa5 ?_
  all_goals (unfold token_Scan_lc; refine Q0 ?_; refine Q1 ?_; refine zm ?_; refine Qb hS ?_; intro p3 w1 hS; refine zn ?_; refine Q0 ?_; refine Q0 ?_; refine Q1 ?_; refine zm ?_; refine Q20 rfl ?_)
  all_goals (refine QQ ?_)
  all_goals (refine zn ?_)
  all_goals refine Q4 rfl ?_
  all_goals (refine Q0 ?_; refine Q1 ?_; refine zb2 [_, _] ?_; refine zm ?_; refine zsn hS ?_; intro w1 hS; have hS := hS.ns; refine zn ?_; refine zr ?_; refine Qi8 vw vw (Qa (n := 2) (by kernel_rfl) (by kernel_rfl) (hS.blkAt fd) (by rfl) (by rfl)) ?_; exact ⟨_, rfl, rfl, hS.sp⟩)
theorem QmY {src : List UInt8} (h : 40000 < src.length) (h2 : src.length ≤ 9223372036854775807) (hS : St cx w L) :
    Rets Tryz.prog Q1z [.string ⟨src.toArray⟩] w fun u w' => Ql6 cx L src u w' := by
  unfold Ql6
  all_goals refine Q92 ?_
  all_goals (unfold parse_Parse_ld; refine QlA ?_; refine d_pl ?_; refine Q1 ?_; refine Qb hS ?_; intro p2 w1 hS; refine Qb hS ?_; intro p3 w1 hS; refine zn ?_; refine QlA ?_; refine d_pl ?_; refine Q1 ?_; refine zm ?_; refine zR1 (c := scan_big h h2 hS) (h := ?_); rintro v1 w1 ⟨rfl, hS⟩; refine zm ?_; refine Q1M rfl rfl ?_; refine Q1M rfl rfl ?_; refine zm ?_; refine zsn hS ?_; intro w1 hS; have hS := hS.ns; refine zn ?_; refine QlA ?_; refine d_pl ?_; refine Q0 ?_; refine Q1 ?_; refine Q2 rfl ?_; refine zl hS ?_)
  all_goals (refine Q12 ?_)
  all_goals (refine zn ?_)
  all_goals refine Q4 rfl ?_
  all_goals (refine Q0 ?_; refine zC [(0, none), (1, none), (2, some (some [1])), (3, some none)] ?_; have hS := hS.drew; refine s_cq ?_; refine zb0 [_] ?_; refine zt ?_; refine s_cq ?_; refine zv hS ?_; refine zt ?_; refine Q7x ?_; refine zsn hS ?_; intro w1 hS; have hS := hS.ns; refine zt ?_; refine zy ?_; refine s_cf ?_; refine zsn hS ?_; intro w1 hS; have hS := hS.ns; refine zt ?_; refine zcn ?_; refine zr ?_; refine Qmq ?_; refine Q3C ?_; refine QdG vw (Qa (n := 1) (by kernel_rfl) (by kernel_rfl) (hS.blkAt fd) (by rfl) (by rfl)) vw (Qa (n := 2) (by kernel_rfl) (by kernel_rfl) (hS.blkAt fd) (by rfl) (by rfl)) ?_; exact ⟨_, rfl, .inr ⟨(2, 40000), Qib (Qa9 h), rfl, hS.sp⟩⟩)
theorem Qbc {src : List UInt8} (hT : NumK cx) (hl : src.length ≤ 9223372036854775807) (hS : St cx w L) :
    Rets Tryz.prog Q1z [.string ⟨src.toArray⟩] w fun u w' => Ql6 cx L src u w' := by
  by_cases h : 40000 < src.length
  · exact QmY h hl hS
  · exact pparse_c hT (by omega) hS
end Go.Proofs.YtjecflbbcnocdaaGreatDoor
namespace Go.Lir
set_option linter.unusedVariables false
mutual
/-- Text -/
def Ty.txt : Ty → List UInt8
  | .mk k r l => if k = 2 then [104, 97, 110, 100, 108, 101, 32] ++ Lib.itoa r else if k = 4 then [97, 114, 114, 97, 121, 32] ++ Lib.itoa r else if k = 3 then [116, 117, 112, 108, 101, 32] ++ Lib.itoa r ++ [32, 40] ++ Lib.join (Tys.txts l) [44, 32] ++ [41] else [105, 110, 116]
def Tys.txts : List Ty → List (List UInt8)
  | [] => []
  | x :: l => x.txt :: Tys.txts l
end
mutual
theorem Ty.txt_len : ∀ (t : Ty), t.InR → t.txt.length + 2 ≤ 60 * t.nodes
  | .mk k r l, h => by
    obtain ⟨_, ⟨h1, h2⟩, hl⟩ := h.parts
    have hi := Lib.itoa_length_le r h1 h2
    have hj := Tys.join_len l hl
    rw [Ty.txt, Ty.nodes]
    split
    · simp only [List.length_append, List.length_cons, List.length_nil]; omega
    · split
      · simp only [List.length_append, List.length_cons, List.length_nil]; omega
      · split
        · simp only [List.length_append, List.length_cons, List.length_nil]; omega
        · simp only [List.length_cons, List.length_nil]; omega
theorem Tys.join_len : ∀ (l : List Ty), (∀ x ∈ l, x.InR) → (Lib.join (Tys.txts l) [44, 32]).length ≤ 60 * Tys.nodes l
  | [], _ => by rw [Tys.txts, Lib.join_nil]; simp
  | x :: l, h => by
    have h1 := Ty.txt_len x (h x (List.mem_cons_self ..))
    have h2 := Tys.tail_len l fun y hy => h y (List.mem_cons_of_mem _ hy)
    rw [Tys.txts, Lib.join_cons, List.length_append, Tys.nodes]
    omega
theorem Tys.tail_len : ∀ (l : List Ty), (∀ x ∈ l, x.InR) → (Lib.joinTail [44, 32] (Tys.txts l)).length ≤ 60 * Tys.nodes l
  | [], _ => by rw [Tys.txts]; simp [Lib.joinTail]
  | x :: l, h => by
    have h1 := Ty.txt_len x (h x (List.mem_cons_self ..))
    have h2 := Tys.tail_len l fun y hy => h y (List.mem_cons_of_mem _ hy)
    rw [Tys.txts, Tys.nodes]
    simp only [Lib.joinTail, List.map_cons, List.flatten_cons, List.length_append, List.length_cons, List.length_nil] at h2 ⊢
    omega
end
end Go.Lir
namespace Go.Lir
set_option linter.unusedVariables false
def Q3P (b : List UInt8) (l : List Int) (e : List UInt8) : List UInt8 := b ++ Lib.join (l.map Lib.itoa) [44, 32] ++ e
def Q8Y (l : List Ty) : List UInt8 := [40] ++ Lib.join (Tys.txts l) [44, 32] ++ [41]
def To.txt (t : To) : List UInt8 := Lib.itoa t.block ++ [32] ++ Q3P [60] t.regs [62] ++ [32] ++ Q3P [40] t.args [41]
/-- What stands behind an instruction's word. -/
def Ins.rest (x : Ins) : List (List UInt8) :=
  if x.op = 1 then [Lib.itoa x.n]
  else if x.op = 2 then [wordN kindWords x.k, Lib.itoa x.a, Lib.itoa x.b]
  else if x.op = 4 ∨ x.op = 11 ∨ x.op = 13 then [Lib.itoa x.a]
  else if x.op = 5 then [Lib.itoa x.a, Q3P [40] x.args [41]]
  else if x.op = 6 then [Lib.itoa x.a, Lib.itoa x.k]
  else if x.op = 7 then [Lib.itoa x.a, Lib.itoa x.k, Lib.itoa x.b]
  else if x.op = 8 ∨ x.op = 9 then [Lib.itoa x.a, Lib.itoa x.b]
  else if x.op = 10 then [Lib.itoa x.a, Lib.itoa x.b, Lib.itoa x.c]
  else if x.op = 14 then [Lib.itoa x.k, Q3P [60] x.regs [62], Q3P [40] x.args [41]]
  else []
def Ins.txt (x : Ins) : List UInt8 := Lib.join (wordN opWords x.op :: x.rest) [32]
def Tail.txt (t : Tail) : List UInt8 :=
  if t.op = 1 then QjX ++ [32] ++ t.yes.txt
  else if t.op = 2 then tIf ++ [32] ++ Lib.itoa t.a ++ [32] ++ tTo ++ [32] ++ t.yes.txt ++ [32] ++ Qnx ++ [32] ++ t.no.txt
  else tRet ++ [32] ++ Q3P [40] t.args [41]
def Qe9 : List Ins → List UInt8
  | [] => []
  | x :: l => [9] ++ x.txt ++ [59, 10] ++ Qe9 l
def Block.txt (b : Block) : List UInt8 := Q5b ++ [32] ++ Lib.itoa b.regs ++ [32] ++ Q8Y b.params ++ [32, 123, 10] ++ Qe9 b.code ++ [9] ++ b.fin.txt ++ [59, 10, 125, 10]
def Q7b : List Block → List UInt8
  | [] => []
  | b :: l => b.txt ++ Q7b l
def Fun.txt (f : Fun) : List UInt8 := Qnw ++ [32] ++ Lib.itoa f.regs ++ [32] ++ Q8Y f.params ++ [32] ++ QjY ++ [32] ++ Q8Y f.results ++ [32, 123, 10] ++ Q7b f.blocks ++ [125, 10]
def QoN : List Fun → List UInt8
  | [] => []
  | f :: l => f.txt ++ QoN l
def Module.txt (m : Module) : List UInt8 := QoN m.funcs
/-! which numbers may be Q6q -/
def smallN (n : Int) : Bool := decide (0 ≤ n ∧ n ≤ 1000000)
def Qhj (l : List Int) : Bool := l.all smallN
def Ins.small (x : Ins) : Bool := Qhj [x.a, x.b, x.c, x.k] && Qhj x.regs && Qhj x.args
def To.small (t : To) : Bool := Qhj t.regs && Qhj t.args
def Tail.small (t : Tail) : Bool := smallN t.a && Qhj t.args && t.yes.small && t.no.small
def Block.small (b : Block) : Bool := b.code.all Ins.small && b.fin.small
def Fun.small (f : Fun) : Bool := f.blocks.all Block.small
def Module.small (m : Module) : Bool := m.funcs.all Fun.small
def Q6q (m : Module) : Except Flt (List UInt8) :=
  if m.fault.1 ≠ 0 then .error m.fault else if m.small = false then .error (8, -1) else if 40000 < m.txt.length then .error (2, -1) else .ok m.txt
end Go.Lir
namespace Go.Lir
set_option linter.unusedVariables false
/-! ### numbers' texts -/
theorem Qo0 (M : Nat) : ∀ (l r : List UInt8) (acc a : Nat), Lib.parseUintM M acc l = .ok a → Lib.parseUintM M acc (l ++ r) = Lib.parseUintM M a r
  | [], r, acc, a, h => by rw [Lib.parseUintM] at h; cases h; rfl
  | c :: l, r, acc, a, h => by
    rw [Lib.parseUintM] at h
    split at h
    · rename_i hd
      split at h
      · cases h
      · rename_i h1
        split at h
        · cases h
        · rename_i h2
          rw [List.cons_append, Lib.parseUintM, if_pos hd, if_neg h1, if_neg h2]
          exact Qo0 M l r _ a h
    · cases h
theorem QoS {d : Nat} (h : d < 10) : (UInt8.ofNat (48 + d)).toNat = 48 + d := by
  rw [UInt8.toNat_ofNat']; exact Nat.mod_eq_of_lt (by omega)
theorem QnZ {d acc : Nat} (h : d < 10) (ha : acc * 10 + d ≤ 9223372036854775808) : Lib.parseUintM (2 ^ 64 - 1) acc [UInt8.ofNat (48 + d)] = .ok (acc * 10 + d) := by
  rw [Lib.parseUintM, QoS h, if_pos (by omega), if_neg (by omega), if_neg (by omega), Lib.parseUintM, show 48 + d - 48 = d by omega]
theorem Qhm (u : Nat) : u ≤ 9223372036854775808 → Lib.parseUintM (2 ^ 64 - 1) 0 (Lib.decDigits u) = .ok u := by
  induction u using Nat.strongRecOn with
  | ind u ih =>
    intro hu
    rw [Lib.decDigits]
    split
    · rename_i h
      have := QnZ (acc := 0) h (by omega)
      rw [this]; congr 1; omega
    · rename_i h
      rw [Qo0 _ _ _ _ _ (ih (u / 10) (by omega) (by omega)), QnZ (by omega) (by omega)]
      congr 1; omega
theorem QbA (u : Nat) : ∀ c ∈ Lib.decDigits u, Q17 c = true := by
  induction u using Nat.strongRecOn with
  | ind u ih =>
    intro c hc
    have hd : ∀ d, d < 10 → Q17 (UInt8.ofNat (48 + d)) = true := fun d h => by unfold Q17; rw [QoS h]; exact decide_eq_true (by omega)
    rw [Lib.decDigits] at hc
    split at hc
    · rename_i h; simp only [List.mem_singleton] at hc; subst hc; exact hd u h
    · rename_i h
      rcases List.mem_append.1 hc with hc | hc
      · exact ih _ (by omega) c hc
      · simp only [List.mem_singleton] at hc; subst hc; exact hd _ (by omega)
theorem Q59 (u : Nat) : ∃ c r, Lib.decDigits u = c :: r ∧ Q17 c = true := by
  cases h : Lib.decDigits u with
  | nil =>
    exfalso
    rw [Lib.decDigits] at h
    split at h
    · cases h
    · simp at h
  | cons c r => exact ⟨c, r, rfl, QbA u c (by rw [h]; exact List.mem_cons_self ..)⟩
theorem num_itoa {n : Int} (h0 : -9223372036854775808 ≤ n) (h1 : n ≤ 9223372036854775807) : QdP (Lib.itoa n) = some n := by
  have hok : Lib.parseIntB 64 (Lib.itoa n) = .ok n := by
    by_cases hn : n < 0
    · obtain ⟨c, r, hc, _⟩ := Q59 n.natAbs
      have e : Lib.itoa n = 45 :: Lib.decDigits n.natAbs := by unfold Lib.itoa; rw [if_pos hn]
      have e2 : Lib.parseUintB 64 (Lib.decDigits n.natAbs) = .ok n.natAbs := by
        unfold Lib.parseUintB; rw [if_neg (by rw [hc]; simp), Qhm _ (by omega)]
      rw [e]
      simp only [Lib.parseIntB]
      rw [if_pos (by decide), e2]
      dsimp only
      rw [if_neg (fun h => h.1 (by decide)), if_neg (fun h => by have := h.2; omega), if_pos (by decide)]
      congr 1; omega
    · obtain ⟨c, r, hc, hd⟩ := Q59 n.toNat
      have e : Lib.itoa n = Lib.decDigits n.toNat := by unfold Lib.itoa; rw [if_neg hn]
      have e2 : Lib.parseUintB 64 (Lib.decDigits n.toNat) = .ok n.toNat := by
        unfold Lib.parseUintB; rw [if_neg (by rw [hc]; simp), Qhm _ (by omega)]
      have hd2 : 48 ≤ c.toNat ∧ c.toNat ≤ 57 := of_decide_eq_true hd
      rw [e]
      rw [hc] at e2 ⊢
      simp only [Lib.parseIntB]
      rw [if_neg (by omega), e2]
      dsimp only
      rw [if_neg (by omega), if_neg (by omega), if_neg (by omega)]
      congr 1; omega
  unfold QdP
  rw [hok]
  simp
/-! ### tokens of a text -/
abbrev Tk := List UInt8 × Option Int
abbrev Tok.tk (t : Tok) : Tk := (t.text, t.num)
def Qnd (s : List UInt8) (ts : List Tk) : Prop := ∀ (n k : Nat) (acc : List Tok), s.length < k → ∃ res, Q1Z n k (skip false s) acc = .ok (acc ++ res) ∧ res.map Tok.tk = ts
/-- No letter and no digit stands here. -/
def Sep (s : List UInt8) : Prop := ∀ c r, s = c :: r → Q3e c = false ∧ Q17 c = false
theorem scans_sp {c : UInt8} {s : List UInt8} {ts : List Tk} (hc : c = 10 ∨ c = 32 ∨ c = 9 ∨ c = 13) (h : Qnd s ts) : Qnd (c :: s) ts := fun n k acc hk => by
  rw [skip, if_pos hc]; exact h n k acc (by simp at hk; omega)
theorem Qa8 {t s : List UInt8} {m : Option Int} {ts : List Tk} (ht : tok1 (t ++ s) = .ok (t, m)) (h : Qnd s ts) : Qnd (t ++ s) ((t, m) :: ts) := fun n k acc hk => by
  have hl := Q7g ht
  have hs := Qnu ht s
  rw [hs]
  match t, hl, k, hk with
  | c :: t, _, k + 1, hk =>
    obtain ⟨res, h1, h2⟩ := h n k (acc ++ [⟨n - (c :: t ++ s).length, c :: t, m⟩]) (by simp at hk; omega)
    refine ⟨⟨n - (c :: t ++ s).length, c :: t, m⟩ :: res, ?_, by rw [List.map_cons, h2]⟩
    rw [List.cons_append] at ht h1 ⊢
    rw [Q1Z, ht]
    dsimp only
    rw [← List.cons_append, List.drop_left, List.cons_append, h1, List.append_assoc]; rfl
theorem Q90 {p : UInt8 → Bool} : ∀ {l : List UInt8}, (∀ x ∈ l, p x = true) → l.takeWhile p = l
  | [], _ => rfl
  | c :: l, h => by rw [List.takeWhile_cons, if_pos (h c (List.mem_cons_self ..)), Q90 fun x hx => h x (List.mem_cons_of_mem _ hx)]
theorem Q4U {p : UInt8 → Bool} {l s : List UInt8} (hl : ∀ x ∈ l, p x = true) (hs : ∀ c r, s = c :: r → p c = false) : (l ++ s).takeWhile p = l := by
  cases s with
  | nil => rw [List.append_nil]; exact Q90 hl
  | cons c r => exact Q1W hl (hs c r rfl)
theorem tok_word {t s : List UInt8} (h0 : t ≠ []) (h : ∀ x ∈ t, Q3e x = true) (hs : Sep s) : tok1 (t ++ s) = .ok (t, none) := by
  match t, h0 with
  | c :: t, _ =>
    rw [List.cons_append, Q3W (h c (List.mem_cons_self ..)), ← List.cons_append, Q4U h fun c r e => (hs c r e).1]
theorem QdZ {c : UInt8} (h : Q17 c = true) : ¬ Q3e c = true ∧ ¬ c = 62 := by
  have h1 : 48 ≤ c.toNat ∧ c.toNat ≤ 57 := of_decide_eq_true h
  refine ⟨fun h2 => ?_, ?_⟩
  · have := of_decide_eq_true h2; omega
  · rintro rfl; exact absurd h1 (by decide)
theorem tok_num {n : Int} {s : List UInt8} (h0 : -9223372036854775808 ≤ n) (h1 : n ≤ 9223372036854775807) (hs : Sep s) : tok1 (Lib.itoa n ++ s) = .ok (Lib.itoa n, some n) := by
  have hn := num_itoa h0 h1
  have hd : ∀ c r, s = c :: r → Q17 c = false := fun c r e => (hs c r e).2
  by_cases hneg : n < 0
  · have e : Lib.itoa n = 45 :: Lib.decDigits n.natAbs := by unfold Lib.itoa; rw [if_pos hneg]
    rw [e] at hn ⊢
    obtain ⟨c, r, hc, hcd⟩ := Q59 n.natAbs
    have hall := QbA n.natAbs
    rw [hc] at hn hall ⊢
    rw [List.cons_append, List.cons_append, Q3V (QdZ hcd).2 hcd, ← List.cons_append, Q4U hall hd]
    unfold numT; rw [hn]
  · have e : Lib.itoa n = Lib.decDigits n.toNat := by unfold Lib.itoa; rw [if_neg hneg]
    rw [e] at hn ⊢
    obtain ⟨c, r, hc, hcd⟩ := Q59 n.toNat
    have hall := QbA n.toNat
    rw [hc] at hn hall ⊢
    rw [List.cons_append, Q2E (QdZ hcd).1 hcd, ← List.cons_append, Q4U hall hd]
    unfold numT; rw [hn]
theorem Qdx {c : UInt8} (h : Qav c = true) : Q3e c = false ∧ Q17 c = false ∧ ¬ c = 45 := by
  have hall : ∀ p : Fin 256, Qav (UInt8.ofNat p.val) = true → Q3e (UInt8.ofNat p.val) = false ∧ Q17 (UInt8.ofNat p.val) = false ∧ ¬ UInt8.ofNat p.val = 45 := by decide +kernel
  have h1 := hall ⟨c.toNat, c.toNat_lt⟩
  simp only [UInt8.ofNat_toNat] at h1
  exact h1 h
theorem Qns {c : UInt8} {s : List UInt8} (h : Qav c = true) : tok1 ([c] ++ s) = .ok ([c], none) := by
  obtain ⟨h1, h2, h3⟩ := Qdx h
  exact QcX (by rw [h1]; decide) (by rw [h2]; decide) h3 h
/-! ### texts that are Q6q -/
def Pr (t : List UInt8) (g : List Tk) : Prop := ∀ s ts, Sep s → Qnd s ts → Qnd (t ++ s) (g ++ ts)
theorem sep_c {c : UInt8} {s : List UInt8} (h : Q3e c = false ∧ Q17 c = false) : Sep (c :: s) := fun a r e => by cases e; exact h
theorem Pr.nil : Pr [] [] := fun s ts _ h => h
theorem Pr.app {a b : List UInt8} {g h : List Tk} (ha : Pr a g) (hb : Pr b h) (hs : ∀ s, Sep s → Sep (b ++ s)) : Pr (a ++ b) (g ++ h) := fun s ts h1 h2 => by
  rw [List.append_assoc, List.append_assoc]; exact ha _ _ (hs s h1) (hb s ts h1 h2)
theorem Pr.sp {b : List UInt8} {c : UInt8} {h : List Tk} (hc : c = 10 ∨ c = 32 ∨ c = 9 ∨ c = 13) (hb : Pr b h) : Pr (c :: b) h := fun s ts h1 h2 => scans_sp hc (hb s ts h1 h2)
theorem Pr.word {t : List UInt8} (h0 : t ≠ []) (h : ∀ x ∈ t, Q3e x = true) : Pr t [(t, none)] := fun s ts h1 h2 => Qa8 (tok_word h0 h h1) h2
theorem Pr.num {n : Int} (h0 : -9223372036854775808 ≤ n) (h1 : n ≤ 9223372036854775807) : Pr (Lib.itoa n) [(Lib.itoa n, some n)] := fun s ts h2 h3 => Qa8 (tok_num h0 h1 h2) h3
theorem Pr.sig {c : UInt8} (h : Qav c = true) : Pr [c] [([c], none)] := fun s ts h1 h2 => Qa8 (Qns h) h2
/-- A sign may stand ahead of whatever comes. -/
theorem Pr.sigl {c : UInt8} {b : List UInt8} {g : List Tk} (h : Qav c = true) (hb : Pr b g) : Pr (c :: b) (([c], none) :: g) := fun s ts h1 h2 => Qa8 (Qns h) (hb s ts h1 h2)
theorem Pr.sigr {c : UInt8} {b : List UInt8} {g : List Tk} (h : Qav c = true) (hb : Pr b g) : Pr (b ++ [c]) (g ++ [([c], none)]) := hb.app (Pr.sig h) fun s _ => sep_c ⟨(Qdx h).1, (Qdx h).2.1⟩
/-- Things with Q43 between. -/
def Q43 : List (List Tk) → List Tk
  | [] => []
  | [g] => g
  | g :: l => g ++ ([44], none) :: Q43 l
theorem Qkp (g h : List Tk) (l : List (List Tk)) : Q43 (g :: h :: l) = g ++ ([44], none) :: Q43 (h :: l) := rfl
theorem join_cc {x y : List UInt8} {l : List (List UInt8)} {sep : List UInt8} : Lib.join (x :: y :: l) sep = x ++ (sep ++ Lib.join (y :: l) sep) := by
  rw [Lib.join_cons, Lib.join_cons]; simp [Lib.joinTail]
theorem Pr.join : ∀ {l : List (List UInt8 × List Tk)}, (∀ x ∈ l, Pr x.1 x.2) → Pr (Lib.join (l.map Prod.fst) [44, 32]) (Q43 (l.map Prod.snd))
  | [], _ => Pr.nil
  | [x], h => by
    have := h x (List.mem_cons_self ..)
    simp only [List.map_cons, List.map_nil]
    rw [Lib.join_one, Q43]; exact this
  | x :: y :: l, h => by
    have h1 := h x (List.mem_cons_self ..)
    have h2 := Pr.join (l := y :: l) fun z hz => h z (List.mem_cons_of_mem _ hz)
    simp only [List.map_cons] at h2 ⊢
    rw [join_cc, Qkp]
    exact h1.app (Pr.sigl (by decide) (h2.sp (by decide))) fun s _ => sep_c (by decide)
theorem Pr.listOf {α : Type} {f : α → List UInt8} {g : α → List Tk} {l : List α} {b e : UInt8} (h : ∀ x ∈ l, Pr (f x) (g x)) (hb : Qav b = true) (he : Qav e = true) : Pr ([b] ++ Lib.join (l.map f) [44, 32] ++ [e]) (([b], none) :: (Q43 (l.map g) ++ [([e], none)])) := by
  have h1 := Pr.join (l := l.map fun x => (f x, g x)) (by intro x hx; obtain ⟨y, hy, rfl⟩ := List.mem_map.1 hx; exact h y hy)
  simp only [List.map_map] at h1
  exact Pr.sigl hb (Pr.sigr he h1)
/-! ### modules' tokens -/
abbrev nt (n : Int) : Tk := (Lib.itoa n, some n)
abbrev wt (t : List UInt8) : Tk := (t, none)
def intsTk (b : UInt8) (l : List Int) (e : UInt8) : List Tk := wt [b] :: (Q43 (l.map fun n => [nt n]) ++ [wt [e]])
mutual
def Ty.tks : Ty → List Tk
  | .mk k r l => if k = 2 then [wt Q3c, nt r] else if k = 4 then [wt Q6h, nt r] else if k = 3 then wt Q3j :: nt r :: wt [40] :: (Q43 (Tys.tkss l) ++ [wt [41]]) else [wt tInt]
def Tys.tkss : List Ty → List (List Tk)
  | [] => []
  | x :: l => x.tks :: Tys.tkss l
end
theorem Tys.tkss_map : ∀ (l : List Ty), Tys.tkss l = l.map Ty.tks
  | [] => by rw [Tys.tkss]; rfl
  | x :: l => by rw [Tys.tkss, Tys.tkss_map l]; rfl
def SmL (l : List Int) : Prop := ∀ n ∈ l, 0 ≤ n ∧ n ≤ 1000000
end Go.Lir
namespace Go.Lir
section
variable {n : Nat} {r r1 r2 r3 r4 : List UInt8} {e : Flt} {op a : Int} {yes no : To} {l : List Int}
variable {h j : Nat} {x : Int × Int × Int × Int} {y : Int} {X : Got (Int × Int × Int × Int)}
end
end Go.Lir
namespace Go.Lir
set_option linter.unusedVariables false
section
variable {α : Type} {n : Nat}
def InI (x : Int) : Prop := -9223372036854775808 ≤ x ∧ x ≤ 9223372036854775807
end
end Go.Lir
namespace Go.Lir
set_option linter.unusedVariables false
def hasB (l : List Bool) (r : Int) : Bool := decide (0 ≤ r) && decide (r < l.length) && l.getD r.toNat false

/-! ### What both answer is the same -/

end Go.Lir
namespace Go.Lir
set_option linter.unusedVariables false
/-- Which regions are held, which values there are. -/
structure JS where
  h : List Bool
  l : List Ty
deriving instance DecidableEq for JS
def ebind {α β : Type} (x : Except Int α) (f : α → Except Int β) : Except Int β := match x with
  | .error e => .error e
  | .ok a => f a
def jput (s : JS) (t : Ty) : Except Int JS := if s.l.length = 80 then .error 2 else .ok ⟨s.h, s.l ++ [t]⟩
def number : Ty := .mk 1 0 []
/-! ### What is true of it -/
theorem jput_ok {s s' : JS} {t : Ty} (h : jput s t = .ok s') : s.l.length ≠ 80 ∧ s'.h = s.h ∧ s'.l = s.l ++ [t] := by
  unfold jput at h
  split at h
  · cases h
  · rename_i hk; cases h; exact ⟨hk, rfl, rfl⟩
/-- How an instruction that is let by changes what is known. -/
structure JStep (x : Ins) (s s' : JS) : Prop where
  len : s.l.length ≤ 80 → s'.l.length ≤ 80
  pre : ∃ more, s'.l = s.l ++ more ∧ (x.op ≠ 14 → more.length ≤ 1) ∧ (x.op = 3 → more.length = 1) ∧ (x.op = 4 → more = [])
  new : x.op = 3 → s'.h = s.h ++ [true] ∧ s.h.length ≠ 16
  free : x.op = 4 → ∃ t, 0 ≤ x.a ∧ s.l[x.a.toNat]? = some t ∧ t.kind = 2 ∧ hasB s.h t.r = true ∧ s'.h = s.h.set t.r.toNat false
  else_ : x.op ≠ 3 → x.op ≠ 4 → s'.h = s.h
section
variable {s : JS} {regs l : List Int} {want : List Ty} {k : Nat} {x c : Int} {u u' t : Ty}
end
section
variable {m : Module} {f : Fun} {s : JS} {x : Ins}
end
section
variable {f : Fun} {s : JS} {t : To} {b : Block} {e : Tail}
end
/-! ### A code that is told is not 0 -/
def NZ {α : Type} (x : Except Int α) : Prop := ∀ c, x = .error c → c ≠ 0
theorem NZ.e {α : Type} {c : Int} (h : c ≠ 0) : NZ (.error c : Except Int α) := fun _ h' => by cases h'; exact h
theorem NZ.o {α : Type} (a : α) : NZ (.ok a : Except Int α) := fun _ h' => by cases h'
theorem NZ.bind {α β : Type} {x : Except Int α} {f : α → Except Int β} (h1 : NZ x) (h2 : ∀ a, x = .ok a → NZ (f a)) : NZ (ebind x f) := by
  cases x with
  | error e => exact fun c h => by cases h; exact h1 _ rfl
  | ok a => exact h2 a rfl
theorem NZ.ite {α : Type} {p : Prop} [Decidable p] {a b : Except Int α} (h1 : NZ a) (h2 : NZ b) : NZ (if p then a else b) := by
  split
  · exact h1
  · exact h2
end Go.Lir
namespace Go.Lir
set_option linter.unusedVariables false
/-! ### A module of the right form -/
/-! ### What is renamed is short -/
theorem Ty.Short.part {t : Ty} (h : t.Short) : ∀ u ∈ t.l, u.Short := by
  obtain ⟨k, r, l⟩ := t
  exact h.parts.2
/-! ### What stays so -/
structure JGood (s : JS) : Prop where
  n : s.l.length ≤ 80
  h : s.h.length ≤ 16
  s : ∀ t ∈ s.l, t.Short
theorem JGood.put {s s' : JS} {t : Ty} (hg : JGood s) (ht : t.Short) (h : jput s t = .ok s') : JGood s' := by
  obtain ⟨h1, h2, h3⟩ := jput_ok h
  refine ⟨by rw [h3, List.length_append]; have := hg.n; simp only [List.length_cons, List.length_nil]; omega, by rw [h2]; exact hg.h, fun u hu => ?_⟩
  rw [h3] at hu
  rcases List.mem_append.1 hu with hu | hu
  · exact hg.s u hu
  · simp at hu; subst hu; exact ht
/-! ### What was freed -/
/-! ### What is held, as a list -/
end Go.Lir
namespace Go.Lir
set_option linter.unusedVariables false
variable {α : Type}
/-- A kind of data of which more is known. -/
def Rep.an (r : Rep α) (p : α → Prop) : Rep α where
  es := r.es
  pos := r.pos
  R := fun H K cs x => r.R H K cs x ∧ p x
  len := fun h => r.len h.1
  one := fun h => r.one h.1
  turn := fun h hs => ⟨r.turn h.1 hs, h.2⟩
def To.InR (t : To) : Prop := InI t.block ∧ (∀ n ∈ t.regs, InI n) ∧ ∀ n ∈ t.args, InI n
def Ins.InR (x : Ins) : Prop := (InI x.op ∧ InI x.a ∧ InI x.b ∧ InI x.c ∧ InI x.k ∧ InI x.n) ∧ (∀ n ∈ x.regs, InI n) ∧ ∀ n ∈ x.args, InI n
def Tail.InR (x : Tail) : Prop := InI x.op ∧ InI x.a ∧ x.yes.InR ∧ x.no.InR ∧ ∀ n ∈ x.args, InI n
def Block.InR (x : Block) : Prop := InI x.regs ∧ (∀ t ∈ x.params, t.InR) ∧ (∀ i ∈ x.code, i.InR) ∧ x.fin.InR
def Fun.InR (x : Fun) : Prop := InI x.regs ∧ (∀ t ∈ x.params, t.InR) ∧ (∀ t ∈ x.results, t.InR) ∧ ∀ b ∈ x.blocks, b.InR
def Module.InR (m : Module) : Prop := ∀ f ∈ m.funcs, f.InR
section
variable {P : Program} {T e : TypeId}
end
/-! ### of the right form: read as written -/
theorem Qcb {fields : Nat} {n : Int} : ∀ {l : List Ty}, Tys.wrong fields l n = 0 → ∀ t ∈ l, t.wrong fields n = 0
  | [], _, t, ht => by cases ht
  | x :: l, h, t, ht => by
    rw [Tys.wrong] at h
    split at h
    · rename_i h0; exact absurd h h0
    · rename_i h0
      rcases List.mem_cons.1 ht with rfl | ht
      · exact Classical.not_not.1 h0
      · exact Qcb h t ht
theorem Ty.wrong_parts {k r n : Int} {l : List Ty} {fields : Nat} (h : (Ty.mk k r l).wrong fields n = 0) : (1 ≤ k ∧ k ≤ 4) ∧ (k = 1 → r = 0) ∧ (k ≠ 3 → l.length = 0) ∧ l.length ≤ fields ∧ ∀ t ∈ l, t.wrong fields n = 0 := by
  rw [Ty.wrong] at h
  split at h; · cases h
  split at h; · cases h
  split at h; · cases h
  split at h; · cases h
  exact ⟨by omega, by omega, by omega, by omega, Qcb h⟩
theorem QmE : ∀ {l : List Ty} {left : Int}, Tys.deepB l left = true → ∀ t ∈ l, t.deepB left = true
  | [], _, _, t, ht => by cases ht
  | x :: l, left, h, t, ht => by
    rw [Tys.deepB, Bool.and_eq_true] at h
    rcases List.mem_cons.1 ht with rfl | ht
    · exact h.1
    · exact QmE h.2 t ht
/-! ### few parts are short lists -/
end Go.Lir
namespace Go.Lir
set_option linter.unusedVariables false
def Qf9 (l : List Int) : Prop := l.length ≤ 16 ∧ ∀ n ∈ l, InI n
def TysPr (l : List Ty) : Prop := Tys.nodes l ≤ 40000 ∧ ∀ x ∈ l, x.InR
def To.Pr (t : To) : Prop := InI t.block ∧ Qf9 t.regs ∧ Qf9 t.args
def Ins.Pr (x : Ins) : Prop := (InI x.op ∧ InI x.a ∧ InI x.b ∧ InI x.c ∧ InI x.k ∧ InI x.n) ∧ Qf9 x.regs ∧ Qf9 x.args
def Tail.Pr (x : Tail) : Prop := InI x.a ∧ x.yes.Pr ∧ x.no.Pr ∧ Qf9 x.args
def Block.Pr (x : Block) : Prop := InI x.regs ∧ TysPr x.params ∧ (x.code.length ≤ 40 ∧ ∀ i ∈ x.code, i.Pr) ∧ x.fin.Pr
def Fun.Pr (x : Fun) : Prop := InI x.regs ∧ TysPr x.params ∧ TysPr x.results ∧ x.blocks.length ≤ 12 ∧ ∀ b ∈ x.blocks, b.Pr
def Module.Pr (m : Module) : Prop := m.funcs.length ≤ 8 ∧ ∀ f ∈ m.funcs, f.Pr
theorem Q4n {n : Int} (h : InI n) : (Lib.itoa n).length ≤ 21 := Lib.itoa_length_le n h.1 h.2
theorem Qnv {k : Nat} : ∀ {xs : List (List UInt8)}, (∀ x ∈ xs, x.length ≤ k) → (Lib.joinTail [44, 32] xs).length ≤ (k + 2) * xs.length
  | [], _ => by simp [Lib.joinTail]
  | x :: xs, h => by
    have h1 := h x (List.mem_cons_self ..)
    have h2 := Qnv (xs := xs) fun y hy => h y (List.mem_cons_of_mem _ hy)
    rw [List.length_cons, Nat.mul_succ]
    simp only [Lib.joinTail, List.map_cons, List.flatten_cons, List.length_append, List.length_cons, List.length_nil] at h2 ⊢
    omega
theorem join_le {k : Nat} {xs : List (List UInt8)} (h : ∀ x ∈ xs, x.length ≤ k) : (Lib.join xs [44, 32]).length ≤ (k + 2) * xs.length := by
  cases xs with
  | nil => rw [Lib.join_nil]; simp
  | cons x xs =>
    have h1 := h x (List.mem_cons_self ..)
    have h2 := Qnv (xs := xs) fun y hy => h y (List.mem_cons_of_mem _ hy)
    rw [Lib.join_cons, List.length_append, List.length_cons, Nat.mul_succ]
    omega
theorem ints_le {l : List Int} (h : Qf9 l) : (Lib.join (l.map Lib.itoa) [44, 32]).length ≤ 368 := by
  have := join_le (k := 21) (xs := l.map Lib.itoa) (by intro x hx; obtain ⟨n, hn, rfl⟩ := List.mem_map.1 hx; exact Q4n (h.2 n hn))
  rw [List.length_map] at this
  have := h.1; omega
theorem Q4H {l : List Int} {b e : List UInt8} (h : Qf9 l) (hb : b.length = 1) (he : e.length = 1) : (Q3P b l e).length ≤ 370 := by
  have := ints_le h
  unfold Q3P
  simp only [List.length_append]; omega
theorem To.txt_le {t : To} (h : t.Pr) : t.txt.length ≤ 763 := by
  have h1 := Q4n h.1
  have h2 := Q4H h.2.1 (b := [60]) (e := [62]) rfl rfl
  have h3 := Q4H h.2.2 (b := [40]) (e := [41]) rfl rfl
  unfold To.txt
  simp only [List.length_append, List.length_cons, List.length_nil]; omega
theorem QjT {ws : List (List UInt8)} (h : ws.all (fun w => decide (w.length ≤ 6)) = true) (k : Int) : (wordN ws k).length ≤ 6 := by
  unfold wordN
  split
  · simp
  · rw [List.getD_eq_getElem?_getD]
    cases hg : ws[k.toNat - 1]? with
    | none => simp
    | some w => simpa using of_decide_eq_true (List.all_eq_true.1 h w (List.mem_of_getElem? hg))
theorem join_sp1 (x y : List UInt8) : Lib.join [x, y] [32] = x ++ [32] ++ y := by rw [Lib.join_cons]; simp [Lib.joinTail]
theorem join_sp2 (x y z : List UInt8) : Lib.join [x, y, z] [32] = x ++ [32] ++ y ++ [32] ++ z := by rw [Lib.join_cons]; simp [Lib.joinTail]
theorem join_sp3 (x y z u : List UInt8) : Lib.join [x, y, z, u] [32] = x ++ [32] ++ y ++ [32] ++ z ++ [32] ++ u := by rw [Lib.join_cons]; simp [Lib.joinTail]
theorem Ins.txt_le {x : Ins} (h : x.Pr) : x.txt.length ≤ 800 := by
  obtain ⟨⟨h0, h1, h2, h3, h4, h5⟩, h6, h7⟩ := h
  have w1 := QjT (ws := opWords) (by decide) x.op
  have w2 := QjT (ws := kindWords) (by decide) x.k
  have g1 := Q4n h1
  have g2 := Q4n h2
  have g3 := Q4n h3
  have g4 := Q4n h4
  have g5 := Q4n h5
  have g6 := Q4H h6 (b := [60]) (e := [62]) rfl rfl
  have g7 := Q4H h7 (b := [40]) (e := [41]) rfl rfl
  unfold Ins.txt Ins.rest
  repeat' split
  all_goals (first | rw [Lib.join_one] | rw [join_sp1] | rw [join_sp2] | rw [join_sp3])
  all_goals ((try simp only [List.length_append, List.length_cons, List.length_nil]); omega)
theorem Tail.txt_le {t : Tail} (h : t.Pr) : t.txt.length ≤ 1600 := by
  have h1 := Q4n h.1
  have h2 := To.txt_le h.2.1
  have h3 := To.txt_le h.2.2.1
  have h4 := Q4H h.2.2.2 (b := [40]) (e := [41]) rfl rfl
  unfold Tail.txt
  repeat' split
  all_goals (simp only [List.length_append, List.length_cons, List.length_nil]; omega)
theorem Qhx : ∀ {l : List Ins}, (∀ i ∈ l, i.Pr) → (Qe9 l).length ≤ 803 * l.length
  | [], _ => by simp [Qe9]
  | x :: l, h => by
    have h1 := Ins.txt_le (h x (List.mem_cons_self ..))
    have h2 := Qhx (l := l) fun y hy => h y (List.mem_cons_of_mem _ hy)
    rw [Qe9]
    simp only [List.length_append, List.length_cons, List.length_nil]; omega
theorem Qd9 {l : List Ty} (h : TysPr l) : (Q8Y l).length ≤ 2400002 := by
  have := Tys.join_len l h.2
  have h1 := h.1
  unfold Q8Y
  simp only [List.length_append, List.length_cons, List.length_nil]; omega
theorem Block.txt_le {b : Block} (h : b.Pr) : b.txt.length ≤ 2500000 := by
  have h1 := Q4n h.1
  have h2 := Qd9 h.2.1
  have h3 := Qhx h.2.2.1.2
  have h4 := h.2.2.1.1
  have h5 := Tail.txt_le h.2.2.2
  unfold Block.txt
  simp only [List.length_append, List.length_cons, List.length_nil]; omega
theorem Qci : ∀ {l : List Block}, (∀ i ∈ l, i.Pr) → (Q7b l).length ≤ 2500000 * l.length
  | [], _ => by simp [Q7b]
  | x :: l, h => by
    have h1 := Block.txt_le (h x (List.mem_cons_self ..))
    have h2 := Qci (l := l) fun y hy => h y (List.mem_cons_of_mem _ hy)
    rw [Q7b]
    simp only [List.length_append, List.length_cons]; omega
theorem Fun.txt_le {b : Fun} (h : b.Pr) : b.txt.length ≤ 35000000 := by
  have h1 := Q4n h.1
  have h2 := Qd9 h.2.1
  have h3 := Qd9 h.2.2.1
  have h4 := h.2.2.2.1
  have h5 := Qci h.2.2.2.2
  unfold Fun.txt
  simp only [List.length_append, List.length_cons, List.length_nil]; omega
/-! ### which modules may be Q6q -/
/-! ### a list's text as it grows -/
def Qov {α : Type} (f : α → List UInt8) (l : List α) (j : Nat) : List UInt8 := Lib.join ((l.take j).map f) [44, 32]
end Go.Lir
namespace Go.Lir
set_option linter.unusedVariables false
section
variable {α β : Type}
/-- A reader that reads these tokens as this thing. -/
def Rd (f : List Tok → PGot α) (g : List Tk) (a : α) : Prop := ∀ (l : List Tok) (ts : List Tk), l.map Tok.tk = g ++ ts → ∃ l', f l = .ok (a, l') ∧ l'.map Tok.tk = ts
theorem Rd.bind {f : List Tok → PGot α} {h : α → List Tok → PGot β} {g g2 : List Tk} {a : α} {b : β} (h1 : Rd f g a) (h2 : Rd (h a) g2 b) : Rd (fun l => Qc (f l) h) (g ++ g2) b := fun l ts hl => by
  obtain ⟨l1, e1, m1⟩ := h1 l (g2 ++ ts) (by rw [hl, List.append_assoc])
  obtain ⟨l2, e2, m2⟩ := h2 l1 ts m1
  exact ⟨l2, by show Qc (f l) h = _; rw [e1]; exact e2, m2⟩
theorem Rd.bind1 {f : List Tok → PGot α} {h : α → List Tok → PGot β} {g2 : List Tk} {t : Tk} {a : α} {b : β} (h1 : Rd f [t] a) (h2 : Rd (h a) g2 b) : Rd (fun l => Qc (f l) h) (t :: g2) b := h1.bind h2
theorem Rd.last {f : List Tok → PGot α} {h : α → List Tok → PGot β} {g : List Tk} {a : α} {b : β} (h1 : Rd f g a) (h2 : Rd (h a) [] b) : Rd (fun l => Qc (f l) h) g b := by
  have := h1.bind h2; rwa [List.append_nil] at this
theorem Rd.pure (a : α) : Rd (fun l => .ok (a, l)) [] a := fun l ts hl => ⟨l, rfl, hl⟩
theorem map_cons {l : List Tok} {t : Tk} {ts : List Tk} (h : l.map Tok.tk = t :: ts) : ∃ x r, l = x :: r ∧ x.tk = t ∧ r.map Tok.tk = ts := by
  cases l with
  | nil => cases h
  | cons x r => rw [List.map_cons] at h; cases h; exact ⟨x, r, rfl, rfl, rfl⟩
theorem Q3u {l : List Tok} {s s2 : List UInt8} {m : Option Int} {ts : List Tk} (h : l.map Tok.tk = (s2, m) :: ts) : isT s l = (m.isNone && decide (s2 = s)) := by
  obtain ⟨x, r, rfl, h1, h2⟩ := map_cons h
  simp only [Tok.tk, Prod.mk.injEq] at h1
  show (x.num.isNone && decide (x.text = s)) = _
  rw [h1.1, h1.2]
theorem Q48 {l : List Tok} {t : Tk} {ts : List Tk} (h : l.map Tok.tk = t :: ts) : l.tail.map Tok.tk = ts := by
  obtain ⟨x, r, rfl, h1, h2⟩ := map_cons h; exact h2
theorem Rd.want {e : Nat} {s : List UInt8} : Rd (want e s) [wt s] () := fun l ts hl => by
  have hl : l.map Tok.tk = (s, none) :: ts := hl
  refine ⟨l.tail, ?_, Q48 hl⟩
  unfold Lir.want
  rw [Q3u hl, if_pos (by simp)]
theorem Rd.long {e : Nat} {n : Int} : Rd (Q61 e) [nt n] n := fun l ts hl => by
  obtain ⟨x, r, rfl, h1, h2⟩ := map_cons hl
  simp only [Tok.tk, Prod.mk.injEq] at h1
  refine ⟨r, ?_, h2⟩
  unfold Q61
  simp only [h1.2]
theorem Rd.num {e : Nat} {n : Int} (h0 : 0 ≤ n ∧ n ≤ 1000000) : Rd (pNum e) [nt n] n := fun l ts hl => by
  obtain ⟨l', e1, h1⟩ := Rd.long (e := e) l ts hl
  refine ⟨l', ?_, h1⟩
  unfold pNum
  rw [if_neg, e1]
  obtain ⟨x, r, rfl, h2, h3⟩ := map_cons hl
  simp only [Tok.tk, Prod.mk.injEq] at h2
  unfold wideT
  simp only [h2.2]
  intro h9
  have := of_decide_eq_true h9
  omega
/-- The tokens of a list behind its first thing. -/
def Q77 (g : α → List Tk) : List α → List Tk
  | [] => []
  | x :: xs => wt [44] :: (g x ++ Q77 g xs)
theorem Qko (g : α → List Tk) : ∀ (x : α) (xs : List α), Q43 ((x :: xs).map g) = g x ++ Q77 g xs
  | x, [] => by simp [Q43, Q77]
  | x, y :: xs => by
    have := Qko g y xs
    rw [List.map_cons, List.map_cons, Qkp, ← List.map_cons, this]; rfl
/-- It begins with another token than this sign. -/
def Beg (cl : List UInt8) (g : List Tk) : Prop := ∃ t m r, g = (t, m) :: r ∧ (m.isNone && decide (t = cl)) = false
theorem Qor {e : Nat} {cl : List UInt8} {f : List Tok → PGot α} {g : α → List Tk} (hcl : cl ≠ [44]) : ∀ (xs : List α) (k n : Nat), 0 < n → xs.length < k → (∀ x ∈ xs, Rd f (g x) x) → Rd (pMany e cl f k n) (Q77 g xs ++ [wt cl]) xs
  | [], k + 1, n, hn, hk, h => fun l ts hl => by
    have hl : l.map Tok.tk = (cl, none) :: ts := hl
    rw [pMany, Q3u hl, if_pos (by simp)]
    exact ⟨_, rfl, Q48 hl⟩
  | x :: xs, k + 1, n, hn, hk, h => fun l ts hl => by
    have hl2 : l.map Tok.tk = (([44] : List UInt8), none) :: (g x ++ (Q77 g xs ++ [wt cl] ++ ts)) := by rw [hl]; simp [Q77, List.append_assoc]
    rw [pMany, Q3u hl2, if_neg (by simpa using fun h => hcl h.symm), if_neg (by omega)]
    have h1 : Rd (want e [44]) [wt [44]] () := Rd.want
    obtain ⟨l1, e1, m1⟩ := h1 l _ hl2
    obtain ⟨l2, e2, m2⟩ := h x (List.mem_cons_self ..) l1 _ m1
    obtain ⟨l3, e3, m3⟩ := Qor (e := e) hcl xs k (n + 1) (by omega) (by simp at hk; omega) (fun y hy => h y (List.mem_cons_of_mem _ hy)) l2 _ m2
    rw [e1]
    refine ⟨l3, ?_, m3⟩
    simp only [Qc, e2, e3]
theorem QdN {e : Nat} {cl : List UInt8} {f : List Tok → PGot α} (k n : Nat) (l : List Tok) : pMany e cl f (k + 1) n l = if isT cl l = true then .ok ([], l.tail) else
    Qc (if n = 0 then .ok ((), l) else want e [44] l) fun _ l => Qc (f l) fun x l => Qc (pMany e cl f k (n + 1) l) fun xs l => .ok (x :: xs, l) := by rw [pMany]
theorem Qd1 {e : Nat} {b cl : List UInt8} {f : List Tok → PGot α} {g : α → List Tk} {xs : List α} (hcl : cl ≠ [44]) (hn : xs.length ≤ 100) (h : ∀ x ∈ xs, Rd f (g x) x) (hb : ∀ x ∈ xs, Beg cl (g x)) : Rd (Q1Q e b cl f) (wt b :: (Q43 (xs.map g) ++ [wt cl])) xs := by
  unfold Q1Q
  refine Rd.bind1 Rd.want ?_
  cases xs with
  | nil =>
    intro l ts hl
    have hl : l.map Tok.tk = (cl, none) :: ts := hl
    show ∃ l', pMany e cl f 101 0 l = _ ∧ _
    rw [show pMany e cl f 101 0 l = _ from QdN 100 0 l, Q3u hl, if_pos (by simp)]
    exact ⟨_, rfl, Q48 hl⟩
  | cons x xs =>
    intro l ts hl
    rw [Qko] at hl
    obtain ⟨t, m, r, hg, hno⟩ := hb x (List.mem_cons_self ..)
    have hl2 : l.map Tok.tk = g x ++ (Q77 g xs ++ [wt cl] ++ ts) := by rw [hl]; simp [List.append_assoc]
    have hl3 : l.map Tok.tk = (t, m) :: (r ++ (Q77 g xs ++ [wt cl] ++ ts)) := by rw [hl2, hg]; rfl
    show ∃ l', pMany e cl f 101 0 l = _ ∧ _
    rw [show pMany e cl f 101 0 l = _ from QdN 100 0 l, Q3u hl3, hno, if_neg Bool.false_ne_true, if_pos rfl]
    obtain ⟨l2, e2, m2⟩ := h x (List.mem_cons_self ..) l _ hl2
    obtain ⟨l3, e3, m3⟩ := Qor (e := e) hcl xs 100 1 (by omega) (by simp at hn; omega) (fun y hy => h y (List.mem_cons_of_mem _ hy)) l2 _ m2
    refine ⟨l3, ?_, m3⟩
    simp only [Qc, e2, e3]
end
/-! ### types -/
theorem ty_beg (t : Ty) : Beg [41] t.tks := by
  obtain ⟨k, r, l⟩ := t
  rw [Ty.tks]
  repeat' split
  all_goals exact ⟨_, _, _, rfl, by decide⟩
theorem Rd.ty {e : Nat} {n : Int} (hn : n ≤ 1000000) : ∀ (k : Nat) (t : Ty), t.deepB k = true → t.wrong 8 n = 0 → Rd (pTyp e (k + 1)) t.tks t
  | k, .mk kd r l, hd, hw => by
    obtain ⟨w1, w2, w3, w4, w5⟩ := Ty.wrong_parts hw
    have hr : kd ≠ 1 → 0 ≤ r ∧ r < n := by
      intro h1
      rw [Ty.wrong] at hw
      split at hw; · cases hw
      split at hw; · cases hw
      split at hw; · cases hw
      split at hw; · cases hw
      omega
    rw [Ty.deepB] at hd
    split at hd; · cases hd
    have h6 := QmE hd
    have hz : kd ≠ 3 → l = [] := fun h => List.length_eq_zero_iff.1 (w3 h)
    intro L ts hl
    rcases (show kd = 1 ∨ kd = 2 ∨ kd = 3 ∨ kd = 4 by omega) with rfl | rfl | rfl | rfl
    · obtain rfl := hz (by decide)
      obtain rfl := w2 rfl
      rw [Ty.tks, if_neg (by decide), if_neg (by decide), if_neg (by decide)] at hl
      have hl : L.map Tok.tk = (tInt, none) :: ts := hl
      rw [pTyp, Q3u hl, if_pos (by decide)]
      exact ⟨_, rfl, Q48 hl⟩
    · obtain rfl := hz (by decide)
      rw [Ty.tks, if_pos rfl] at hl
      have hl : L.map Tok.tk = (Q3c, none) :: (nt r :: ts) := hl
      rw [pTyp, Q3u hl, if_neg (by decide), Q3u hl, if_pos (by decide)]
      obtain ⟨l1, e1, m1⟩ := Rd.num (e := e) (n := r) (by have := hr (by decide); omega) L.tail ts (Q48 hl)
      exact ⟨l1, by simp only [Qc, e1], m1⟩
    · rw [Ty.tks, if_neg (by decide), if_neg (by decide), if_pos rfl] at hl
      have hl : L.map Tok.tk = (Q3j, none) :: (nt r :: (wt [40] :: (Q43 (Tys.tkss l) ++ [wt [41]]) ++ ts)) := by rw [hl]; simp
      rw [pTyp, Q3u hl, if_neg (by decide), Q3u hl, if_neg (by decide), Q3u hl, if_neg (by decide)]
      obtain ⟨l1, e1, m1⟩ := Rd.want (e := e) (s := Q3j) L _ hl
      obtain ⟨l2, e2, m2⟩ := Rd.num (e := e) (n := r) (by have := hr (by decide); omega) l1 _ m1
      have hsub : Rd (Q1Q e [40] [41] (pTyp e k)) (wt [40] :: (Q43 (l.map Ty.tks) ++ [wt [41]])) l := by
        cases l with
        | nil => exact Qd1 (by decide) (by decide) (by simp) (by simp)
        | cons x l =>
          match k with
          | 0 =>
            have := h6 x (List.mem_cons_self ..)
            obtain ⟨a, b, c⟩ := x
            rw [Ty.deepB, if_pos (by omega)] at this
            cases this
          | k + 1 => exact Qd1 (by decide) (by omega) (fun t ht => Rd.ty hn k t (by rw [show (k : Int) = ((k + 1 : Nat) : Int) - 1 by omega]; exact h6 t ht) (w5 t ht)) fun t _ => ty_beg t
      rw [← Tys.tkss_map] at hsub
      obtain ⟨l3, e3, m3⟩ := hsub l2 _ m2
      exact ⟨l3, by simp only [Qc, e1, e2, e3], m3⟩
    · obtain rfl := hz (by decide)
      rw [Ty.tks, if_neg (by decide), if_pos rfl] at hl
      have hl : L.map Tok.tk = (Q6h, none) :: (nt r :: ts) := hl
      rw [pTyp, Q3u hl, if_neg (by decide), Q3u hl, if_neg (by decide), Q3u hl, if_pos (by decide)]
      obtain ⟨l1, e1, m1⟩ := Rd.num (e := e) (n := r) (by have := hr (by decide); omega) L.tail ts (Q48 hl)
      exact ⟨l1, by simp only [Qc, e1], m1⟩
theorem nt_beg (cl : List UInt8) (n : Int) : Beg cl [nt n] := ⟨_, _, _, rfl, rfl⟩
theorem Rd.regs {e : Nat} {l : List Int} (hl : l.length ≤ 16) (h : SmL l) : Rd (Qip e) (intsTk 60 l 62) l := Qd1 (by decide) (by omega) (fun n hn => Rd.num (h n hn)) fun n _ => nt_beg _ n
theorem Rd.args {e : Nat} {l : List Int} (hl : l.length ≤ 16) (h : SmL l) : Rd (Qaq e) (intsTk 40 l 41) l := Qd1 (by decide) (by omega) (fun n hn => Rd.num (h n hn)) fun n _ => nt_beg _ n
end Go.Lir
namespace Go.Lir
/-! ### tokens -/
section
variable {b : List UInt8}
theorem Q7i : ∀ (f : Bool) (s : List UInt8) (x : List UInt8), (∀ y ys, skip f s = y :: ys → skip f (s ++ x) = y :: ys ++ x) ∧ (skip f s = [] → skip f (s ++ 10 :: x) = skip false x)
  | f, [], x => by
    refine ⟨fun y ys h => (by rw [Qmf] at h; cases h), fun _ => ?_⟩
    rw [List.nil_append]; exact Qnz rfl
  | true, c :: r, x => by
    rw [List.cons_append, List.cons_append, skip, skip, skip]
    split
    · exact Q7i false r x
    · exact Q7i true r x
  | false, c :: r, x => by
    rw [List.cons_append, List.cons_append, skip, skip, skip]
    split
    · exact Q7i false r x
    · split
      · exact Q7i true r x
      · refine ⟨fun y ys h => ?_, fun h => by cases h⟩
        cases h; rfl
theorem Qa2 {p : UInt8 → Bool} (hp : p 10 = false) : ∀ (l : List UInt8), (l ++ 10 :: b).takeWhile p = l.takeWhile p
  | [] => by rw [List.nil_append, List.takeWhile_cons, hp]; rfl
  | x :: l => by rw [List.cons_append, List.takeWhile_cons, List.takeWhile_cons, Qa2 hp l]
theorem Qnt {l : List UInt8} {t : List UInt8} {m : Option Int} (h : tok1 l = .ok (t, m)) : tok1 (l ++ 10 :: b) = .ok (t, m) := by
  have hd : Q17 10 = false := by decide
  have hl : Q3e 10 = false := by decide
  match l, h with
  | c :: r, h =>
    rw [List.cons_append, tok1.eq_def]
    rw [tok1.eq_def] at h
    dsimp only at h ⊢
    rw [← List.cons_append, Qa2 hl, Qa2 hd]
    split
    · rename_i hc; rw [if_pos hc] at h; exact h
    · rename_i hc; rw [if_neg hc] at h
      split
      · rename_i hc; rw [if_pos hc] at h; exact h
      · rename_i hc; rw [if_neg hc] at h
        split
        · rename_i hc; rw [if_pos hc] at h
          cases r with
          | nil => cases h
          | cons d r' =>
            rw [List.cons_append]
            dsimp only at h ⊢
            rw [← List.cons_append, Qa2 hd]
            exact h
        · rename_i hc; rw [if_neg hc] at h; exact h
theorem drop_app {t s : List UInt8} (h : t.length ≤ s.length) : (s ++ 10 :: b).drop t.length = s.drop t.length ++ 10 :: b := List.drop_append_of_le_length h
theorem Qk0 {n : Nat} : ∀ (k : Nat) (u : List UInt8) (acc res : List Tok), Q1Z n k (skip false u) acc = .ok res → (skip false u).length < k →
    ∃ l, res = acc ++ l ∧ ∀ (n2 k2 : Nat) (acc2 : List Tok), (skip false (u ++ 10 :: b)).length < k2 → ∃ k3 l2, l2.map Tok.tk = l.map Tok.tk ∧ (skip false b).length < k3 ∧ Q1Z n2 k2 (skip false (u ++ 10 :: b)) acc2 = Q1Z n2 k3 (skip false b) (acc2 ++ l2)
  | 0, u, acc, res, h, hk => by omega
  | k + 1, u, acc, res, h, hk => by
    obtain ⟨h1, h2⟩ := Q7i false u (10 :: b)
    obtain ⟨_, h3⟩ := Q7i false u b
    cases hs : skip false u with
    | nil =>
      rw [hs, Q1Z] at h
      cases h
      refine ⟨[], by simp, fun n2 k2 acc2 hk2 => ⟨k2, [], rfl, ?_, ?_⟩⟩
      · rw [h3 hs] at hk2; exact hk2
      · rw [h3 hs, List.append_nil]
    | cons c r =>
      rw [hs, Q1Z] at h
      rw [hs] at hk
      split at h
      · cases h
      · rename_i t m ht
        have hlen := Q7g ht
        have hsl := Q2F false ((c :: r).drop t.length)
        rw [List.length_drop] at hsl
        obtain ⟨l, rfl, hl⟩ := Qk0 k ((c :: r).drop t.length) _ res h (by omega)
        refine ⟨⟨n - (c :: r).length, t, m⟩ :: l, by simp, fun n2 k2 acc2 hk2 => ?_⟩
        rw [h1 c r hs] at hk2 ⊢
        obtain ⟨k2, rfl⟩ : ∃ j, k2 = j + 1 := ⟨k2 - 1, by omega⟩
        rw [List.cons_append, Q1Z, ← List.cons_append, Qnt ht]
        dsimp only
        rw [drop_app hlen.2]
        have hsl2 := Q2F false ((c :: r).drop t.length ++ 10 :: b)
        rw [List.length_append, List.length_drop] at hsl2
        rw [List.length_append] at hk2
        obtain ⟨k3, l2, e1, e2, e3⟩ := hl n2 k2 (acc2 ++ [⟨n2 - (c :: r ++ 10 :: b).length, t, m⟩]) (by omega)
        refine ⟨k3, ⟨n2 - (c :: r ++ 10 :: b).length, t, m⟩ :: l2, ?_, e2, ?_⟩
        · rw [List.map_cons, List.map_cons, e1]
        · rw [e3]; simp
theorem Qhk {n : Nat} : ∀ (k : Nat) (u : List UInt8) (acc res : List Tok), Q1Z n k (skip false u) acc = .ok res → (skip false u).length < k →
    ∃ l, res = acc ++ l ∧ ∀ (n2 k2 : Nat) (acc2 : List Tok), (skip false u).length < k2 → ∃ l2, l2.map Tok.tk = l.map Tok.tk ∧ Q1Z n2 k2 (skip false u) acc2 = .ok (acc2 ++ l2)
  | 0, u, acc, res, h, hk => by omega
  | k + 1, u, acc, res, h, hk => by
    cases hs : skip false u with
    | nil =>
      rw [hs, Q1Z] at h
      cases h
      refine ⟨[], by simp, fun n2 k2 acc2 hk2 => ⟨[], rfl, ?_⟩⟩
      rw [List.append_nil]
      cases k2 <;> rw [Q1Z]
    | cons c r =>
      rw [hs, Q1Z] at h
      rw [hs] at hk
      split at h
      · cases h
      · rename_i t m ht
        have hlen := Q7g ht
        have hsl := Q2F false ((c :: r).drop t.length)
        rw [List.length_drop] at hsl
        obtain ⟨l, rfl, hl⟩ := Qhk k ((c :: r).drop t.length) _ res h (by omega)
        refine ⟨⟨n - (c :: r).length, t, m⟩ :: l, by simp, fun n2 k2 acc2 hk2 => ?_⟩
        obtain ⟨k2, rfl⟩ : ∃ j, k2 = j + 1 := ⟨k2 - 1, by omega⟩
        rw [Q1Z, ht]
        dsimp only
        obtain ⟨l2, e1, e3⟩ := hl n2 k2 (acc2 ++ [⟨n2 - (c :: r).length, t, m⟩]) (by omega)
        refine ⟨⟨n2 - (c :: r).length, t, m⟩ :: l2, ?_, ?_⟩
        · rw [List.map_cons, List.map_cons, e1]
        · rw [e3]; simp
theorem QnF {a : List UInt8} {la lb : List Tok} (ha : scan a = .ok la) (hb : scan b = .ok lb) (hl : a.length + b.length ≤ 39000) : ∃ l, scan (a ++ 10 :: b) = .ok l ∧ l.map Tok.tk = la.map Tok.tk ++ lb.map Tok.tk := by
  unfold scan at ha hb
  rw [if_neg (by omega)] at ha hb
  have s1 := Q2F false a
  have s2 := Q2F false b
  have s3 := Q2F false (a ++ 10 :: b)
  obtain ⟨x, rfl, hx⟩ := Qk0 (b := b) _ a [] la ha (by omega)
  obtain ⟨y, rfl, hy⟩ := Qhk _ b [] lb hb (by omega)
  obtain ⟨k3, l2, e1, e2, e3⟩ := hx (a ++ 10 :: b).length ((a ++ 10 :: b).length + 1) [] (by omega)
  obtain ⟨l3, e4, e5⟩ := hy (a ++ 10 :: b).length k3 ([] ++ l2) e2
  refine ⟨l2 ++ l3, ?_, by simp [e1, e4]⟩
  unfold scan
  rw [if_neg (by simp; omega), e3, e5]; rfl
end
/-! ### readers -/
section
variable {α β : Type} {e e2 : Nat}
/-- What was read is read again, whatever stands behind it. -/
def Go1 (f f2 : List Tok → PGot α) : Prop := ∀ l x l', f l = .ok (x, l') → ∃ g, l.map Tok.tk = g ++ l'.map Tok.tk ∧ Rd f2 g x
/-- And it was something. -/
def GoC (f f2 : List Tok → PGot α) : Prop := ∀ l x l', f l = .ok (x, l') → ∃ g, g ≠ [] ∧ l.map Tok.tk = g ++ l'.map Tok.tk ∧ Rd f2 g x
theorem GoC.go {f f2 : List Tok → PGot α} (h : GoC f f2) : Go1 f f2 := fun l x l' h1 => by
  obtain ⟨g, _, h2, h3⟩ := h l x l' h1; exact ⟨g, h2, h3⟩
theorem Go1.pure {x : α} : Go1 (fun l => .ok (x, l)) (fun l => .ok (x, l)) := fun l y l' h => by
  cases h; exact ⟨[], rfl, Rd.pure _⟩
theorem Q3y {f : List Tok → PGot α} {h : α → List Tok → PGot β} {l l' : List Tok} {y : β} (hb : Qc (f l) h = .ok (y, l')) : ∃ x l1, f l = .ok (x, l1) ∧ h x l1 = .ok (y, l') := by
  cases hf : f l with
  | error g => rw [hf] at hb; cases hb
  | ok p => obtain ⟨x, l1⟩ := p; rw [hf] at hb; exact ⟨x, l1, rfl, hb⟩
theorem Go1.bind {f f2 : List Tok → PGot α} {h h2 : α → List Tok → PGot β} (hf : Go1 f f2) (hh : ∀ a, Go1 (h a) (h2 a)) : Go1 (fun l => Qc (f l) h) (fun l => Qc (f2 l) h2) := fun l y l' hb => by
  obtain ⟨x, l1, h3, h4⟩ := Q3y hb
  obtain ⟨g1, e1, r1⟩ := hf l x l1 h3
  obtain ⟨g2, e2, r2⟩ := hh x l1 y l' h4
  exact ⟨g1 ++ g2, by rw [e1, e2, List.append_assoc], r1.bind r2⟩
theorem GoC.bind {f f2 : List Tok → PGot α} {h h2 : α → List Tok → PGot β} (hf : GoC f f2) (hh : ∀ a, Go1 (h a) (h2 a)) : GoC (fun l => Qc (f l) h) (fun l => Qc (f2 l) h2) := fun l y l' hb => by
  obtain ⟨x, l1, h3, h4⟩ := Q3y hb
  obtain ⟨g1, n1, e1, r1⟩ := hf l x l1 h3
  obtain ⟨g2, e2, r2⟩ := hh x l1 y l' h4
  exact ⟨g1 ++ g2, by simp [n1], by rw [e1, e2, List.append_assoc], r1.bind r2⟩
theorem Go1.bindC {f f2 : List Tok → PGot α} {h h2 : α → List Tok → PGot β} (hf : Go1 f f2) (hh : ∀ a, GoC (h a) (h2 a)) : GoC (fun l => Qc (f l) h) (fun l => Qc (f2 l) h2) := fun l y l' hb => by
  obtain ⟨x, l1, h3, h4⟩ := Q3y hb
  obtain ⟨g1, e1, r1⟩ := hf l x l1 h3
  obtain ⟨g2, n2, e2, r2⟩ := hh x l1 y l' h4
  exact ⟨g1 ++ g2, by simp [n2], by rw [e1, e2, List.append_assoc], r1.bind r2⟩
/-- A question to the first token alone. -/
def HeadP (p : List Tok → Bool) : Prop := ∀ (l l2 : List Tok) (t : Tk) (a b : List Tk), l.map Tok.tk = t :: a → l2.map Tok.tk = t :: b → p l = p l2
theorem isT_head {s : List UInt8} : HeadP (isT s) := fun l l2 t a b h1 h2 => by
  obtain ⟨t1, t2⟩ := t; rw [Q3u h1, Q3u h2]
theorem HeadP.of {p : List Tok → Bool} (hp : HeadP p) {l l2 : List Tok} {g a b : List Tk} (hg : g ≠ []) (h1 : l.map Tok.tk = g ++ a) (h2 : l2.map Tok.tk = g ++ b) : p l2 = p l := by
  cases g with
  | nil => exact absurd rfl hg
  | cons t g => exact (hp l l2 t _ _ h1 h2).symm
theorem GoC.ite {p : List Tok → Bool} {A A2 B B2 : List Tok → PGot α} (hp : HeadP p) (ha : GoC A A2) (hb : GoC B B2) : GoC (fun l => if p l = true then A l else B l) (fun l => if p l = true then A2 l else B2 l) := fun l y l' h => by
  dsimp only at h
  cases hq : p l with
  | true =>
    rw [if_pos hq] at h
    obtain ⟨g, n1, e1, r1⟩ := ha l y l' h
    refine ⟨g, n1, e1, fun l2 ts h2 => ?_⟩
    dsimp only
    rw [if_pos (by rw [hp.of n1 e1 h2]; exact hq)]
    exact r1 l2 ts h2
  | false =>
    rw [if_neg (by rw [hq]; decide)] at h
    obtain ⟨g, n1, e1, r1⟩ := hb l y l' h
    refine ⟨g, n1, e1, fun l2 ts h2 => ?_⟩
    dsimp only
    rw [if_neg (by rw [hp.of n1 e1 h2, hq]; decide)]
    exact r1 l2 ts h2
theorem Go1.cond {c : Prop} [Decidable c] {A A2 B B2 : List Tok → PGot α} (ha : Go1 A A2) (hb : Go1 B B2) : Go1 (fun l => if c then A l else B l) (fun l => if c then A2 l else B2 l) := by
  split
  · exact ha
  · exact hb
theorem GoC.cond {c : Prop} [Decidable c] {A A2 B B2 : List Tok → PGot α} (ha : GoC A A2) (hb : GoC B B2) : GoC (fun l => if c then A l else B l) (fun l => if c then A2 l else B2 l) := by
  split
  · exact ha
  · exact hb
theorem go_want {s : List UInt8} : GoC (want e s) (want e2 s) := fun l x l' h => by
  unfold want at h
  cases l with
  | nil => cases h
  | cons t r =>
    split at h
    · rename_i hq
      cases h
      refine ⟨[t.tk], by simp, rfl, fun l2 ts h2 => ?_⟩
      have h3 : isT s l2 = true := by rw [← isT_head (t :: r) l2 t.tk _ _ rfl h2]; exact hq
      exact ⟨l2.tail, by unfold want; rw [if_pos h3], Q48 h2⟩
    · cases h
theorem QoK : GoC (Q61 e) (Q61 e2) := fun l x l' h => by
  cases l with
  | nil => cases h
  | cons t r =>
    obtain ⟨a, s, m⟩ := t
    cases m with
    | none => cases h
    | some n =>
      cases h
      refine ⟨[(s, some x)], by simp, rfl, fun l2 ts h2 => ?_⟩
      obtain ⟨y, r2, rfl, h3, h4⟩ := map_cons h2
      obtain ⟨a2, s2, m2⟩ := y
      cases h3
      exact ⟨r2, rfl, h4⟩
theorem Qnl : HeadP wideT := fun l l2 t a b h1 h2 => by
  obtain ⟨x, r, rfl, h3, h4⟩ := map_cons h1
  obtain ⟨y, r2, rfl, h5, h6⟩ := map_cons h2
  obtain ⟨a1, s1, m1⟩ := x
  obtain ⟨a2, s2, m2⟩ := y
  rw [← h5] at h3
  cases h3; rfl
theorem go_err {g g2 : List Tok → Flt} : GoC (α := α) (fun l => .error (g l)) (fun l => .error (g2 l)) := fun l x l' h => by cases h
theorem Q23 : GoC (pNum e) (pNum e2) := GoC.ite Qnl go_err QoK
theorem Qbw {ws : List (List UInt8)} {l l2 : List Tok} {t : Tk} {a b : List Tk} (h1 : l.map Tok.tk = t :: a) (h2 : l2.map Tok.tk = t :: b) : Q58 ws l = Q58 ws l2 := by
  obtain ⟨x, r, rfl, h3, h4⟩ := map_cons h1
  obtain ⟨y, r2, rfl, h5, h6⟩ := map_cons h2
  obtain ⟨a1, s1, m1⟩ := x
  obtain ⟨a2, s2, m2⟩ := y
  rw [← h5] at h3
  cases h3; rfl
theorem go_kind : GoC (Qap e) (Qap e2) := fun l x l' h => by
  unfold Qap at h
  split at h
  · cases h
  · rename_i h0
    cases l with
    | nil => exact absurd rfl h0
    | cons t r =>
      cases h
      refine ⟨[t.tk], by simp, rfl, fun l2 ts h2 => ?_⟩
      have h3 := Qbw (ws := kindWords) (l := t :: r) rfl h2
      exact ⟨l2.tail, by unfold Qap; rw [← h3, if_neg h0], Q48 h2⟩
theorem go_tail {x : α} {s : List UInt8} {l l' : List Tok} {y : α} (hq : isT s l = true) (h : (Except.ok (x, l.tail) : PGot α) = .ok (y, l')) : ∃ t, l.map Tok.tk = t :: l'.map Tok.tk ∧ x = y := by
  cases l with
  | nil => cases hq
  | cons t r => cases h; exact ⟨t.tk, rfl, rfl⟩
theorem QoJ {cl : List UInt8} {f f2 : List Tok → PGot α} (hf : GoC f f2) : ∀ k n, GoC (pMany e cl f k n) (pMany e2 cl f2 k n)
  | 0, n => go_err
  | k + 1, n => fun l x l' h => by
    rw [QdN] at h
    cases hq : isT cl l with
    | true =>
      rw [if_pos hq] at h
      obtain ⟨t, e1, rfl⟩ := go_tail hq h
      refine ⟨[t], by simp, e1, fun l2 ts h2 => ?_⟩
      have h3 : isT cl l2 = true := by rw [← isT_head l l2 t _ _ e1 h2]; exact hq
      exact ⟨l2.tail, by rw [QdN, if_pos h3], Q48 h2⟩
    | false =>
      rw [if_neg (by rw [hq]; decide)] at h
      have hb : GoC (fun l => Qc ((fun l => if n = 0 then .ok ((), l) else want e [44] l) l) fun _ l => Qc (f l) fun x l => Qc (pMany e cl f k (n + 1) l) fun xs l => .ok (x :: xs, l))
          (fun l => Qc ((fun l => if n = 0 then .ok ((), l) else want e2 [44] l) l) fun _ l => Qc (f2 l) fun x l => Qc (pMany e2 cl f2 k (n + 1) l) fun xs l => .ok (x :: xs, l)) :=
        Go1.bindC (Go1.cond Go1.pure go_want.go) fun _ => GoC.bind hf fun _ => (GoC.bind (QoJ hf k (n + 1)) fun _ => Go1.pure).go
      obtain ⟨g, n1, e1, r1⟩ := hb l x l' h
      refine ⟨g, n1, e1, fun l2 ts h2 => ?_⟩
      obtain ⟨l3, e3, e4⟩ := r1 l2 ts h2
      refine ⟨l3, ?_, e4⟩
      rw [QdN, if_neg (by rw [isT_head.of n1 e1 h2, hq]; decide)]
      exact e3
theorem QiB {b cl : List UInt8} {f f2 : List Tok → PGot α} (hf : GoC f f2) : GoC (Q1Q e b cl f) (Q1Q e2 b cl f2) := GoC.bind go_want fun _ => (QoJ hf 101 0).go
theorem go_word {s : List UInt8} {f f2 : List Tok → PGot α} (hf : Go1 f f2) : GoC (fun l => if isT s l = true then f l.tail else .error (Q2Q e 4 l)) (fun l => if isT s l = true then f2 l.tail else .error (Q2Q e2 4 l)) := fun l x l' h => by
  dsimp only at h
  cases hq : isT s l with
  | false => rw [if_neg (by rw [hq]; decide)] at h; cases h
  | true =>
    rw [if_pos hq] at h
    cases l with
    | nil => cases hq
    | cons t r =>
      obtain ⟨g, e1, r1⟩ := hf r x l' h
      refine ⟨t.tk :: g, by simp, by rw [List.map_cons, e1]; rfl, fun l2 ts h2 => ?_⟩
      dsimp only
      rw [if_pos (by rw [← isT_head (t :: r) l2 t.tk _ _ rfl h2]; exact hq)]
      exact r1 l2.tail ts (Q48 h2)
/-- Where the first token is that word, or else. -/
theorem QoL {s : List UInt8} {A A2 B B2 : List Tok → PGot α} (ha : Go1 A A2) (hb : GoC B B2) : GoC (fun l => if isT s l = true then A l.tail else B l) (fun l => if isT s l = true then A2 l.tail else B2 l) := fun l x l' h => by
  dsimp only at h
  cases hq : isT s l with
  | false =>
    rw [if_neg (by rw [hq]; decide)] at h
    obtain ⟨g, n1, e1, r1⟩ := hb l x l' h
    refine ⟨g, n1, e1, fun l2 ts h2 => ?_⟩
    dsimp only
    rw [if_neg (by rw [isT_head.of n1 e1 h2, hq]; decide)]
    exact r1 l2 ts h2
  | true =>
    obtain ⟨g, n1, e1, r1⟩ := go_word (e := 0) (e2 := 0) (s := s) ha l x l' (by dsimp only; rw [if_pos hq]; rw [if_pos hq] at h; exact h)
    refine ⟨g, n1, e1, fun l2 ts h2 => ?_⟩
    obtain ⟨l3, e3, e4⟩ := r1 l2 ts h2
    dsimp only at e3 ⊢
    have h9 : isT s l2 = true := by rw [isT_head.of n1 e1 h2, hq]
    rw [if_pos h9] at e3 ⊢
    exact ⟨l3, e3, e4⟩
theorem go_typ : ∀ k, GoC (pTyp e k) (pTyp e2 k)
  | 0 => fun l x l' h => by rw [show pTyp e 0 l = .error (Q2Q e 19 l) by rw [pTyp]] at h; cases h
  | k + 1 => by
    have e9 : ∀ e, pTyp e (k + 1) = fun l => if isT tInt l = true then (fun l => .ok (.mk 1 0 [], l)) l.tail
      else (fun l => if isT Q3c l = true then (fun l => Qc (pNum e l) fun n l => .ok (.mk 2 n [], l)) l.tail
      else (fun l => if isT Q6h l = true then (fun l => Qc (pNum e l) fun n l => .ok (.mk 4 n [], l)) l.tail
      else (fun l => Qc (want e Q3j l) fun _ l => Qc (pNum e l) fun n l => Qc (Q1Q e [40] [41] (pTyp e k) l) fun ts l => .ok (.mk 3 n ts, l)) l) l) l := by intro e; funext l; rw [pTyp]
    rw [e9, e9]
    exact QoL Go1.pure (QoL (GoC.bind Q23 fun _ => Go1.pure).go (QoL (GoC.bind Q23 fun _ => Go1.pure).go (GoC.bind go_want fun _ => (GoC.bind Q23 fun _ => (GoC.bind (QiB (go_typ k)) fun _ => Go1.pure).go).go)))
theorem QiA : GoC (Q3M e) (Q3M e2) := QiB (go_typ 5)
theorem QoH : GoC (Qip e) (Qip e2) := QiB Q23
theorem QiC : GoC (Qaq e) (Qaq e2) := QiB Q23
theorem go_to : GoC (pTo e) (pTo e2) := GoC.bind Q23 fun _ => (GoC.bind QoH fun _ => (GoC.bind QiC fun _ => Go1.pure).go).go
theorem go_pTail : GoC (Q57 e) (Q57 e2) := by
  have e9 : ∀ e, Q57 e = fun l => if isT QjX l = true then (fun l => Qc (pTo e l) fun y l => .ok ((⟨1, 0, y, ⟨0, [], []⟩, []⟩ : Tail), l)) l.tail
      else (fun l => if isT tIf l = true then (fun l => Qc (pNum e l) fun a l => Qc (want e tTo l) fun _ l => Qc (pTo e l) fun y l => Qc (want e Qnx l) fun _ l => Qc (pTo e l) fun n l => .ok ((⟨2, a, y, n, []⟩ : Tail), l)) l.tail
      else (fun l => Qc (want e tRet l) fun _ l => Qc (Qaq e l) fun args l => .ok ((⟨3, 0, ⟨0, [], []⟩, ⟨0, [], []⟩, args⟩ : Tail), l)) l) l := by intro e; rfl
  rw [e9, e9]
  exact QoL (GoC.bind go_to fun _ => Go1.pure).go (QoL (GoC.bind Q23 fun _ => (GoC.bind go_want fun _ => (GoC.bind go_to fun _ => (GoC.bind go_want fun _ => (GoC.bind go_to fun _ => Go1.pure).go).go).go).go).go (GoC.bind go_want fun _ => (GoC.bind QiC fun _ => Go1.pure).go))
theorem go_ends : GoC (Q6Z e) (Q6Z e2) := GoC.bind go_pTail fun _ => (GoC.bind go_want fun _ => Go1.pure).go
theorem go_body {op : Int} : Go1 (Q3o e op) (Q3o e2 op) := by
  unfold Q3o
  have p1 : ∀ {γ : Type} {x : γ}, Go1 (fun l => .ok (x, l)) (fun l => .ok (x, l)) := fun {γ x} => Go1.pure
  refine Go1.cond (GoC.bind QoK fun _ => p1).go ?_
  refine Go1.cond (GoC.bind go_kind fun _ => (GoC.bind Q23 fun _ => (GoC.bind Q23 fun _ => p1).go).go).go ?_
  refine Go1.cond (GoC.bind Q23 fun _ => p1).go ?_
  refine Go1.cond (GoC.bind Q23 fun _ => (GoC.bind QiC fun _ => p1).go).go ?_
  refine Go1.cond (GoC.bind Q23 fun _ => (GoC.bind Q23 fun _ => p1).go).go ?_
  refine Go1.cond (GoC.bind Q23 fun _ => (GoC.bind Q23 fun _ => (GoC.bind Q23 fun _ => p1).go).go).go ?_
  refine Go1.cond (GoC.bind Q23 fun _ => (GoC.bind Q23 fun _ => p1).go).go ?_
  refine Go1.cond (GoC.bind Q23 fun _ => (GoC.bind Q23 fun _ => (GoC.bind Q23 fun _ => p1).go).go).go ?_
  exact Go1.cond (GoC.bind Q23 fun _ => (GoC.bind QoH fun _ => (GoC.bind QiC fun _ => p1).go).go).go p1
/-- One more, if the first token says so. -/
structure GoO (p : List Tok → Bool) (f f2 : List Tok → PGot (Option α)) : Prop where
  hp : HeadP p
  no : ∀ l, p l = false → f l = .ok (none, l) ∧ f2 l = .ok (none, l)
  yes : ∀ l x l', p l = true → f l = .ok (x, l') → ∃ a g, x = some a ∧ g ≠ [] ∧ l.map Tok.tk = g ++ l'.map Tok.tk ∧ Rd f2 g (some a)
theorem QoI {p : List Tok → Bool} {q q2 : List Tok → PGot α} (hp : HeadP p) (hq : GoC q q2) : GoO p (pIf p q) (pIf p q2) where
  hp := hp
  no l h := by unfold pIf; rw [if_neg (by rw [h]; decide), if_neg (by rw [h]; decide)]; exact ⟨rfl, rfl⟩
  yes l x l' h h1 := by
    unfold pIf at h1; rw [if_pos h] at h1
    obtain ⟨a, l1, h2, h3⟩ := Q3y h1
    cases h3
    obtain ⟨g, n1, e1, r1⟩ := hq l a l' h2
    refine ⟨a, g, rfl, n1, e1, fun l2 ts e2 => ?_⟩
    obtain ⟨l3, e3, e4⟩ := r1 l2 ts e2
    exact ⟨l3, by unfold pIf; rw [if_pos (by rw [hp.of n1 e1 e2]; exact h), e3]; rfl, e4⟩
def opP (l : List Tok) : Bool := decide (Q58 opWords l ≠ 0)
theorem op_head : HeadP opP := fun l l2 t a b h1 h2 => by unfold opP; rw [Qbw h1 h2]
theorem go_ins : GoO opP (pIns e) (pIns e2) where
  hp := op_head
  no l h := by
    have h := of_decide_eq_false h
    rw [Classical.not_not] at h
    unfold pIns; rw [if_pos h, if_pos h]; exact ⟨rfl, rfl⟩
  yes l x l' h h1 := by
    have h := of_decide_eq_true h
    unfold pIns at h1; rw [if_neg h] at h1
    cases l with
    | nil => exact absurd rfl h
    | cons t r =>
      obtain ⟨a, l1, h2, h3⟩ := Q3y (f := fun l => Q3o e (Q58 opWords (t :: r)) l) h1
      obtain ⟨_, l2, h4, h5⟩ := Q3y (f := want e [59]) h3
      cases h5
      obtain ⟨g1, e1, r1⟩ := go_body (e2 := e2) r a l1 h2
      obtain ⟨g2, n2, e3, r2⟩ := go_want (e2 := e2) l1 _ l' h4
      refine ⟨a, t.tk :: (g1 ++ g2), rfl, by simp, by rw [List.map_cons, e1, e3]; simp, fun l2 ts e4 => ?_⟩
      have hh := Qbw (ws := opWords) (l := t :: r) rfl e4
      obtain ⟨y, r3, rfl, _, e5⟩ := map_cons e4
      obtain ⟨l4, e6, e7⟩ := r1 r3 (g2 ++ ts) (e5.trans (List.append_assoc g1 g2 ts))
      obtain ⟨l5, e8, e9⟩ := r2 l4 ts e7
      refine ⟨l5, ?_, e9⟩
      unfold pIns
      rw [← hh, if_neg h]
      show Qc (Q3o e2 _ r3) _ = _
      rw [e6]
      show Qc (want e2 [59] l4) _ = _
      rw [e8]; rfl
theorem len_of {l l' : List Tok} {g : List Tk} (h : l.map Tok.tk = g ++ l'.map Tok.tk) : l.length = g.length + l'.length := by
  have := congrArg List.length h
  simpa using this
theorem Qmt {p : List Tok → Bool} {f f2 : List Tok → PGot (Option α)} (ho : GoO p f f2) : ∀ (k : Nat) (l : List Tok) (xs : List α) (l1 : List Tok), pOpts f k l = .ok (xs, l1) → l.length < k → p l1 = false ∧ ∃ g, l.map Tok.tk = g ++ l1.map Tok.tk ∧
    ∀ (l2 : List Tok) (ts : List Tk) (k2 : Nat), l2.map Tok.tk = g ++ ts → l2.length < k2 → ∃ l3 k3, l3.map Tok.tk = ts ∧ l3.length < k3 ∧ pOpts f2 k2 l2 = Q2l xs (pOpts f2 k3 l3)
  | 0, l, xs, l1, h, hk => by omega
  | k + 1, l, xs, l1, h, hk => by
    rw [pOpts] at h
    cases hq : p l with
    | false =>
      rw [(ho.no l hq).1] at h
      cases h
      exact ⟨hq, [], rfl, fun l2 ts k2 h2 hk2 => ⟨l2, k2, h2, hk2, (Qlp _).symm⟩⟩
    | true =>
      obtain ⟨x, la, h1, h2⟩ := Q3y (f := f) h
      obtain ⟨a, g1, rfl, n1, e1, r1⟩ := ho.yes l x la hq h1
      obtain ⟨ys, lb, h3, h4⟩ := Q3y (f := pOpts f k) h2
      cases h4
      have hl := len_of e1
      have hg : 0 < g1.length := List.length_pos_iff.2 n1
      obtain ⟨hp1, g2, e2, r2⟩ := Qmt ho k la ys l1 h3 (by omega)
      refine ⟨hp1, g1 ++ g2, by rw [e1, e2, List.append_assoc], fun l2 ts k2 h5 hk2 => ?_⟩
      rw [List.append_assoc] at h5
      obtain ⟨lc, e3, e4⟩ := r1 l2 _ h5
      have hl2 : l2.length = g1.length + lc.length := by
        rw [← e4] at h5; exact len_of h5
      obtain ⟨k2, rfl⟩ : ∃ j, k2 = j + 1 := ⟨k2 - 1, by omega⟩
      obtain ⟨l3, k3, e5, e6, e7⟩ := r2 lc ts k2 e4 (by omega)
      refine ⟨l3, k3, e5, e6, ?_⟩
      rw [pOpts, e3]
      simp only [Qc, e7]
      cases pOpts f2 k3 l3 with
      | error z => rfl
      | ok z => obtain ⟨z, z2⟩ := z; simp [Q2l]
theorem go_all {p : List Tok → Bool} {f f2 : List Tok → PGot (Option α)} {h h2 : List α → List Tok → PGot β} (ho : GoO p f f2) (hh : ∀ a, GoC (h a) (h2 a)) : GoC (fun l => Qc (pAll f l) h) (fun l => Qc (pAll f2 l) h2) := fun l y l' hb => by
  obtain ⟨xs, l1, h3, h4⟩ := Q3y (f := pAll f) hb
  obtain ⟨hp1, g1, e1, r1⟩ := Qmt ho _ l xs l1 h3 (Nat.lt_succ_self _)
  obtain ⟨g2, n2, e2, r2⟩ := hh xs l1 y l' h4
  refine ⟨g1 ++ g2, by simp [n2], by rw [e1, e2, List.append_assoc], fun l2 ts h5 => ?_⟩
  rw [List.append_assoc] at h5
  obtain ⟨l3, k3, e5, e6, e7⟩ := r1 l2 _ _ h5 (Nat.lt_succ_self _)
  have hp3 : p l3 = false := by rw [ho.hp.of n2 e2 e5]; exact hp1
  obtain ⟨k3, rfl⟩ : ∃ j, k3 = j + 1 := ⟨k3 - 1, by omega⟩
  have e8 : pAll f2 l2 = .ok (xs, l3) := by
    unfold pAll; rw [e7, pOpts, (ho.no l3 hp3).2]; simp [Qc, Q2l]
  obtain ⟨l4, e9, e10⟩ := r2 l3 ts e5
  refine ⟨l4, ?_, e10⟩
  show Qc (pAll f2 l2) h2 = _
  rw [e8]; exact e9
theorem go_block : GoC (Q40 e) (Q40 e2) :=
  GoC.bind go_want fun _ => (GoC.bind Q23 fun _ => (GoC.bind QiA fun _ => (GoC.bind go_want fun _ => (go_all go_ins fun _ => GoC.bind go_ends fun _ => (GoC.bind go_want fun _ => Go1.pure).go).go).go).go).go
theorem go_fun : GoC (pFun e) (pFun e2) :=
  GoC.bind go_want fun _ => (GoC.bind Q23 fun _ => (GoC.bind QiA fun _ => (GoC.bind go_want fun _ => (GoC.bind QiA fun _ => (GoC.bind go_want fun _ => (go_all (QoI isT_head go_block) fun _ => GoC.bind go_want fun _ => Go1.pure).go).go).go).go).go).go
theorem Qop : HeadP (fun l => !l.isEmpty) := fun l l2 t a b h1 h2 => by
  obtain ⟨x, r, rfl, h3, h4⟩ := map_cons h1
  obtain ⟨y, r2, rfl, h5, h6⟩ := map_cons h2
  rfl
theorem QoM {e3 : Nat} {la lb l l1 l2 : List Tok} {fs gs : List Fun} (ha : QdO e la = .ok (fs, l1)) (hb : QdO e2 lb = .ok (gs, l2)) (hl : l.map Tok.tk = la.map Tok.tk ++ lb.map Tok.tk) : ∃ l3, QdO e3 l = .ok (fs ++ gs, l3) := by
  obtain ⟨p1, g1, e1, r1⟩ := Qmt (QoI Qop (go_fun (e := e) (e2 := e3))) _ la fs l1 ha (Nat.lt_succ_self _)
  obtain ⟨p2, g2, e2', r2⟩ := Qmt (QoI Qop (go_fun (e := e2) (e2 := e3))) _ lb gs l2 hb (Nat.lt_succ_self _)
  have n1 : l1 = [] := by cases l1 with
    | nil => rfl
    | cons => cases p1
  have n2 : l2 = [] := by cases l2 with
    | nil => rfl
    | cons => cases p2
  subst n1 n2
  rw [List.map_nil, List.append_nil] at e1 e2'
  rw [e1] at hl
  obtain ⟨l3, k3, e5, e6, e7⟩ := r1 l _ (l.length + 1) hl (Nat.lt_succ_self _)
  obtain ⟨l4, k4, e8, e9, e10⟩ := r2 l3 [] k3 (by rw [e5, e2', List.append_nil]) e6
  have n4 : l4 = [] := by simpa using e8
  subst n4
  obtain ⟨k4, rfl⟩ : ∃ j, k4 = j + 1 := ⟨k4 - 1, by omega⟩
  refine ⟨[], ?_⟩
  unfold QdO pAll
  rw [e7, e10, pOpts]
  simp [pIf, Qc, Q2l]
/-- Two texts that are modules, one behind the other. -/
theorem Qho {a b : List UInt8} {m n : Module} (ha : Q2c a = .ok m) (hb : Q2c b = .ok n) (hl : a.length + b.length ≤ 39000) :
    Q2c (a ++ 10 :: b) = if (Module.fault ⟨m.funcs ++ n.funcs⟩).1 ≠ 0 then .error (Module.fault ⟨m.funcs ++ n.funcs⟩) else .ok ⟨m.funcs ++ n.funcs⟩ := by
  have key : ∀ {s : List UInt8} {m : Module}, Q2c s = .ok m → ∃ l fs l', scan s = .ok l ∧ QdO s.length l = .ok (fs, l') ∧ m = ⟨fs⟩ := by
    intro s m h
    unfold Q2c at h
    split at h
    · cases h
    · rename_i l h1
      split at h
      · cases h
      · rename_i fs l' h2
        split at h
        · cases h
        · cases h; exact ⟨l, fs, l', h1, h2, rfl⟩
  obtain ⟨la, fs, l1, h1, h2, rfl⟩ := key ha
  obtain ⟨lb, gs, l2, h3, h4, rfl⟩ := key hb
  obtain ⟨l, h5, h6⟩ := QnF h1 h3 hl
  obtain ⟨l3, h7⟩ := QoM (e3 := (a ++ 10 :: b).length) h2 h4 h6
  unfold Q2c
  rw [h5]; dsimp only; rw [h7]
end
end Go.Lir
namespace Go.Lir
section
variable {α β : Type} {e k n : Nat} {A B : List Tok → PGot α} {x : α}
def NzP (f : List Tok → PGot α) : Prop := ∀ l g, f l = .error g → g.1 ≠ 0
theorem Ql {f : α → List Tok → PGot β} (h : NzP A) (hf : ∀ a, NzP (f a)) : NzP (fun l => Qc (A l) f) := by
  intro l g h2
  dsimp only at h2
  cases hA : A l with
  | error z => rw [hA] at h2; cases h2; exact h l _ hA
  | ok y => obtain ⟨a, l1⟩ := y; rw [hA] at h2; exact hf a l1 g h2
theorem QX : NzP (fun l => .ok (x, l)) := fun l g h => by cases h
theorem nz_t (h : NzP A) : NzP (fun l => A l.tail) := fun l g h2 => h l.tail g h2
theorem Qbs {c : Int} (hc : c ≠ 0) : NzP (α := α) (fun l => .error (Q2Q e c l)) := fun l g h => by
  cases h
  cases l with
  | nil => show (if c = 4 then (5 : Int) else c) ≠ 0; split <;> omega
  | cons => exact hc
theorem QfR {c : List Tok → Prop} [DecidablePred c] (h1 : NzP A) (h2 : NzP B) : NzP (fun l => if c l then A l else B l) := by
  intro l g h
  dsimp only at h
  split at h
  · exact h1 l g h
  · exact h2 l g h
theorem Q94 {c : Prop} [Decidable c] (h1 : NzP A) (h2 : NzP B) : NzP (fun l => if c then A l else B l) := by
  split
  · exact h1
  · exact h2
theorem Q2J {s : List UInt8} : NzP (want e s) := QfR (nz_t (A := fun l => .ok ((), l)) QX) (Qbs (by decide))
theorem Qol : NzP (Q61 e) := by
  intro l g h
  cases l with
  | nil => cases h; exact (by decide : (5 : Int) ≠ 0)
  | cons t r =>
    unfold Q61 at h
    dsimp only at h
    split at h
    · cases h
    · exact Qbs (α := Int) (e := e) (c := 4) (by decide) (t :: r) g h
theorem Q22 : NzP (pNum e) := QfR (Qbs (by decide)) Qol
theorem nz_kind : NzP (Qap e) := QfR (Qbs (by decide)) (fun l g h => by cases h)
theorem Qok {cl : List UInt8} (h : NzP A) : ∀ k n, NzP (pMany e cl A k n)
  | 0, n => Qbs (by decide)
  | k + 1, n => by
    have e9 : pMany e cl A (k + 1) n = fun l => if isT cl l = true then .ok ([], l.tail) else Qc ((fun l => if n = 0 then .ok ((), l) else want e [44] l) l) fun _ l => Qc (A l) fun x l => Qc (pMany e cl A k (n + 1) l) fun xs l => .ok (x :: xs, l) := by funext l; rw [pMany]
    rw [e9]
    exact QfR (nz_t (A := fun l => .ok ([], l)) QX) (Ql (Q94 QX Q2J) fun _ => Ql h fun x => Ql (Qok h k (n + 1)) fun xs => QX)
theorem Qis {b cl : List UInt8} (h : NzP A) : NzP (Q1Q e b cl A) := Ql Q2J fun _ => Qok h 101 0
theorem nz_typ : ∀ k, NzP (pTyp e k)
  | 0 => by rw [show pTyp e 0 = fun l => .error (Q2Q e 19 l) by funext l; rw [pTyp]]; exact Qbs (by decide)
  | k + 1 => by
    have e9 : pTyp e (k + 1) = fun l => if isT tInt l = true then .ok (.mk 1 0 [], l.tail)
      else if isT Q3c l = true then Qc (pNum e l.tail) fun n l => .ok (.mk 2 n [], l)
      else if isT Q6h l = true then Qc (pNum e l.tail) fun n l => .ok (.mk 4 n [], l)
      else Qc (want e Q3j l) fun _ l => Qc (pNum e l) fun n l => Qc (Q1Q e [40] [41] (pTyp e k) l) fun ts l => .ok (.mk 3 n ts, l) := by funext l; rw [pTyp]
    rw [e9]
    exact QfR (nz_t (A := fun l => .ok (Ty.mk 1 0 [], l)) QX) (QfR (Ql (nz_t Q22) fun n => QX) (QfR (Ql (nz_t Q22) fun n => QX) (Ql Q2J fun _ => Ql Q22 fun n => Ql (Qis (nz_typ k)) fun ts => QX)))
theorem Qir : NzP (Q3M e) := Qis (nz_typ 5)
theorem Qoi : NzP (Qip e) := Qis Q22
theorem Qit : NzP (Qaq e) := Qis Q22
theorem nz_body {op : Int} : NzP (Q3o e op) := by
  refine Q94 (Ql Qol fun n => QX) ?_
  refine Q94 (Ql nz_kind fun k => Ql Q22 fun a => Ql Q22 fun b => QX) ?_
  refine Q94 (Ql Q22 fun a => QX) ?_
  refine Q94 (Ql Q22 fun a => Ql Qit fun g => QX) ?_
  refine Q94 (Ql Q22 fun a => Ql Q22 fun k => QX) ?_
  refine Q94 (Ql Q22 fun a => Ql Q22 fun k => Ql Q22 fun b => QX) ?_
  refine Q94 (Ql Q22 fun a => Ql Q22 fun b => QX) ?_
  refine Q94 (Ql Q22 fun a => Ql Q22 fun b => Ql Q22 fun c => QX) ?_
  exact Q94 (Ql Q22 fun k => Ql Qoi fun r => Ql Qit fun g => QX) QX
theorem nz_ins : NzP (pIns e) := by
  intro l g h
  unfold pIns at h
  split at h
  · cases h
  · exact (nz_t (Ql nz_body fun x => Ql (Q2J (e := e) (s := [59])) fun _ => QX (x := some x))) l g h
theorem nz_to : NzP (pTo e) := Ql Q22 fun b => Ql Qoi fun r => Ql Qit fun g => QX
theorem nz_tail : NzP (Q57 e) := by
  refine QfR (Ql (nz_t nz_to) fun y => QX) (QfR ?_ ?_)
  · exact Ql (nz_t Q22) fun a => Ql Q2J fun _ => Ql nz_to fun y => Ql Q2J fun _ => Ql nz_to fun n => QX
  · exact Ql Q2J fun _ => Ql Qit fun g => QX
theorem nz_ends : NzP (Q6Z e) := Ql nz_tail fun t => Ql Q2J fun _ => QX
theorem Qoj {f : List Tok → PGot (Option α)} (h : NzP f) : ∀ k, NzP (pOpts f k)
  | 0 => QX
  | k + 1 => by
    have e9 : pOpts f (k + 1) = fun l => Qc (f l) fun o l => match o with
      | none => .ok ([], l)
      | some x => Qc (pOpts f k l) fun xs l => .ok (x :: xs, l) := by funext l; first | (rw [pOpts]; done) | (rw [pOpts]; rfl)
    rw [e9]
    refine Ql h fun o => ?_
    cases o with
    | none => exact QX
    | some x => exact Ql (Qoj h k) fun xs => QX
theorem Qom {f : List Tok → PGot (Option α)} (h : NzP f) : NzP (pAll f) := fun l g h2 => Qoj h _ l g h2
theorem nz_pif {p : List Tok → Bool} (h : NzP A) : NzP (pIf p A) := QfR (Ql h fun x => QX) QX
theorem nz_block : NzP (Q40 e) :=
  Ql Q2J fun _ => Ql Q22 fun g => Ql Qir fun ps => Ql Q2J fun _ => Ql (Qom nz_ins) fun c => Ql nz_ends fun t => Ql Q2J fun _ => QX
theorem nz_fun : NzP (pFun e) :=
  Ql Q2J fun _ => Ql Q22 fun g => Ql Qir fun ps => Ql Q2J fun _ => Ql Qir fun rs => Ql Q2J fun _ => Ql (Qom (nz_pif nz_block)) fun bl => Ql Q2J fun _ => QX
theorem Qoc {s : List UInt8} {f : Flt} (h : Q2c s = .error f) : f.1 ≠ 0 := by
  unfold Q2c at h
  split at h
  · rename_i g h1; cases h; exact Qmh h1
  · split at h
    · rename_i g h1; cases h; exact Qom (nz_pif nz_fun) _ _ h1
    · split at h
      · rename_i h1; cases h; exact h1
      · cases h
theorem Qao {s : List UInt8} {m : Module} (h : Q2c s = .ok m) : s.length ≤ 40000 ∧ m.funcs.length ≤ 40001 ∧ m.Short := by
  unfold Q2c at h
  split at h
  · cases h
  · rename_i l h1
    split at h
    · cases h
    · rename_i fs l' h2
      split at h
      · cases h
      · cases h
        obtain ⟨c1, c2⟩ := Qmi h1
        have h3 := (Qlv (QoC (gp_fun (e := s.length))) (l.length + 1) l fs l' (by omega) h2).1.1
        exact ⟨c2, by show fs.length ≤ 40001; omega, QdH (by omega) h2⟩
theorem Qhr {m n : Module} (h1 : m.funcs.length ≤ 40001 ∧ m.Short) (h2 : n.funcs.length ≤ 40001 ∧ n.Short) : (Module.mk (m.funcs ++ n.funcs)).Short := by
  refine ⟨by show (m.funcs ++ n.funcs).length ≤ 100000; rw [List.length_append]; omega, fun f hf => ?_⟩
  rcases List.mem_append.1 hf with hf | hf
  · exact h1.2.2 f hf
  · exact h2.2.2 f hf
end
end Go.Lir
namespace Go.Proofs.YtjecflbbcnocdaaGreatDoor
open Go.Lir
set_option maxHeartbeats 1000000
attribute [local irreducible] LC.wp Q3 QF QK retQ Q1E LO.wp Qq Calls
set_option linter.unusedSimpArgs false
set_option linter.unusedVariables false
theorem Qhl {x y : Block} {cx : Cx} {w : World} {L : List Res} {cs ds : List Value} (hx : blockR.at cx cs x) (hy : blockR.at cx ds y) (hS : St cx w L) : Rets Tryz.prog Q3g [.agg ⟨cs⟩, .agg ⟨ds⟩] w fun u w' => u = .bool (decide (x = y)) ∧ St cx w' L := by
  obtain ⟨vp, vc, v1, v2, v3, v4, v5, rfl, hp, hc0, h1, h2, h3, h4, h5⟩ := Q1X hx
  obtain ⟨up, uc, u1, u2, u3, u4, u5, rfl, gp, gc, g1, g2, g3, g4, g5⟩ := Q1X hy
  have hlen := hc0.len
  obtain ⟨xr, xp, xc, ⟨xo, xa, xy, xn, xg⟩⟩ := x
  obtain ⟨yr, yp, yc, ⟨yo, ya, yy, yn, yg⟩⟩ := y
  simp only [Block.mk.injEq, Tail.mk.injEq] at *
  all_goals refine Qgu ?_
  all_goals (unfold R_sameBlock_lc; refine Q0 ?_; refine Q1 ?_; refine zb hS ?_; intro p2 w1 hS; refine zb hS ?_; intro p3 w1 hS; refine zm ?_; refine zn ?_)
  refine zML hS [2, 3] (fun A LL ρ' w' => Has ρ' A ∧ Has ρ' [] ∧ (xr = yr) ∧ (xp = yp) ∧ (xc.length = yc.length) ∧ St cx w' (LL)) ?_ ?_
  · skip
    all_goals (refine Q0 ?_; refine Q1 ?_; refine Q2 rfl ?_; refine zl hS ?_; refine Q2 rfl ?_; refine zl hS ?_)
    all_goals (first | (refine Q12 ?_) | (refine Q18 ?_) | (refine Qx rfl rfl (fun hc => ?_) (fun hc => ?_)))
    all_goals (refine zm ?_; (first | refine s_gn rfl rfl ?_ | (refine s_gy rfl ?_; refine Q2 rfl ?_)); (first | refine s_gn rfl rfl ?_ | (refine s_gy rfl ?_; refine zl hS ?_)); (first | refine s_gn rfl rfl ?_ | (refine s_gy rfl ?_; refine Q2 rfl ?_)); (first | refine s_gn rfl rfl ?_ | (refine s_gy rfl ?_; refine zl hS ?_)))
    all_goals ((first | (refine s_gn rfl rfl ?_) | (refine s_gy rfl ?_; refine zR2 (c := Q7j hp gp hS) (h := ?_); rintro v1 w1 ⟨rfl, hS⟩; (cases hdec : decide (xp = yp)); have hg := of_decide_eq_false hdec; rotate_left; have hg := of_decide_eq_true hdec; all_goals skip)))
    all_goals ((first | refine s_gn rfl rfl ?_ | (refine s_gy rfl ?_; refine Q1w rfl ?_)); (first | (refine zpt ?_) | (refine zpf ?_)); refine zm ?_; (first | refine s_gn rfl rfl ?_ | (refine s_gy rfl ?_; refine Q2 rfl ?_)); (first | refine s_gn rfl rfl ?_ | (refine s_gy rfl ?_; refine zl hS ?_)); (first | refine s_gn rfl rfl ?_ | (refine s_gy rfl ?_; refine zL ?_)); (first | refine s_gn rfl rfl ?_ | (refine s_gy rfl ?_; refine Q2 rfl ?_)); (first | refine s_gn rfl rfl ?_ | (refine s_gy rfl ?_; refine zl hS ?_)); (first | refine s_gn rfl rfl ?_ | (refine s_gy rfl ?_; refine zL ?_)))
    all_goals (first | refine s_gn rfl rfl ?_ | (refine s_gy rfl ?_; (first | (refine Q12 ?_) | (refine Q18 ?_) | (refine Qx rfl rfl (fun hc => ?_) (fun hc => ?_)))))
    all_goals ((first | (refine zpt ?_) | (refine zpf ?_)); refine zn ?_)
    all_goals
      first
      | (refine Q4 rfl ?_ -- Q3g c0
         all_goals (refine Q0 ?_; refine Q1 ?_; refine zm ?_; refine zn ?_; refine zr ?_; refine zf ?_)
         all_goals (refine ⟨_, rfl, ?_, hS.sp⟩; (rw [decide_eq_false]; rintro ⟨e1, e2, e3, _⟩; have := congrArg List.length e3; first | omega | (simp_all; done)); done))
      | (refine Q5 rfl ?_ -- Q3g c0
         all_goals refine zsk ?_)
    all_goals (exact ⟨zh, zh, by omega, by assumption, by omega, hS.sp⟩)
  rintro ρ w1 ⟨hA, hρ, hr, hpp, hll, hS⟩; obtain ⟨ρ, rfl⟩ := env2 hA hρ
  all_goals (refine Q0 ?_; refine Q0 ?_; refine Q1 ?_; refine zm ?_; refine zn ?_; refine Qh ?_)
  refine zoL hS [2, 3] (fun A LL ρ' w' => ∃ (j : Nat), Has ρ' A ∧ Has ρ' [(5, .int .i64 j)] ∧ (j ≤ xc.length) ∧ (xc = yc ↔ xc.drop j = yc.drop j) ∧ St cx w' (LL)) (fun ρ' _ => (xc.length - iv (ρ' 5)).toNat) ?_ ?_
  · exact ⟨0, zh, zh, (by omega), by simp, hS.sp⟩
  rintro ρ w1 ⟨j, hA, hρ, hj, hd, hS⟩; obtain ⟨ρ, rfl⟩ := env2 hA hρ
  unfold Q99
  all_goals (refine Q0 ?_; refine Q0 ?_; refine Q1 ?_; refine zm ?_; refine Q2 rfl ?_; refine zl hS ?_; refine zL ?_; refine Q1x rfl rfl ?_; refine zn ?_)
  refine QO rfl (fun hc => ?_) (fun hc => ?_)
  · skip
    all_goals (refine zsk ?_; refine Q0 ?_; refine Qh ?_; refine Q0 ?_; refine zD [(0, none), (1, none), (2, none), (3, none), (4, none), (5, none), (6, none), (7, none), (8, none), (9, none), (10, some none), (11, some none)] ?_; have hS := hS.drew; refine Q2 rfl ?_; refine zl hS ?_; refine zm ?_; refine zi ?_; intro b1 o1 cs1 x1 hat1 hx1 he1; obtain ⟨vr1, va1, rfl, hr1, ha1⟩ := Q3i he1; (first | (refine zv hS ?_) | (refine zvk hS ?_)); refine Q2 rfl ?_; refine zl hS ?_; refine zm ?_; refine zi ?_; intro b2 o2 cs2 x2 hat2 hx2 he2; obtain ⟨vr2, va2, rfl, hr2, ha2⟩ := Q3i he2; (first | (refine zv hS ?_) | (refine zvk hS ?_)))
    all_goals (refine zR2 (c := QmW he1 he2 hS) (h := ?_); rintro v1 w1 ⟨rfl, hS⟩; (cases hdec : decide (x1 = x2)); have hg := of_decide_eq_false hdec; rotate_left; have hg := of_decide_eq_true hdec; all_goals skip)
    all_goals (refine Q1w rfl ?_; refine zn ?_)
    all_goals
      first
      | (refine Q4 rfl ?_ -- Q3g c2
         all_goals (refine Q0 ?_; refine Q1 ?_; refine zm ?_; refine zn ?_; refine zr ?_; refine zf ?_)
         all_goals (refine ⟨_, rfl, ?_, hS.sp⟩; (rw [decide_eq_false]; rintro ⟨e1, e2, e3, _⟩; have := congrArg List.length e3; first | omega | (simp_all; done)); done))
      | (refine Q5 rfl ?_ -- Q3g c2
         all_goals refine zsk ?_)
    all_goals (refine Q1 ?_; refine zm ?_; refine zad ?_; refine zm ?_; refine zn ?_; exact ⟨⟨j + 1, zh, zh, (by omega), by rw [hd, Q6 hx1, Q6 hx2, hg]; simp, hS.sp⟩, Q16 (by omega)⟩)
  · skip
    all_goals (refine zex ?_; refine Q0 ?_; refine Q1 ?_; refine Q2 rfl ?_; (first | refine Q2 rfl ?_ | refine Q2b rfl ?_); refine zl hS ?_; refine Q2 rfl ?_; (first | refine Q2 rfl ?_ | refine Q2b rfl ?_); refine zl hS ?_)
    all_goals (first | (refine Qw ?_) | (refine Qy ?_) | (refine Qj rfl rfl (fun hc => ?_) (fun hc => ?_)))
    all_goals (refine zm ?_; (first | refine s_gn rfl rfl ?_ | (refine s_gy rfl ?_; refine Q2 rfl ?_)); (first | refine s_gn rfl rfl ?_ | (refine s_gy rfl ?_; (first | refine Q2 rfl ?_ | refine Q2b rfl ?_))); (first | refine s_gn rfl rfl ?_ | (refine s_gy rfl ?_; refine zl hS ?_)); (first | refine s_gn rfl rfl ?_ | (refine s_gy rfl ?_; refine Q2 rfl ?_)); (first | refine s_gn rfl rfl ?_ | (refine s_gy rfl ?_; (first | refine Q2 rfl ?_ | refine Q2b rfl ?_))); (first | refine s_gn rfl rfl ?_ | (refine s_gy rfl ?_; refine zl hS ?_)))
    all_goals (first | refine s_gn rfl rfl ?_ | (refine s_gy rfl ?_; (first | (refine Qw ?_) | (refine Qy ?_) | (refine Qj rfl rfl (fun hc => ?_) (fun hc => ?_)))))
    all_goals ((first | (refine zpt ?_) | (refine zpf ?_)); refine zm ?_; (first | refine s_gn rfl rfl ?_ | (refine s_gy rfl ?_; refine Q2 rfl ?_)); (first | refine s_gn rfl rfl ?_ | (refine s_gy rfl ?_; (first | refine Q2 rfl ?_ | refine Q2b rfl ?_))); (first | refine s_gn rfl rfl ?_ | (refine s_gy rfl ?_; refine zv hS ?_)); (first | refine s_gn rfl rfl ?_ | (refine s_gy rfl ?_; refine Q2 rfl ?_)); (first | refine s_gn rfl rfl ?_ | (refine s_gy rfl ?_; (first | refine Q2 rfl ?_ | refine Q2b rfl ?_))); (first | refine s_gn rfl rfl ?_ | (refine s_gy rfl ?_; refine zv hS ?_)))
    all_goals ((first | (refine s_gn rfl rfl ?_) | (refine s_gy rfl ?_; refine zR2 (c := Qk7 (x := xy) (y := yy) ⟨_, _, rfl, h1, h2⟩ ⟨_, _, rfl, g1, g2⟩ hS) (h := ?_); rintro v1 w1 ⟨rfl, hS⟩; (cases hdec : decide (xy = yy)); have hg := of_decide_eq_false hdec; rotate_left; have hg := of_decide_eq_true hdec; all_goals skip)))
    all_goals ((first | (refine zpt ?_) | (refine zpf ?_)); refine zm ?_; (first | refine s_gn rfl rfl ?_ | (refine s_gy rfl ?_; refine Q2 rfl ?_)); (first | refine s_gn rfl rfl ?_ | (refine s_gy rfl ?_; (first | refine Q2 rfl ?_ | refine Q2b rfl ?_))); (first | refine s_gn rfl rfl ?_ | (refine s_gy rfl ?_; refine zv hS ?_)); (first | refine s_gn rfl rfl ?_ | (refine s_gy rfl ?_; refine Q2 rfl ?_)); (first | refine s_gn rfl rfl ?_ | (refine s_gy rfl ?_; (first | refine Q2 rfl ?_ | refine Q2b rfl ?_))); (first | refine s_gn rfl rfl ?_ | (refine s_gy rfl ?_; refine zv hS ?_)))
    all_goals ((first | (refine s_gn rfl rfl ?_) | (refine s_gy rfl ?_; refine zR2 (c := Qk7 (x := xn) (y := yn) ⟨_, _, rfl, h3, h4⟩ ⟨_, _, rfl, g3, g4⟩ hS) (h := ?_); rintro v1 w1 ⟨rfl, hS⟩; (cases hdec : decide (xn = yn)); have hg := of_decide_eq_false hdec; rotate_left; have hg := of_decide_eq_true hdec; all_goals skip)))
    all_goals ((first | (refine zpt ?_) | (refine zpf ?_)); refine zm ?_; (first | refine s_gn rfl rfl ?_ | (refine s_gy rfl ?_; refine Q2 rfl ?_)); (first | refine s_gn rfl rfl ?_ | (refine s_gy rfl ?_; (first | refine Q2 rfl ?_ | refine Q2b rfl ?_))); (first | refine s_gn rfl rfl ?_ | (refine s_gy rfl ?_; refine zl hS ?_)); (first | refine s_gn rfl rfl ?_ | (refine s_gy rfl ?_; refine Q2 rfl ?_)); (first | refine s_gn rfl rfl ?_ | (refine s_gy rfl ?_; (first | refine Q2 rfl ?_ | refine Q2b rfl ?_))); (first | refine s_gn rfl rfl ?_ | (refine s_gy rfl ?_; refine zl hS ?_)); (first | (refine s_gn rfl rfl ?_) | (refine s_gy rfl ?_; refine zR2 (c := QdE h5 g5 hS) (h := ?_); rintro v1 w1 ⟨rfl, hS⟩)); (first | (refine zpt ?_) | (refine zpf ?_)); refine zm ?_; refine zn ?_; refine zr ?_; refine zf ?_; (first | (refine ⟨_, rfl, ?_, hS.sp⟩; (rw [decide_eq_false]; rintro ⟨e1, e2, e3, _⟩; have := congrArg List.length e3; first | omega | (simp_all; done)); done) | (refine ⟨_, rfl, ?_, hS.sp⟩; rw [decide_eq_false]; rintro ⟨e1, e2, e3, _⟩; rw [hd, Q6 hx1, Q6 hx2, List.cons.injEq] at e3; exact hg e3.1; done) | (refine ⟨_, rfl, ?_, hS.sp⟩; have hcc : xc = yc := (by rw [hd, List.drop_of_length_le (by omega), List.drop_of_length_le (by omega)]); simp [*]; done)))
theorem QmV {x y : Module} {cx : Cx} {w : World} {L : List Res} {cs ds : List Value} (hx : modR.at cx cs x) (hy : modR.at cx ds y) (hS : St cx w L) : Rets Tryz.prog Q15 [.agg ⟨cs⟩, .agg ⟨ds⟩] w fun u w' => u = .bool (decide (x = y)) ∧ St cx w' L := by
  obtain ⟨vf, rfl, hl⟩ := Q41 hx
  obtain ⟨uf, rfl, hm⟩ := Q41 hy
  obtain ⟨l⟩ := x
  obtain ⟨m⟩ := y
  have hlen := hl.len
  simp only [Module.mk.injEq] at *
  all_goals refine QeJ ?_
  all_goals (unfold R_SameModule_lc; refine Q0 ?_; refine Q1 ?_; refine zb hS ?_; intro p2 w1 hS; refine zb hS ?_; intro p3 w1 hS; refine zm ?_; refine zn ?_; refine Q0 ?_; refine Q0 ?_; refine Q1 ?_; refine Q2 rfl ?_; refine zl hS ?_; refine zL ?_; refine Q2 rfl ?_; refine zl hS ?_; refine zL ?_)
  all_goals (first | (refine Q12 ?_) | (refine Q18 ?_) | (refine Qx rfl rfl (fun hc => ?_) (fun hc => ?_)))
  all_goals (refine zn ?_)
  all_goals
    first
    | (refine Q4 rfl ?_ -- Q15 c0
       all_goals (refine Q0 ?_; refine Q1 ?_; refine zm ?_; refine zn ?_; refine zr ?_; refine zf ?_)
       all_goals (refine ⟨_, rfl, ?_, hS.sp⟩; rw [decide_eq_false]; exact fun e => absurd (congrArg List.length e) (by omega); done))
    | (refine Q5 rfl ?_ -- Q15 c0
       all_goals refine zsk ?_)
  all_goals (refine Q0 ?_; refine Q0 ?_; refine Q1 ?_; refine zm ?_; refine zn ?_; refine Qh ?_)
  refine zoL hS [2, 3] (fun A LL ρ' w' => ∃ (j : Nat), Has ρ' A ∧ Has ρ' [(5, .int .i64 j)] ∧ (j ≤ l.length) ∧ (l.length = m.length) ∧ (l = m ↔ l.drop j = m.drop j) ∧ St cx w' (LL)) (fun ρ' _ => (l.length - iv (ρ' 5)).toNat) ?_ ?_
  · exact ⟨0, zh, zh, (by omega), (by omega), by simp, hS.sp⟩
  rintro ρ w1 ⟨j, hA, hρ, hj, hlm, hd, hS⟩; obtain ⟨ρ, rfl⟩ := env2 hA hρ
  unfold Q7d
  all_goals (refine Q0 ?_; refine Q0 ?_; refine Q1 ?_; refine zm ?_; refine Q2 rfl ?_; refine zl hS ?_; refine zL ?_; refine Q1x rfl rfl ?_; refine zn ?_)
  refine QO rfl (fun hc => ?_) (fun hc => ?_)
  · skip
    all_goals (refine zsk ?_; refine Q0 ?_; refine Qh ?_; refine Q0 ?_)
    refine s_split 10 11 (by kernel_rfl) ?_ ?_
    · skip
      all_goals (refine zC [(0, none), (1, none), (2, none), (3, none), (4, none), (5, none), (6, none), (7, none), (8, none), (9, none), (10, some (some [1, 4, 6, 9])), (11, some (some [1, 4, 6, 9])), (12, some (some [6, 9])), (13, some none)] ?_; have hS := hS.drew; refine s_cq ?_; refine Q2 rfl ?_; refine zt ?_; refine s_cq ?_; refine zl hS ?_; refine zt ?_; refine s_cq ?_; refine zm ?_; refine zt ?_; refine s_cq ?_; refine zi ?_; intro b1 o1 cs1 x1 hat1 hx1 he1; obtain ⟨vp1, vr1, vb1, rfl, hp1, hr1, hb1⟩ := Q1B he1; refine zt ?_; refine s_cq ?_; (first | (refine zv hS ?_) | (refine zvk hS ?_)); refine zt ?_; refine s_cq ?_; refine Q2 rfl ?_; refine zt ?_; refine s_cq ?_; refine zl hS ?_; refine zt ?_; refine s_cq ?_; refine zm ?_; refine zt ?_; refine s_cq ?_; refine zi ?_; intro b2 o2 cs2 x2 hat2 hx2 he2; obtain ⟨vp2, vr2, vb2, rfl, hp2, hr2, hb2⟩ := Q1B he2; refine zt ?_; refine s_cq ?_; (first | (refine zv hS ?_) | (refine zvk hS ?_)); refine zt ?_; refine Q7x ?_; refine Qb hS ?_; intro p6 w1 hS; refine zt ?_; refine zy ?_; refine Q7x ?_; refine Qb hS ?_; intro p7 w1 hS; refine zt ?_)
      all_goals (refine zy ?_; refine Q7x ?_; refine zsn hS ?_; intro w1 hS; have hS := hS.ns; refine zt ?_; refine zy ?_; refine s_cf ?_; refine zsn hS ?_; intro w1 hS; have hS := hS.ns; refine zt ?_; refine zcn ?_; refine Q0 ?_; refine Q0 ?_; refine Q1 ?_; refine Q2 rfl ?_; refine zl hS ?_; refine Q2 rfl ?_; refine zl hS ?_)
      all_goals (first | (refine Q12 ?_) | (refine Q18 ?_) | (refine Qx rfl rfl (fun hc => ?_) (fun hc => ?_)))
      all_goals (refine zm ?_; (first | refine s_gn rfl rfl ?_ | (refine s_gy rfl ?_; refine Q2 rfl ?_)); (first | refine s_gn rfl rfl ?_ | (refine s_gy rfl ?_; refine zl hS ?_)); (first | refine s_gn rfl rfl ?_ | (refine s_gy rfl ?_; refine Q2 rfl ?_)); (first | refine s_gn rfl rfl ?_ | (refine s_gy rfl ?_; refine zl hS ?_)))
      all_goals ((first | (refine s_gn rfl rfl ?_) | (refine s_gy rfl ?_; refine zR2 (c := Q7j (l := x1.params) (m := x2.params) hp1 hp2 hS) (h := ?_); rintro v1 w1 ⟨rfl, hS⟩; (cases hdec : decide (x1.params = x2.params)); have hg := of_decide_eq_false hdec; rotate_left; have hg := of_decide_eq_true hdec; all_goals skip)))
      all_goals ((first | refine s_gn rfl rfl ?_ | (refine s_gy rfl ?_; refine Q1w rfl ?_)); (first | (refine zpt ?_) | (refine zpf ?_)); refine zm ?_; (first | refine s_gn rfl rfl ?_ | (refine s_gy rfl ?_; refine Q2 rfl ?_)); (first | refine s_gn rfl rfl ?_ | (refine s_gy rfl ?_; refine zl hS ?_)); (first | refine s_gn rfl rfl ?_ | (refine s_gy rfl ?_; refine Q2 rfl ?_)); (first | refine s_gn rfl rfl ?_ | (refine s_gy rfl ?_; refine zl hS ?_)))
      all_goals ((first | (refine s_gn rfl rfl ?_) | (refine s_gy rfl ?_; refine zR2 (c := Q7j (l := x1.results) (m := x2.results) hr1 hr2 hS) (h := ?_); rintro v1 w1 ⟨rfl, hS⟩; (cases hdec : decide (x1.results = x2.results)); have hg := of_decide_eq_false hdec; rotate_left; have hg := of_decide_eq_true hdec; all_goals skip)))
      all_goals ((first | refine s_gn rfl rfl ?_ | (refine s_gy rfl ?_; refine Q1w rfl ?_)); (first | (refine zpt ?_) | (refine zpf ?_)); refine zm ?_; (first | refine s_gn rfl rfl ?_ | (refine s_gy rfl ?_; refine Q2 rfl ?_)); (first | refine s_gn rfl rfl ?_ | (refine s_gy rfl ?_; refine zl hS ?_)); (first | refine s_gn rfl rfl ?_ | (refine s_gy rfl ?_; refine zL ?_)); (first | refine s_gn rfl rfl ?_ | (refine s_gy rfl ?_; refine Q2 rfl ?_)); (first | refine s_gn rfl rfl ?_ | (refine s_gy rfl ?_; refine zl hS ?_)); (first | refine s_gn rfl rfl ?_ | (refine s_gy rfl ?_; refine zL ?_)))
      all_goals (first | refine s_gn rfl rfl ?_ | (refine s_gy rfl ?_; (first | (refine Q12 ?_) | (refine Q18 ?_) | (refine Qx rfl rfl (fun hc => ?_) (fun hc => ?_)))))
      all_goals ((first | (refine zpt ?_) | (refine zpf ?_)); refine zn ?_)
      all_goals
        first
        | (refine Q4 rfl ?_ -- Q15 c2
           all_goals (refine Q0 ?_; refine Q1 ?_; refine zm ?_; refine zn ?_; refine zr ?_; refine zf ?_)
           all_goals (first | (refine ⟨_, rfl, ?_, hS.sp⟩; rw [decide_eq_false]; exact fun e => absurd (congrArg List.length e) (by omega); done) | (refine ⟨_, rfl, ?_, hS.sp⟩; (rw [decide_eq_false]; rw [hd, Q6 hx1, Q6 hx2, List.cons.injEq]; rintro ⟨rfl, _⟩; first | (simp_all; done) | (simp at *; omega)); done)))
        | (refine Q5 rfl ?_ -- Q15 c2
           all_goals refine zsk ?_)
      all_goals (refine Q0 ?_; have hlb := hb1.len; refine Q1 ?_; refine zm ?_; refine zn ?_; refine Qh ?_)
      refine zoL hS [2, 3, 5, 6, 7] (fun A LL ρ' w' => ∃ (i : Nat), Has ρ' A ∧ Has ρ' [(8, .int .i64 i)] ∧ (i ≤ x1.blocks.length) ∧ (x1.blocks.length = x2.blocks.length) ∧ (x1.regs = x2.regs) ∧ (x1.params = x2.params) ∧ (x1.results = x2.results) ∧ (x1.blocks = x2.blocks ↔ x1.blocks.drop i = x2.blocks.drop i) ∧ St cx w' (LL)) (fun ρ' _ => (x1.blocks.length - iv (ρ' 8)).toNat) ?_ ?_
      · exact ⟨0, zh, zh, (by omega), (by omega), (by omega), by assumption, by assumption, by simp, hS.sp⟩
      rintro ρ w1 ⟨i, hA, hρ, hi, hlb2, hre, hpe, hrr, hd2, hS⟩; obtain ⟨ρ, rfl⟩ := env2 hA hρ
      unfold Q3S
      all_goals (refine Q0 ?_; refine Q0 ?_; refine Q1 ?_; refine zm ?_; refine Q2 rfl ?_; refine zl hS ?_; refine zL ?_; refine Q1x rfl rfl ?_; refine zn ?_)
      refine QO rfl (fun hc => ?_) (fun hc => ?_)
      · skip
        all_goals (refine zsk ?_; refine Q0 ?_; refine Qh ?_; refine Q0 ?_; refine zD [(0, none), (1, none), (2, none), (3, none), (4, none), (5, none), (6, none), (7, none), (8, none), (9, none), (10, some none), (11, some none)] ?_; have hS := hS.drew; refine Q2 rfl ?_; refine zl hS ?_; refine zm ?_; refine zi ?_; intro b3 o3 cs3 x3 hat3 hx3 he3; obtain ⟨vp3, vc3, ve31, ve32, ve33, ve34, ve35, rfl, hp3, hc3, he31, he32, he33, he34, he35⟩ := Q1X he3; (first | (refine zv hS ?_) | (refine zvk hS ?_)); refine Q2 rfl ?_; refine zl hS ?_; refine zm ?_; refine zi ?_; intro b4 o4 cs4 x4 hat4 hx4 he4; obtain ⟨vp4, vc4, ve41, ve42, ve43, ve44, ve45, rfl, hp4, hc4, he41, he42, he43, he44, he45⟩ := Q1X he4; (first | (refine zv hS ?_) | (refine zvk hS ?_)))
        all_goals (refine zR2 (c := Qhl he3 he4 hS) (h := ?_); rintro v1 w1 ⟨rfl, hS⟩; (cases hdec : decide (x3 = x4)); have hg := of_decide_eq_false hdec; rotate_left; have hg := of_decide_eq_true hdec; all_goals skip)
        all_goals (refine Q1w rfl ?_; refine zn ?_)
        all_goals
          first
          | (refine Q4 rfl ?_ -- Q15 c4
             all_goals (refine Q0 ?_; refine Q1 ?_; refine zm ?_; refine zn ?_; refine zr ?_; refine zf ?_)
             all_goals (first | (refine ⟨_, rfl, ?_, hS.sp⟩; rw [decide_eq_false]; exact fun e => absurd (congrArg List.length e) (by omega); done) | (refine ⟨_, rfl, ?_, hS.sp⟩; (rw [decide_eq_false]; rw [hd, Q6 hx1, Q6 hx2, List.cons.injEq]; rintro ⟨rfl, _⟩; first | (simp_all; done) | (simp at *; omega)); done)))
          | (refine Q5 rfl ?_ -- Q15 c4
             all_goals refine zsk ?_)
        all_goals (refine Q1 ?_; refine zm ?_; refine zad ?_; refine zm ?_; refine zn ?_; exact ⟨⟨i + 1, zh, zh, (by omega), (by omega), (by omega), by assumption, by assumption, by rw [hd2, Q6 hx3, Q6 hx4, hg]; simp, hS.sp⟩, Q16 (by omega)⟩)
      · skip
        all_goals (refine zex ?_; refine Q1 ?_; refine zm ?_; refine zad ?_; refine zm ?_; refine zn ?_; exact ⟨⟨j + 1, zh, zh, (by omega), (by omega), by rw [hd, Q6 hx1, Q6 hx2, Fun.eq_of hre hpe hrr (by rw [hd2, List.drop_of_length_le (by omega), List.drop_of_length_le (by omega)])]; simp, hS.sp⟩, Q16 (by omega)⟩)
    · skip
      all_goals (refine zC [(0, none), (1, none), (2, none), (3, none), (4, none), (5, none), (6, none), (7, none), (8, none), (9, none), (11, some (some [1, 4, 6, 9])), (10, some (some [1, 4, 6, 9])), (12, some (some [6, 9])), (13, some none)] ?_; have hS := hS.drew; refine s_cq ?_; refine Q2 rfl ?_; refine zt ?_; refine s_cq ?_; refine zl hS ?_; refine zt ?_; refine s_cq ?_; refine zm ?_; refine zt ?_; refine s_cq ?_; refine zi ?_; intro b1 o1 cs1 x1 hat1 hx1 he1; obtain ⟨vp1, vr1, vb1, rfl, hp1, hr1, hb1⟩ := Q1B he1; refine zt ?_; refine s_cq ?_; (first | (refine zv hS ?_) | (refine zvk hS ?_)); refine zt ?_; refine s_cq ?_; refine Q2 rfl ?_; refine zt ?_; refine s_cq ?_; refine zl hS ?_; refine zt ?_; refine s_cq ?_; refine zm ?_; refine zt ?_; refine s_cq ?_; refine zi ?_; intro b2 o2 cs2 x2 hat2 hx2 he2; obtain ⟨vp2, vr2, vb2, rfl, hp2, hr2, hb2⟩ := Q1B he2; refine zt ?_; refine s_cq ?_; (first | (refine zv hS ?_) | (refine zvk hS ?_)); refine zt ?_; refine Q7x ?_; refine Qb hS ?_; intro p7 w1 hS; refine zt ?_; refine zy ?_; refine Q7x ?_; refine Qb hS ?_; intro p6 w1 hS; refine zt ?_)
      all_goals (refine zy ?_; refine Q7x ?_; refine zsn hS ?_; intro w1 hS; have hS := hS.ns; refine zt ?_; refine zy ?_; refine s_cf ?_; refine zsn hS ?_; intro w1 hS; have hS := hS.ns; refine zt ?_; refine zcn ?_; refine Q0 ?_; refine Q0 ?_; refine Q1 ?_; refine Q2 rfl ?_; refine zl hS ?_; refine Q2 rfl ?_; refine zl hS ?_)
      all_goals (first | (refine Q12 ?_) | (refine Q18 ?_) | (refine Qx rfl rfl (fun hc => ?_) (fun hc => ?_)))
      all_goals (refine zm ?_; (first | refine s_gn rfl rfl ?_ | (refine s_gy rfl ?_; refine Q2 rfl ?_)); (first | refine s_gn rfl rfl ?_ | (refine s_gy rfl ?_; refine zl hS ?_)); (first | refine s_gn rfl rfl ?_ | (refine s_gy rfl ?_; refine Q2 rfl ?_)); (first | refine s_gn rfl rfl ?_ | (refine s_gy rfl ?_; refine zl hS ?_)))
      all_goals ((first | (refine s_gn rfl rfl ?_) | (refine s_gy rfl ?_; refine zR2 (c := Q7j (l := x1.params) (m := x2.params) hp1 hp2 hS) (h := ?_); rintro v1 w1 ⟨rfl, hS⟩; (cases hdec : decide (x1.params = x2.params)); have hg := of_decide_eq_false hdec; rotate_left; have hg := of_decide_eq_true hdec; all_goals skip)))
      all_goals ((first | refine s_gn rfl rfl ?_ | (refine s_gy rfl ?_; refine Q1w rfl ?_)); (first | (refine zpt ?_) | (refine zpf ?_)); refine zm ?_; (first | refine s_gn rfl rfl ?_ | (refine s_gy rfl ?_; refine Q2 rfl ?_)); (first | refine s_gn rfl rfl ?_ | (refine s_gy rfl ?_; refine zl hS ?_)); (first | refine s_gn rfl rfl ?_ | (refine s_gy rfl ?_; refine Q2 rfl ?_)); (first | refine s_gn rfl rfl ?_ | (refine s_gy rfl ?_; refine zl hS ?_)))
      all_goals ((first | (refine s_gn rfl rfl ?_) | (refine s_gy rfl ?_; refine zR2 (c := Q7j (l := x1.results) (m := x2.results) hr1 hr2 hS) (h := ?_); rintro v1 w1 ⟨rfl, hS⟩; (cases hdec : decide (x1.results = x2.results)); have hg := of_decide_eq_false hdec; rotate_left; have hg := of_decide_eq_true hdec; all_goals skip)))
      all_goals ((first | refine s_gn rfl rfl ?_ | (refine s_gy rfl ?_; refine Q1w rfl ?_)); (first | (refine zpt ?_) | (refine zpf ?_)); refine zm ?_; (first | refine s_gn rfl rfl ?_ | (refine s_gy rfl ?_; refine Q2 rfl ?_)); (first | refine s_gn rfl rfl ?_ | (refine s_gy rfl ?_; refine zl hS ?_)); (first | refine s_gn rfl rfl ?_ | (refine s_gy rfl ?_; refine zL ?_)); (first | refine s_gn rfl rfl ?_ | (refine s_gy rfl ?_; refine Q2 rfl ?_)); (first | refine s_gn rfl rfl ?_ | (refine s_gy rfl ?_; refine zl hS ?_)); (first | refine s_gn rfl rfl ?_ | (refine s_gy rfl ?_; refine zL ?_)))
      all_goals (first | refine s_gn rfl rfl ?_ | (refine s_gy rfl ?_; (first | (refine Q12 ?_) | (refine Q18 ?_) | (refine Qx rfl rfl (fun hc => ?_) (fun hc => ?_)))))
      all_goals ((first | (refine zpt ?_) | (refine zpf ?_)); refine zn ?_)
      all_goals
        first
        | (refine Q4 rfl ?_ -- Q15 c2
           all_goals (refine Q0 ?_; refine Q1 ?_; refine zm ?_; refine zn ?_; refine zr ?_; refine zf ?_)
           all_goals (first | (refine ⟨_, rfl, ?_, hS.sp⟩; rw [decide_eq_false]; exact fun e => absurd (congrArg List.length e) (by omega); done) | (refine ⟨_, rfl, ?_, hS.sp⟩; (rw [decide_eq_false]; rw [hd, Q6 hx1, Q6 hx2, List.cons.injEq]; rintro ⟨rfl, _⟩; first | (simp_all; done) | (simp at *; omega)); done)))
        | (refine Q5 rfl ?_ -- Q15 c2
           all_goals refine zsk ?_)
      all_goals (refine Q0 ?_; have hlb := hb1.len; refine Q1 ?_; refine zm ?_; refine zn ?_; refine Qh ?_)
      refine zoL hS [2, 3, 5, 6, 7] (fun A LL ρ' w' => ∃ (i : Nat), Has ρ' A ∧ Has ρ' [(8, .int .i64 i)] ∧ (i ≤ x1.blocks.length) ∧ (x1.blocks.length = x2.blocks.length) ∧ (x1.regs = x2.regs) ∧ (x1.params = x2.params) ∧ (x1.results = x2.results) ∧ (x1.blocks = x2.blocks ↔ x1.blocks.drop i = x2.blocks.drop i) ∧ St cx w' (LL)) (fun ρ' _ => (x1.blocks.length - iv (ρ' 8)).toNat) ?_ ?_
      · exact ⟨0, zh, zh, (by omega), (by omega), (by omega), by assumption, by assumption, by simp, hS.sp⟩
      rintro ρ w1 ⟨i, hA, hρ, hi, hlb2, hre, hpe, hrr, hd2, hS⟩; obtain ⟨ρ, rfl⟩ := env2 hA hρ
      unfold Q3S
      all_goals (refine Q0 ?_; refine Q0 ?_; refine Q1 ?_; refine zm ?_; refine Q2 rfl ?_; refine zl hS ?_; refine zL ?_; refine Q1x rfl rfl ?_; refine zn ?_)
      refine QO rfl (fun hc => ?_) (fun hc => ?_)
      · skip
        all_goals (refine zsk ?_; refine Q0 ?_; refine Qh ?_; refine Q0 ?_; refine zD [(0, none), (1, none), (2, none), (3, none), (4, none), (5, none), (6, none), (7, none), (8, none), (9, none), (10, some none), (11, some none)] ?_; have hS := hS.drew; refine Q2 rfl ?_; refine zl hS ?_; refine zm ?_; refine zi ?_; intro b3 o3 cs3 x3 hat3 hx3 he3; obtain ⟨vp3, vc3, ve31, ve32, ve33, ve34, ve35, rfl, hp3, hc3, he31, he32, he33, he34, he35⟩ := Q1X he3; (first | (refine zv hS ?_) | (refine zvk hS ?_)); refine Q2 rfl ?_; refine zl hS ?_; refine zm ?_; refine zi ?_; intro b4 o4 cs4 x4 hat4 hx4 he4; obtain ⟨vp4, vc4, ve41, ve42, ve43, ve44, ve45, rfl, hp4, hc4, he41, he42, he43, he44, he45⟩ := Q1X he4; (first | (refine zv hS ?_) | (refine zvk hS ?_)))
        all_goals (refine zR2 (c := Qhl he3 he4 hS) (h := ?_); rintro v1 w1 ⟨rfl, hS⟩; (cases hdec : decide (x3 = x4)); have hg := of_decide_eq_false hdec; rotate_left; have hg := of_decide_eq_true hdec; all_goals skip)
        all_goals (refine Q1w rfl ?_; refine zn ?_)
        all_goals
          first
          | (refine Q4 rfl ?_ -- Q15 c4
             all_goals (refine Q0 ?_; refine Q1 ?_; refine zm ?_; refine zn ?_; refine zr ?_; refine zf ?_)
             all_goals (first | (refine ⟨_, rfl, ?_, hS.sp⟩; rw [decide_eq_false]; exact fun e => absurd (congrArg List.length e) (by omega); done) | (refine ⟨_, rfl, ?_, hS.sp⟩; (rw [decide_eq_false]; rw [hd, Q6 hx1, Q6 hx2, List.cons.injEq]; rintro ⟨rfl, _⟩; first | (simp_all; done) | (simp at *; omega)); done)))
          | (refine Q5 rfl ?_ -- Q15 c4
             all_goals refine zsk ?_)
        all_goals (refine Q1 ?_; refine zm ?_; refine zad ?_; refine zm ?_; refine zn ?_; exact ⟨⟨i + 1, zh, zh, (by omega), (by omega), (by omega), by assumption, by assumption, by rw [hd2, Q6 hx3, Q6 hx4, hg]; simp, hS.sp⟩, Q16 (by omega)⟩)
      · skip
        all_goals (refine zex ?_; refine Q1 ?_; refine zm ?_; refine zad ?_; refine zm ?_; refine zn ?_; exact ⟨⟨j + 1, zh, zh, (by omega), (by omega), by rw [hd, Q6 hx1, Q6 hx2, Fun.eq_of hre hpe hrr (by rw [hd2, List.drop_of_length_le (by omega), List.drop_of_length_le (by omega)])]; simp, hS.sp⟩, Q16 (by omega)⟩)
  · skip
    all_goals (refine zex ?_; refine Q0 ?_; refine Q1 ?_; refine zm ?_; refine zn ?_; refine zr ?_; refine zf ?_)
    all_goals (first | (refine ⟨_, rfl, ?_, hS.sp⟩; rw [decide_eq_false]; exact fun e => absurd (congrArg List.length e) (by omega); done) | (refine ⟨_, rfl, ?_, hS.sp⟩; (rw [decide_eq_false]; rw [hd, Q6 hx1, Q6 hx2, List.cons.injEq]; rintro ⟨rfl, _⟩; first | (simp_all; done) | (simp at *; omega)); done) | (refine ⟨_, rfl, ?_, hS.sp⟩; rw [decide_eq_false]; rw [hd, Q6 hx1, Q6 hx2, List.cons.injEq]; rintro ⟨rfl, _⟩; rw [hx3] at hx4; cases hx4; exact hg rfl; done) | (refine ⟨_, rfl, ?_, hS.sp⟩; rw [decide_eq_true]; rw [hd, List.drop_of_length_le (by omega), List.drop_of_length_le (by omega)]; done))
end Go.Proofs.YtjecflbbcnocdaaGreatDoor
namespace Go.Proofs.YtjecflbbcnocdaaGreatDoor
open Go.Lir
set_option maxHeartbeats 1000000
attribute [local irreducible] LC.wp Q3 QF QK retQ Q1E LO.wp Qq Calls
set_option linter.unusedSimpArgs false
set_option linter.unusedVariables false
attribute [local irreducible] Lib.itoa Lib.join
end Go.Proofs.YtjecflbbcnocdaaGreatDoor
namespace Go.Proofs.YtjecflbbcnocdaaGreatDoor
open Go.Lir
set_option maxHeartbeats 1000000
attribute [local irreducible] LC.wp Q3 QF QK retQ Q1E LO.wp Qq Calls
set_option linter.unusedSimpArgs false
set_option linter.unusedVariables false
variable {cx : Cx} {w : World} {L : List Res}
end Go.Proofs.YtjecflbbcnocdaaGreatDoor
namespace Go.Proofs.YtjecflbbcnocdaaGreatDoor
open Go.Lir
set_option maxHeartbeats 1000000
attribute [local irreducible] LC.wp Q3 QF QK retQ Q1E LO.wp Qq Calls
set_option linter.unusedSimpArgs false
set_option linter.unusedVariables false
attribute [local irreducible] Lib.itoa Lib.join
variable {cx : Cx} {w : World} {L : List Res}
end Go.Proofs.YtjecflbbcnocdaaGreatDoor
namespace Go.Proofs.YtjecflbbcnocdaaGreatDoor
open Go.Lir
set_option maxHeartbeats 1000000
attribute [local irreducible] LC.wp Q3 QF QK retQ Q1E LO.wp Qq Calls
set_option linter.unusedSimpArgs false
set_option linter.unusedVariables false
attribute [local irreducible] Lib.itoa Lib.join Qov
variable {cx : Cx} {w : World} {L : List Res}
end Go.Proofs.YtjecflbbcnocdaaGreatDoor
namespace Go.Proofs.YtjecflbbcnocdaaGreatDoor
open Go.Lir
set_option maxHeartbeats 1000000
attribute [local irreducible] LC.wp Q3 QF QK retQ Q1E LO.wp Qq Calls
set_option linter.unusedSimpArgs false
set_option linter.unusedVariables false
attribute [local irreducible] Lib.itoa Lib.join Qov wordN
variable {cx : Cx} {w : World} {L : List Res}
abbrev toBA (t : List UInt8) : ByteArray := ⟨t.toArray⟩
theorem strs (l : List (List UInt8)) : strR.ls cx (l.map fun t => [strV t]) (l.map toBA) :=
  ⟨by simp, fun m x hx => by
    rw [List.getElem?_map, Option.map_eq_some_iff] at hx
    obtain ⟨t, h1, rfl⟩ := hx
    exact ⟨[strV t], by rw [List.getElem?_map, h1]; rfl, rfl⟩⟩
section
variable {x : Ins}
end
end Go.Proofs.YtjecflbbcnocdaaGreatDoor
namespace Go.Proofs.YtjecflbbcnocdaaGreatDoor
open Go.Lir
set_option maxHeartbeats 1000000
attribute [local irreducible] LC.wp Q3 QF QK retQ Q1E LO.wp Qq Calls
set_option linter.unusedSimpArgs false
set_option linter.unusedVariables false
attribute [local irreducible] Lib.itoa Lib.join Qov wordN Q3P
variable {cx : Cx} {w : World} {L : List Res}
end Go.Proofs.YtjecflbbcnocdaaGreatDoor
namespace Go.Lir
theorem St.lent {c : Cx} {w : World} {L : List Res} {r : Res} (h : St c w (r :: L)) : ∃ c' F, c.Le c' ∧ St c' w L ∧ r.A c'.H0 F ∧ (∀ b, F b → c'.K b) ∧ ∀ {w' : World} {L' : List Res}, St c' w' L' → St c w' (r :: L') := by
  obtain ⟨ok, F, ⟨F1, F2, h1, h2, h3, h4⟩, hd⟩ := h
  have hle : c.Le ⟨c.base, fun b => c.K b ∨ F1 b, w.heap⟩ := ⟨rfl, fun b hb => ⟨.inl hb, ok.same b hb⟩, ok.size, ok.lt⟩
  refine ⟨⟨c.base, fun b => c.K b ∨ F1 b, w.heap⟩, F1, hle, ⟨⟨ok.os, ok.tape, ok.output, Nat.le_refl _, fun b hb => hb.elim (fun hb => Nat.lt_of_lt_of_le (ok.lt b hb) ok.size) (r.lt h1 b), fun b _ => rfl⟩, F2, h2, ?_⟩, h1, fun b hb => .inr hb, ?_⟩
  · rintro b hb (hk | hk)
    · exact hd b ((h4 b).2 (.inr hb)) hk
    · exact h3 b hk hb
  · intro w' L' hS
    have hw := hS.weak hle
    obtain ⟨ok', F', hF', hd'⟩ := hS
    refine ⟨hw.1, fun b => F1 b ∨ F' b, ⟨F1, F', r.loc h1 fun b hb _ => ok'.same b (.inr hb), hF', fun b hb hb' => hd' b hb' (.inr hb), fun b => Iff.rfl⟩, ?_⟩
    rintro b (hb | hb) hk
    · exact hd b ((h4 b).2 (.inl hb)) hk
    · exact hd' b hb (.inl hk)
end Go.Lir
namespace Go.Proofs.YtjecflbbcnocdaaGreatDoor
open Go.Lir
set_option maxHeartbeats 1000000
attribute [local irreducible] LC.wp Q3 QF QK retQ Q1E LO.wp Qq Calls
set_option linter.unusedSimpArgs false
set_option linter.unusedVariables false
variable {cx : Cx} {w : World} {L : List Res}
end Go.Proofs.YtjecflbbcnocdaaGreatDoor
namespace Go.Proofs.YtjecflbbcnocdaaGreatDoor
open Go.Lir
set_option maxHeartbeats 1000000
attribute [local irreducible] LC.wp Q3 QF QK retQ Q1E LO.wp Qq Calls
set_option linter.unusedSimpArgs false
set_option linter.unusedVariables false
attribute [local irreducible] Lib.itoa Lib.join Q8Y Q3P Ins.txt Tail.txt To.txt
variable {cx : Cx} {w : World} {L : List Res}
def Fun.head (f : Fun) : List UInt8 := Qnw ++ [32] ++ Lib.itoa f.regs ++ [32] ++ Q8Y f.params ++ [32] ++ QjY ++ [32] ++ Q8Y f.results ++ [32, 123, 10]
def Block.head (b : Block) : List UInt8 := Q5b ++ [32] ++ Lib.itoa b.regs ++ [32] ++ Q8Y b.params ++ [32, 123, 10]
end Go.Proofs.YtjecflbbcnocdaaGreatDoor
namespace Go.Proofs.YtjecflbbcnocdaaGreatDoor
open Go.Lir
set_option maxHeartbeats 1000000
attribute [local irreducible] LC.wp Q3 QF QK retQ Q1E LO.wp Qq Calls
set_option linter.unusedSimpArgs false
set_option linter.unusedVariables false
attribute [local irreducible] Lib.itoa Lib.join Q8Y Q3P Ins.txt Tail.txt To.txt
variable {cx : Cx} {w : World} {L : List Res}
/-- The sum of two strings, by a name. -/
theorem Qi4 {P : Program} {l : List GO} {Q : QT} {ρ : Env} {d T : Nat} {x y : Operand} {a b : List UInt8} (hx : ρ.ev x = .string ⟨a.toArray⟩) (hy : ρ.ev y = .string ⟨b.toArray⟩) (hn : (a ++ b).length ≤ 140737488355328)
    (h : ∀ s : List UInt8, s = a ++ b → Q3 P l Q (upd ρ d (.string ⟨s.toArray⟩)) w) : Q3 P (⟨none, .bin d .add T x y⟩ :: l) Q ρ w := s_sadd hx hy (by rw [List.length_append] at hn; omega) (h _ rfl)
end Go.Proofs.YtjecflbbcnocdaaGreatDoor
namespace Go.Lir
section
variable {P : Program} {l : List GO} {Q : QT} {ρ : Env} {w : World}
/-- A field that holds an integer. -/
def IntF (P : Program) (f : Field) (i : Nat) : Prop := f.name ≠ "_" ∧ (∃ k, P.underlying f.type = some (.int k)) ∧ f.offset = i ∧ Q3I P f.type = true
theorem Q6o (k : Nat) {T : TypeId} {q : IntKind} {a b : Int} {kk : IntKind} {w0 : World} (ht : P.underlying T = some (.int q)) : (Op.equalIn (k + 1) T (.int kk a) (.int kk b)).run P w0 = .ok (a == b) w0 := by
  simp only [Op.equalIn, Sem.run_bind, Qe P T _ w0 ht, Result.andThen_ok]
  simp [Sem.run_pure]
def intFB (P : Program) (f : Field) (i : Nat) : Bool := f.name != "_" && (match P.underlying f.type with | some (.int _) => true | _ => false) && f.offset == i && Q3I P f.type
theorem Qow {f : Field} {i : Nat} (h : intFB P f i = true) : IntF P f i := by
  unfold intFB at h
  simp only [Bool.and_eq_true, bne_iff_ne, ne_eq, beq_iff_eq] at h
  obtain ⟨⟨⟨h1, h2⟩, h3⟩, h4⟩ := h
  refine ⟨h1, ?_, h3, h4⟩
  split at h2
  · rename_i k hk; exact ⟨k, hk⟩
  · cases h2
end
end Go.Lir
namespace Go.Lir
section
variable {P : Program} {l : List GO} {Q : QT} {ρ : Env} {w : World}
theorem run_eq2 (k : Nat) {T : TypeId} {f0 f1 : Field} {a0 a1 b0 b1 : Int} {w0 : World} (ht : P.underlying T = some (.struct #[f0, f1])) (hh : P.stoodInHeld T = false)
    (h0 : IntF P f0 0) (h1 : IntF P f1 1) :
    (Op.equalIn (k + 2) T (.agg ⟨[.int .i64 a0, .int .i64 a1]⟩) (.agg ⟨[.int .i64 b0, .int .i64 b1]⟩)).run P w0 = .ok (a0 == b0 && a1 == b1) w0 := by
  obtain ⟨n0, ⟨q0, u0⟩, o0, s0⟩ := h0
  obtain ⟨n1, ⟨q1, u1⟩, o1, s1⟩ := h1
  have hp : ∀ (T : TypeId) (cs : Array Value) (off : Nat) (v : Value) (w : World), Q3I P T = true → cs[off]? = some v → (part T cs off).run P w = .ok v w := fun T cs off v w h hv => Qi6 P T cs off v w h hv
  unfold Op.equalIn
  simp only [Sem.run_bind, Qe P T _ w0 ht, Result.andThen_ok]
  simp [hh, n0, n1, o0, o1, Q6o _ u0, Q6o _ u1, hp _ _ _ _ _ s0, hp _ _ _ _ _ s1]
  by_cases e0 : a0 = b0 <;> by_cases e1 : a1 = b1 <;> simp [e0, e1]
def Int2 (P : Program) (T : TypeId) : Prop := ∃ f0 f1 : Field, P.underlying T = some (.struct #[f0, f1]) ∧ P.stoodInHeld T = false ∧ P.eqGuardType P.depth T = false ∧ IntF P f0 0 ∧ IntF P f1 1
def int2B (P : Program) (T : TypeId) : Bool := match P.underlying T with
  | some (.struct fs) => match fs.toList with
    | [f0, f1] => !P.stoodInHeld T && !P.eqGuardType P.depth T && intFB P f0 0 && intFB P f1 1
    | _ => false
  | _ => false
theorem int2_of {T : TypeId} (h : int2B P T = true) : Int2 P T := by
  unfold int2B at h
  split at h
  · rename_i fs hu
    split at h
    · rename_i f0 f1 hf
      simp only [Bool.and_eq_true, Bool.not_eq_true'] at h
      obtain ⟨⟨⟨h1, h2⟩, h3⟩, h4⟩ := h
      have : fs = #[f0, f1] := by apply Array.ext'; exact hf
      subst this
      exact ⟨f0, f1, hu, h1, h2, Qow h3, Qow h4⟩
    · cases h
  · cases h
theorem pair_dec (a0 a1 b0 b1 : Int) : (a0 == b0 && a1 == b1) = decide ((a0, a1) = (b0, b1)) := by
  rw [Bool.eq_iff_iff]; simp
theorem s_eq2 {d : Nat} {T : TypeId} {x y : Operand} {a b : Int × Int} (hT : Int2 P T) (hx : ρ.ev x = .agg ⟨[.int .i64 a.1, .int .i64 a.2]⟩) (hy : ρ.ev y = .agg ⟨[.int .i64 b.1, .int .i64 b.2]⟩)
    (h : Q3 P l Q (upd ρ d (.bool (decide (a = b)))) w) : Q3 P (⟨none, .bin d .eql T x y⟩ :: l) Q ρ w := by
  obtain ⟨f0, f1, ht, hh, hg, h0, h1⟩ := hT
  exact ⟨.bool (decide (a = b)), fun w0 => by rw [hx, hy]; simp only [Sem.run_bind, run_eqGuard_agg w0 .eql T x y _ _ hg, Result.andThen_ok, run_eql_struct, run_eq2 9998 ht hh h0 h1, pair_dec], h⟩
theorem QnN {d : Nat} {T : TypeId} {x y : Operand} {a : Int × Int} (hT : Int2 P T) (hx : ρ.ev x = .agg ⟨[.int .i64 a.1, .int .i64 a.2]⟩) (hy : ρ.ev y = .agg ⟨[.int .i64 a.1, .int .i64 a.2]⟩)
    (h : Q3 P l Q (upd ρ d (.bool true)) w) : Q3 P (⟨none, .bin d .eql T x y⟩ :: l) Q ρ w := s_eq2 hT hx hy (by rw [decide_eq_true rfl]; exact h)
end
end Go.Lir
namespace Go.Proofs.YtjecflbbcnocdaaGreatDoor
open Go.Lir
set_option maxHeartbeats 1000000
attribute [local irreducible] LC.wp Q3 QF QK retQ Q1E LO.wp Qq Calls
set_option linter.unusedSimpArgs false
set_option linter.unusedVariables false
end Go.Proofs.YtjecflbbcnocdaaGreatDoor
namespace Go.Proofs.YtjecflbbcnocdaaGreatDoor
open Go.Lir
set_option maxHeartbeats 1000000
attribute [local irreducible] LC.wp Q3 QF QK retQ Q1E LO.wp Qq Calls
set_option linter.unusedSimpArgs false
set_option linter.unusedVariables false
variable {cx : Cx} {w : World} {L : List Res} {i : Nat}
theorem QmC : Int2 Tryz.prog 29 := int2_of (by kernel_rfl)
end Go.Proofs.YtjecflbbcnocdaaGreatDoor
namespace Go.Lir
def begunP : List UInt8 := [102, 117, 110, 99, 32, 48, 32, 40, 41, 32, 45, 62, 32, 40, 105, 110, 116, 41, 32, 123, 32, 98, 108, 111, 99, 107, 32, 48, 32, 40, 41, 32, 123, 32, 110, 117, 109, 32, 53, 59, 32, 114, 101, 116, 32, 40, 48, 41, 59, 32, 125, 32, 125]
def Qp1 : Block := ⟨0, [], [⟨1, 0, 0, 0, 0, 5, [], []⟩], ⟨3, 0, ⟨0, [], []⟩, ⟨0, [], []⟩, [0]⟩⟩
def Qp0 : Fun := ⟨0, [], [.mk 1 0 []], [Qp1]⟩
def begunM : Module := ⟨[Qp0]⟩
theorem Qeb : Q2c begunP = .ok begunM := by kernel_rfl
end Go.Lir
namespace Go.Proofs.YtjecflbbcnocdaaGreatDoor
open Go.Lir
set_option maxHeartbeats 1000000
attribute [local irreducible] LC.wp Q3 QF QK retQ Q1E LO.wp Qq Calls
set_option linter.unusedSimpArgs false
set_option linter.unusedVariables false
attribute [local irreducible] Q2c Module.fault
variable {cx : Cx} {w : World} {L : List Res}
theorem pbegun_p (hT : NumK cx) (hS : St cx w L) : Rets Tryz.prog Q1z [.string ⟨begunP.toArray⟩] w fun u w' => ∃ c' a n, cx.Le c' ∧ u = .tuple #[.agg ⟨[.slice a 1 n]⟩, .agg ⟨[.int .i64 0, .int .i64 0]⟩] ∧ funcR.sl c' (.slice a 1 n) [Qp0] ∧ St c' w' L := by
  refine (Qbc hT (by decide) hS).mono ?_
  rintro u w' (⟨m, c', vf, h1, rfl, hle, hm, hS⟩ | ⟨f, h1, rfl, hS⟩)
  · rw [Qeb] at h1; cases h1
    obtain ⟨v9, e9, hf⟩ := Q41 hm
    cases e9
    have hf : funcR.sl c' vf [Qp0] := hf
    obtain ⟨a, n, rfl⟩ := Rep.SR.shape hf
    exact ⟨c', a, n, hle, rfl, hf, hS⟩
  · rw [Qeb] at h1; cases h1
theorem Q3Z (hT : NumK cx) (hS : St cx w L) : Rets Tryz.prog Q9c [] w fun u w' => u = .bool true ∧ St cx w' L := by
  all_goals refine QbZ ?_
  all_goals (unfold Law_parseBegun_lc; refine Q0 ?_; refine Q1 ?_; refine zm ?_; refine zn ?_; refine Q0 ?_; refine Q1 ?_; refine zR1 (c := pbegun_p hT hS) (h := ?_); rintro v1 w1 ⟨c1, a1, n1, hle1, rfl, hk1, hS⟩; refine zm ?_; refine Q1M rfl rfl ?_; refine Q1M rfl rfl ?_; refine Qb hS ?_; intro p1 w1 hS; refine Qb hS ?_; intro p2 w1 hS; refine zsn hS ?_; intro w1 hS; have hS := hS.ns; refine zsn hS ?_; intro w1 hS; have hS := hS.ns; refine zn ?_; refine Q0 ?_; refine Q1 ?_; refine Q2 rfl ?_; refine zl hS ?_; refine Q9g rfl rfl rfl ?_; refine zm ?_; (first | refine s_gn rfl rfl ?_ | (refine s_gy rfl ?_; refine Q2 rfl ?_)); (first | refine s_gn rfl rfl ?_ | (refine s_gy rfl ?_; refine zl hS ?_)); (first | refine s_gn rfl rfl ?_ | (refine s_gy rfl ?_; refine zL ?_)); (first | refine s_gn rfl rfl ?_ | (refine s_gy rfl ?_; refine Q9g rfl rfl rfl ?_)); refine zpt ?_; refine zm ?_; (first | refine s_gn rfl rfl ?_ | (refine s_gy rfl ?_; refine Q2 rfl ?_)); (first | refine s_gn rfl rfl ?_ | (refine s_gy rfl ?_; refine zl hS ?_)))
  all_goals (first | refine s_gn rfl rfl ?_ | (refine s_gy rfl ?_; refine Q1K (m := 0) rfl rfl hk1 rfl (by decide) ?_; intro b1 o1 cs1 x1 hat1 hx1 he1; cases hx1; obtain ⟨p1, r1, k1, rfl, i1, i2, i3⟩ := Q1B he1; have i2 : tyR.sl c1 r1 [.mk 1 0 []] := i2; have i3 : blockR.sl c1 k1 [Qp1] := i3; obtain ⟨a2, n2, rfl⟩ := Rep.SR.shape i2; obtain ⟨a3, n3, rfl⟩ := Rep.SR.shape i3))
  all_goals ((first | refine s_gn rfl rfl ?_ | (refine s_gy rfl ?_; (first | refine Q2 rfl ?_ | refine Q2b rfl ?_))); (first | refine s_gn rfl rfl ?_ | (refine s_gy rfl ?_; (first | (refine zl hS ?_) | (refine zlk hS ?_) | (refine zlj hS ?_)))); (first | refine s_gn rfl rfl ?_ | (refine s_gy rfl ?_; refine zL ?_)); (first | refine s_gn rfl rfl ?_ | (refine s_gy rfl ?_; refine Q9g rfl rfl rfl ?_)); refine zpt ?_; refine zm ?_; (first | refine s_gn rfl rfl ?_ | (refine s_gy rfl ?_; refine Q2 rfl ?_)); (first | refine s_gn rfl rfl ?_ | (refine s_gy rfl ?_; refine zl hS ?_)))
  all_goals (first | refine s_gn rfl rfl ?_ | (refine s_gy rfl ?_; refine Q1K (m := 0) rfl rfl hk1 rfl (by decide) ?_; intro b2 o2 cs2 x2 hat2 hx2 he2; cases hx2; obtain ⟨p2, r2, k2, rfl, j1, j2, j3⟩ := Q1B he2; have j3 : blockR.sl c1 k2 [Qp1] := j3; obtain ⟨a4, n4, rfl⟩ := Rep.SR.shape j3))
  all_goals ((first | refine s_gn rfl rfl ?_ | (refine s_gy rfl ?_; (first | refine Q2 rfl ?_ | refine Q2b rfl ?_))); (first | refine s_gn rfl rfl ?_ | (refine s_gy rfl ?_; (first | (refine zl hS ?_) | (refine zlk hS ?_) | (refine zlj hS ?_)))))
  all_goals (first | refine s_gn rfl rfl ?_ | (refine s_gy rfl ?_; refine Q1K (m := 0) rfl rfl j3 rfl (by decide) ?_; intro b3 o3 cs3 x3 hat3 hx3 he3; cases hx3; obtain ⟨q1, q2, q3, q4, q5, q6, q7, rfl, l1, l2, l3⟩ := Q1X he3; have l2 : insR.sl c1 q2 [⟨1, 0, 0, 0, 0, 5, [], []⟩] := l2; obtain ⟨a5, n5, rfl⟩ := Rep.SR.shape l2))
  all_goals ((first | refine s_gn rfl rfl ?_ | (refine s_gy rfl ?_; (first | refine Q2 rfl ?_ | refine Q2b rfl ?_))); (first | refine s_gn rfl rfl ?_ | (refine s_gy rfl ?_; (first | (refine zl hS ?_) | (refine zlk hS ?_) | (refine zlj hS ?_)))))
  all_goals (first | refine s_gn rfl rfl ?_ | (refine s_gy rfl ?_; refine Q1K (m := 0) rfl rfl l2 rfl (by decide) ?_; intro b4 o4 cs4 x4 hat4 hx4 he4; cases hx4; obtain ⟨y1, y2, rfl, z1, z2⟩ := Q3i he4))
  all_goals ((first | refine s_gn rfl rfl ?_ | (refine s_gy rfl ?_; (first | refine Q2 rfl ?_ | refine Q2b rfl ?_))); (first | refine s_gn rfl rfl ?_ | (refine s_gy rfl ?_; (first | (refine zl hS ?_) | (refine zlk hS ?_) | (refine zlj hS ?_)))); (first | refine s_gn rfl rfl ?_ | (refine s_gy rfl ?_; refine Q9g rfl rfl rfl ?_)); refine zpt ?_; refine zm ?_; (first | refine s_gn rfl rfl ?_ | (refine s_gy rfl ?_; refine zR1 (c := popw_c hS) (h := ?_); rintro v1 w1 ⟨rfl, hS⟩)); (first | refine s_gn rfl rfl ?_ | (refine s_gy rfl ?_; refine s_seqt rfl rfl rfl ?_)); refine zpt ?_; refine zm ?_; (first | refine s_gn rfl rfl ?_ | (refine s_gy rfl ?_; refine zR1 (c := Qmr hS) (h := ?_); rintro v1 w1 ⟨rfl, hS⟩)); (first | refine s_gn rfl rfl ?_ | (refine s_gy rfl ?_; refine s_seqt rfl rfl rfl ?_)); refine zpt ?_; refine zm ?_; refine zn ?_; refine zr ?_; refine zf ?_; exact ⟨_, rfl, rfl, St.weak hS.sp hle1⟩)
/-- What a reading gives: a module, or a fault. -/
theorem parse_two (s : List UInt8) : (∃ m, Q2c s = .ok m) ∨ (∃ f : Flt, f.1 ≠ 0 ∧ Q2c s = .error f) := by
  cases h : Q2c s with
  | ok m => exact .inl ⟨m, rfl⟩
  | error f => exact .inr ⟨f, Qoc h, rfl⟩
theorem Q4X {s : List UInt8} {m : Module} (h : Q2c s = .ok m) (hT : NumK cx) (hl : s.length ≤ 9223372036854775807) (hS : St cx w L) :
    Rets Tryz.prog Q1z [.string ⟨s.toArray⟩] w fun u w' => ∃ c' a n, cx.Le c' ∧ u = .tuple #[.agg ⟨[.slice a m.funcs.length n]⟩, .agg ⟨[.int .i64 0, .int .i64 0]⟩] ∧ funcR.sl c' (.slice a m.funcs.length n) m.funcs ∧ St c' w' L := by
  refine (Qbc hT hl hS).mono ?_
  rintro u w' (⟨m2, c', vf, h1, rfl, hle, hm, hS⟩ | ⟨f, h1, rfl, hS⟩)
  · rw [h] at h1; cases h1
    obtain ⟨v9, e9, hf⟩ := Q41 hm
    cases e9
    obtain ⟨a, n, rfl⟩ := Rep.SR.shape hf
    exact ⟨c', a, n, hle, rfl, hf, hS⟩
  · rw [h] at h1; cases h1
theorem Qd0 {s : List UInt8} {f : Flt} (h : Q2c s = .error f) (hT : NumK cx) (hl : s.length ≤ 9223372036854775807) (hS : St cx w L) :
    Rets Tryz.prog Q1z [.string ⟨s.toArray⟩] w fun u w' => u = .tuple #[.agg ⟨[vn]⟩, .agg ⟨[.int .i64 f.1, .int .i64 f.2]⟩] ∧ St cx w' L := by
  refine (Qbc hT hl hS).mono ?_
  rintro u w' (⟨m2, c', vf, h1, rfl, hle, hm, hS⟩ | ⟨f2, h1, rfl, hS⟩)
  · rw [h] at h1; cases h1
  · rw [h] at h1; cases h1; exact ⟨rfl, hS⟩
theorem joins_e {a b : List UInt8} {f : Flt} (f0 : f.1 ≠ 0) (em : Q2c a = .error f) (ha : a.length ≤ 9223372036854775807) (hb : b.length ≤ 9223372036854775807) (hT : NumK cx) (hS : St cx w L) : Rets Tryz.prog QB [.string ⟨a.toArray⟩, .string ⟨b.toArray⟩] w fun u w' => u = .bool true ∧ St cx w' L := by
  have hle := St.refl hS
  all_goals refine Q2m ?_
  all_goals (unfold Law_ParseJoins_lc; refine Q0 ?_; refine Q1 ?_; refine zm ?_; refine zn ?_; refine Q0 ?_; refine Q0 ?_; refine Q1 ?_; refine zR0 (c := Q3Z hT hS) (h := ?_); rintro v1 w1 ⟨rfl, hS⟩; refine Q1w rfl ?_; refine zn ?_)
  all_goals
    first
    | (refine Q4 rfl ?_ -- QB c0
       all_goals (refine Q0 ?_; refine Q1 ?_; refine zm ?_; refine zn ?_; refine zr ?_; refine zf ?_)
       all_goals (exact ⟨_, rfl, rfl, St.weak hS.sp hle⟩))
    | (refine Q5 rfl ?_ -- QB c0
       all_goals refine zsk ?_)
  all_goals (refine Q0 ?_; refine Q0 ?_; refine Q1 ?_; refine zm ?_; refine Q20 rfl ?_; refine zm ?_; refine Q20 rfl ?_; (first | (refine zad ?_) | (refine s_addw rfl rfl ?_)); refine Q6m rfl rfl ?_; refine zn ?_)
  refine QO rfl (fun hc => ?_) (fun hc => ?_)
  · skip
    all_goals (refine Q0 ?_; refine Q1 ?_; refine zm ?_; refine zn ?_; refine zr ?_; refine zf ?_; exact ⟨_, rfl, rfl, St.weak hS.sp hle⟩)
  · skip
    all_goals (refine zsk ?_; refine Q0 ?_; refine Q1 ?_; refine zm ?_; refine zR1 (c := Qd0 em hT ha hS) (h := ?_); rintro v1 w1 ⟨rfl, hS⟩; refine zm ?_; refine Q1M rfl rfl ?_; refine Q1M rfl rfl ?_; refine Qb hS ?_; intro p5 w1 hS; refine Qb hS ?_; intro p6 w1 hS; refine zsn hS ?_; intro w1 hS; have hS := hS.ns; refine zsn hS ?_; intro w1 hS; have hS := hS.ns; refine zn ?_; refine Q0 ?_; refine Q1 ?_; refine zm ?_)
    all_goals ((rcases parse_two b with ⟨n, en⟩ | ⟨g, g0, en⟩); refine zR1 (c := Q4X en hT hb hS) (h := ?_); rintro v1 w1 ⟨c2, an, nn, hle2, rfl, hkn, hS⟩; (try have hle := hle.trans hle2); rotate_left; refine zR1 (c := Qd0 en hT hb hS) (h := ?_); rintro v1 w1 ⟨rfl, hS⟩)
    all_goals (refine zm ?_; refine Q1M rfl rfl ?_; refine Q1M rfl rfl ?_; refine Qb hS ?_; intro p7 w1 hS; refine Qb hS ?_; intro p8 w1 hS; refine zsn hS ?_; intro w1 hS; have hS := hS.ns; refine zsn hS ?_; intro w1 hS; have hS := hS.ns; refine zn ?_; refine Q0 ?_; refine Q0 ?_; refine Q1 ?_; refine Q2 rfl ?_; refine zl hS ?_)
    all_goals (refine Q12 ?_)
    all_goals (refine zm ?_; refine s_gn rfl rfl ?_; refine s_gn rfl rfl ?_)
    all_goals (refine s_gn rfl rfl ?_)
    all_goals (refine zpt ?_; refine zn ?_)
    all_goals refine Q4 rfl ?_
    all_goals (refine Q0 ?_; refine Q1 ?_; refine zm ?_; refine zn ?_; refine zr ?_; refine zf ?_; exact ⟨_, rfl, rfl, St.weak hS.sp hle⟩)
theorem joins_e2 {a b : List UInt8} {m : Module} {g : Flt} (em : Q2c a = .ok m) (g0 : g.1 ≠ 0) (en : Q2c b = .error g) (ha : a.length ≤ 9223372036854775807) (hb : b.length ≤ 9223372036854775807) (hT : NumK cx) (hS : St cx w L) : Rets Tryz.prog QB [.string ⟨a.toArray⟩, .string ⟨b.toArray⟩] w fun u w' => u = .bool true ∧ St cx w' L := by
  have hle := St.refl hS
  all_goals refine Q2m ?_
  all_goals (unfold Law_ParseJoins_lc; refine Q0 ?_; refine Q1 ?_; refine zm ?_; refine zn ?_; refine Q0 ?_; refine Q0 ?_; refine Q1 ?_; refine zR0 (c := Q3Z hT hS) (h := ?_); rintro v1 w1 ⟨rfl, hS⟩; refine Q1w rfl ?_; refine zn ?_)
  all_goals
    first
    | (refine Q4 rfl ?_ -- QB c0
       all_goals (refine Q0 ?_; refine Q1 ?_; refine zm ?_; refine zn ?_; refine zr ?_; refine zf ?_)
       all_goals (exact ⟨_, rfl, rfl, St.weak hS.sp hle⟩))
    | (refine Q5 rfl ?_ -- QB c0
       all_goals refine zsk ?_)
  all_goals (refine Q0 ?_; refine Q0 ?_; refine Q1 ?_; refine zm ?_; refine Q20 rfl ?_; refine zm ?_; refine Q20 rfl ?_; (first | (refine zad ?_) | (refine s_addw rfl rfl ?_)); refine Q6m rfl rfl ?_; refine zn ?_)
  refine QO rfl (fun hc => ?_) (fun hc => ?_)
  · skip
    all_goals (refine Q0 ?_; refine Q1 ?_; refine zm ?_; refine zn ?_; refine zr ?_; refine zf ?_; exact ⟨_, rfl, rfl, St.weak hS.sp hle⟩)
  · skip
    all_goals (refine zsk ?_; refine Q0 ?_; refine Q1 ?_; refine zm ?_)
    all_goals (refine zR1 (c := Q4X em hT ha hS) (h := ?_); rintro v1 w1 ⟨c1, am, nm, hle2, rfl, hkm, hS⟩; (try have hle := hle.trans hle2); have hT1 := hT.up hle2)
    all_goals (refine zm ?_; refine Q1M rfl rfl ?_; refine Q1M rfl rfl ?_; refine Qb hS ?_; intro p5 w1 hS; refine Qb hS ?_; intro p6 w1 hS; refine zsn hS ?_; intro w1 hS; have hS := hS.ns; refine zsn hS ?_; intro w1 hS; have hS := hS.ns; refine zn ?_; refine Q0 ?_; refine Q1 ?_; refine zm ?_; refine zR1 (c := Qd0 en hT1 hb hS) (h := ?_); rintro v1 w1 ⟨rfl, hS⟩; refine zm ?_; refine Q1M rfl rfl ?_; refine Q1M rfl rfl ?_; refine Qb hS ?_; intro p7 w1 hS; refine Qb hS ?_; intro p8 w1 hS; refine zsn hS ?_; intro w1 hS; have hS := hS.ns; refine zsn hS ?_; intro w1 hS; have hS := hS.ns; refine zn ?_; refine Q0 ?_; refine Q0 ?_; refine Q1 ?_; refine Q2 rfl ?_; refine zl hS ?_)
    all_goals (first | (refine Q12 ?_) | (refine Q18 ?_))
    all_goals (refine zm ?_; (first | refine s_gn rfl rfl ?_ | (refine s_gy rfl ?_; refine Q2 rfl ?_)); (first | refine s_gn rfl rfl ?_ | (refine s_gy rfl ?_; refine zl hS ?_)))
    all_goals (first | refine s_gn rfl rfl ?_ | (refine s_gy rfl ?_; refine Q12 ?_))
    all_goals ((first | (refine zpt ?_) | (refine zpf ?_)); refine zn ?_)
    all_goals refine Q4 rfl ?_
    all_goals (refine Q0 ?_; refine Q1 ?_; refine zm ?_; refine zn ?_; refine zr ?_; refine zf ?_; exact ⟨_, rfl, rfl, St.weak hS.sp hle⟩)
theorem joins_o {a b : List UInt8} {m n : Module} (em : Q2c a = .ok m) (en : Q2c b = .ok n) (hF : (Module.fault ⟨m.funcs ++ n.funcs⟩).1 = 0) (ha : a.length ≤ 9223372036854775807) (hb : b.length ≤ 9223372036854775807) (hT : NumK cx) (hS : St cx w L) : Rets Tryz.prog QB [.string ⟨a.toArray⟩, .string ⟨b.toArray⟩] w fun u w' => u = .bool true ∧ St cx w' L := by
  have hm := Qao em
  have hn := Qao en
  have hms := Qhr hm.2 hn.2
  have hz := Module.fault_z hF
  have hle := St.refl hS
  all_goals refine Q2m ?_
  all_goals (unfold Law_ParseJoins_lc; refine Q0 ?_; refine Q1 ?_; refine zm ?_; refine zn ?_; refine Q0 ?_; refine Q0 ?_; refine Q1 ?_; refine zR0 (c := Q3Z hT hS) (h := ?_); rintro v1 w1 ⟨rfl, hS⟩; refine Q1w rfl ?_; refine zn ?_)
  all_goals
    first
    | (refine Q4 rfl ?_ -- QB c0
       all_goals (refine Q0 ?_; refine Q1 ?_; refine zm ?_; refine zn ?_; refine zr ?_; refine zf ?_)
       all_goals (exact ⟨_, rfl, rfl, St.weak hS.sp hle⟩))
    | (refine Q5 rfl ?_ -- QB c0
       all_goals refine zsk ?_)
  all_goals (refine Q0 ?_; refine Q0 ?_; refine Q1 ?_; refine zm ?_; refine Q20 rfl ?_; refine zm ?_; refine Q20 rfl ?_; refine zad ?_; refine Q6m rfl rfl ?_; refine zn ?_)
  refine QO rfl (fun hc => ?_) (fun hc => ?_)
  · skip
    all_goals (refine Q0 ?_; refine Q1 ?_; refine zm ?_; refine zn ?_; refine zr ?_; refine zf ?_; exact ⟨_, rfl, rfl, St.weak hS.sp hle⟩)
  · skip
    all_goals (refine zsk ?_; refine Q0 ?_; refine Q1 ?_; refine zm ?_)
    all_goals (refine zR1 (c := Q4X em hT ha hS) (h := ?_); rintro v1 w1 ⟨c1, am, nm, hle2, rfl, hkm, hS⟩; (try have hle := hle.trans hle2); have hT1 := hT.up hle2)
    all_goals (refine zm ?_; refine Q1M rfl rfl ?_; refine Q1M rfl rfl ?_; refine Qb hS ?_; intro p5 w1 hS; refine Qb hS ?_; intro p6 w1 hS; refine zsn hS ?_; intro w1 hS; have hS := hS.ns; refine zsn hS ?_; intro w1 hS; have hS := hS.ns; refine zn ?_; refine Q0 ?_; refine Q1 ?_; refine zm ?_)
    all_goals (refine zR1 (c := Q4X en hT1 hb hS) (h := ?_); rintro v1 w1 ⟨c2, an, nn, hle2, rfl, hkn, hS⟩; (try have hle := hle.trans hle2); (try have hkm := hkm.up hle2); have hT2 := hT1.up hle2)
    all_goals (refine zm ?_; refine Q1M rfl rfl ?_; refine Q1M rfl rfl ?_; refine Qb hS ?_; intro p7 w1 hS; refine Qb hS ?_; intro p8 w1 hS; refine zsn hS ?_; intro w1 hS; have hS := hS.ns; refine zsn hS ?_; intro w1 hS; have hS := hS.ns; refine zn ?_; refine Q0 ?_; refine Q0 ?_; refine Q1 ?_; refine Q2 rfl ?_; refine zl hS ?_)
    all_goals (first | (refine Q12 ?_) | (refine Q18 ?_))
    all_goals (refine zm ?_; (first | refine s_gn rfl rfl ?_ | (refine s_gy rfl ?_; refine Q2 rfl ?_)); (first | refine s_gn rfl rfl ?_ | (refine s_gy rfl ?_; refine zl hS ?_)))
    all_goals (first | refine s_gn rfl rfl ?_ | (refine s_gy rfl ?_; (first | (refine Q12 ?_) | (refine Q18 ?_))))
    all_goals ((first | (refine zpt ?_) | (refine zpf ?_)); refine zn ?_)
    all_goals refine Q5 rfl ?_
    all_goals (refine zsk ?_; refine Q0 ?_; refine Q1 ?_; refine zm ?_; refine Qi4 rfl (b := [10]) rfl (by simp only [List.length_append, List.length_cons, List.length_nil]; omega) ?_; intro t1 ht1; refine zm ?_; refine Qi4 rfl rfl (by rw [ht1]; simp only [List.length_append, List.length_cons, List.length_nil]; omega) ?_; intro t2 ht2; have ht3 : t2 = a ++ 10 :: b := (by rw [ht2, ht1, List.append_assoc]; rfl); have eo := Qho em en (by omega); rw [if_neg (by rw [hF]; decide), ← ht3] at eo)
    all_goals (refine zR1 (c := Q4X eo hT2 (by rw [ht3]; simp only [List.length_append, List.length_cons]; omega) hS) (h := ?_); rintro v1 w1 ⟨c3, ao, no, hle2, rfl, hko, hS⟩; (try have hle := hle.trans hle2); (try have hkm := hkm.up hle2); (try have hkn := hkn.up hle2))
    all_goals (refine zm ?_; refine Q1M rfl rfl ?_; refine Q1M rfl rfl ?_; refine Qb hS ?_; intro p9 w1 hS; refine Qb hS ?_; intro p10 w1 hS; refine zsn hS ?_; intro w1 hS; have hS := hS.ns; refine zsn hS ?_; intro w1 hS; have hS := hS.ns; refine zn ?_; refine Q0 ?_; refine Q1 ?_; refine Qb hS ?_; intro p11 w1 hS; refine zn ?_; refine Q0 ?_; refine zC [(0, none), (1, none), (2, none), (3, none), (5, none), (6, none), (4, some (some [6])), (7, some none), (8, none), (9, some none)] ?_; have hS := hS.drew; have hS := hS.nil (T := 43) (es := 4); have hls0 : funcR.ls c3 [] [] := Rep.LR.nil _ _ _; refine s_cq ?_; refine Q2 rfl ?_; refine zt ?_; refine s_cq ?_; refine zl hS ?_; refine zt ?_; refine s_cq ?_; refine Q2 rfl ?_; refine zt ?_; refine s_cq ?_; refine zl hS ?_; refine zt ?_; refine s_cq ?_; refine Q2 rfl ?_; refine zt ?_; refine s_cq ?_; refine zl hS ?_; refine zt ?_; refine Q7x ?_; (first | (refine za Qay QhC hS ?_; intro vp1 w1 css1 hls1 hv1 hS; have hS := hS.ns) | (refine zak Qay QhC hS ?_; intro vp1 w1 css1 hls1 hv1 hS; have hS := hS.ns)))
    all_goals (refine zt ?_; refine zy ?_; refine s_cf ?_; (first | (refine za Qay QhC hS ?_; intro vp2 w2 css2 hls2 hv2 hS; have hS := hS.ns) | (refine zak Qay QhC hS ?_; intro vp2 w2 css2 hls2 hv2 hS; have hS := hS.ns)); refine zt ?_; refine s_cq ?_; refine Q2 rfl ?_; refine zt ?_; refine s_cf ?_; refine zst hS ?_; intro w1 hS; have hS := hS.ns; refine zt ?_; refine zcn ?_; refine Q0 ?_)
    all_goals (obtain ⟨c6, hle2, hS2, hkf⟩ := St.freezeL (r := funcR) (hS.out (r := sl 43 4 vp2 css2) fd) hls2 rfl (by simp only [List.nil_append, List.length_append]; omega); clear hS; have hS := hS2; simp only [List.eraseIdx_cons_zero, List.eraseIdx_cons_succ] at hS; (try have hle := hle.trans hle2); (try have hls1 := hls1.up hle2); (try have hls2 := hls2.up hle2); (try have hkm := hkm.up hle2); (try have hkn := hkn.up hle2); (try have hko := hko.up hle2); rw [List.nil_append] at hkf; have hx' : modR.at c6 [vp2] ⟨m.funcs ++ n.funcs⟩ := ⟨_, rfl, hkf⟩; have hy' : modR.at c6 [.slice ao (m.funcs ++ n.funcs).length no] ⟨m.funcs ++ n.funcs⟩ := ⟨_, rfl, hko⟩)
    all_goals (refine Q1 ?_; refine zv hS ?_; refine zR1 (c := Qmo hms hx' hS) (h := ?_); rintro v1 w1 ⟨rfl, hS⟩; rw [hz]; unfold fltV; refine Qb hS ?_; intro p12 w1 hS; refine zsn hS ?_; intro w1 hS; have hS := hS.ns; refine zn ?_; refine Q0 ?_; refine Q1 ?_; refine zv hS ?_; refine zv hS ?_; refine QnN (a := (0, 0)) QmC rfl rfl ?_; refine zm ?_; (first | refine s_gn rfl rfl ?_ | (refine s_gy rfl ?_; refine Q2 rfl ?_)); (first | refine s_gn rfl rfl ?_ | (refine s_gy rfl ?_; refine zl hS ?_)))
    all_goals (first | refine s_gn rfl rfl ?_ | (refine s_gy rfl ?_; (first | (refine Q12 ?_) | (refine Q18 ?_))))
    all_goals ((first | refine s_gn rfl rfl ?_ | (refine s_gy rfl ?_; refine zm ?_)); (first | refine s_gn rfl rfl ?_ | (refine s_gy rfl ?_; refine zv hS ?_)); (first | refine s_gn rfl rfl ?_ | (refine s_gy rfl ?_; refine zv hS ?_)); (first | refine s_gn rfl rfl ?_ | (refine s_gy rfl ?_; refine zR2 (c := QmV hy' hx' hS) (h := ?_); rintro v1 w1 ⟨rfl, hS⟩; rw [decide_eq_true (show (⟨m.funcs ++ n.funcs⟩ : Module) = ⟨m.funcs ++ n.funcs⟩ from rfl)])); (first | refine s_gn rfl rfl ?_ | (refine s_gy rfl ?_; (first | (refine zpt ?_) | (refine zpf ?_)))); refine zpt ?_; refine zm ?_; refine zn ?_; refine zr ?_; refine zf ?_; exact ⟨_, rfl, rfl, St.weak hS.sp hle⟩)
theorem joins_f {a b : List UInt8} {m n : Module} (em : Q2c a = .ok m) (en : Q2c b = .ok n) (hF : (Module.fault ⟨m.funcs ++ n.funcs⟩).1 ≠ 0) (ha : a.length ≤ 9223372036854775807) (hb : b.length ≤ 9223372036854775807) (hT : NumK cx) (hS : St cx w L) : Rets Tryz.prog QB [.string ⟨a.toArray⟩, .string ⟨b.toArray⟩] w fun u w' => u = .bool true ∧ St cx w' L := by
  have hm := Qao em
  have hn := Qao en
  have hms := Qhr hm.2 hn.2
  have hle := St.refl hS
  all_goals refine Q2m ?_
  all_goals (unfold Law_ParseJoins_lc; refine Q0 ?_; refine Q1 ?_; refine zm ?_; refine zn ?_; refine Q0 ?_; refine Q0 ?_; refine Q1 ?_; refine zR0 (c := Q3Z hT hS) (h := ?_); rintro v1 w1 ⟨rfl, hS⟩; refine Q1w rfl ?_; refine zn ?_)
  all_goals
    first
    | (refine Q4 rfl ?_ -- QB c0
       all_goals (refine Q0 ?_; refine Q1 ?_; refine zm ?_; refine zn ?_; refine zr ?_; refine zf ?_)
       all_goals (exact ⟨_, rfl, rfl, St.weak hS.sp hle⟩))
    | (refine Q5 rfl ?_ -- QB c0
       all_goals refine zsk ?_)
  all_goals (refine Q0 ?_; refine Q0 ?_; refine Q1 ?_; refine zm ?_; refine Q20 rfl ?_; refine zm ?_; refine Q20 rfl ?_; refine zad ?_; refine Q6m rfl rfl ?_; refine zn ?_)
  refine QO rfl (fun hc => ?_) (fun hc => ?_)
  · skip
    all_goals (refine Q0 ?_; refine Q1 ?_; refine zm ?_; refine zn ?_; refine zr ?_; refine zf ?_; exact ⟨_, rfl, rfl, St.weak hS.sp hle⟩)
  · skip
    all_goals (refine zsk ?_; refine Q0 ?_; refine Q1 ?_; refine zm ?_)
    all_goals (refine zR1 (c := Q4X em hT ha hS) (h := ?_); rintro v1 w1 ⟨c1, am, nm, hle2, rfl, hkm, hS⟩; (try have hle := hle.trans hle2); have hT1 := hT.up hle2)
    all_goals (refine zm ?_; refine Q1M rfl rfl ?_; refine Q1M rfl rfl ?_; refine Qb hS ?_; intro p5 w1 hS; refine Qb hS ?_; intro p6 w1 hS; refine zsn hS ?_; intro w1 hS; have hS := hS.ns; refine zsn hS ?_; intro w1 hS; have hS := hS.ns; refine zn ?_; refine Q0 ?_; refine Q1 ?_; refine zm ?_)
    all_goals (refine zR1 (c := Q4X en hT1 hb hS) (h := ?_); rintro v1 w1 ⟨c2, an, nn, hle2, rfl, hkn, hS⟩; (try have hle := hle.trans hle2); (try have hkm := hkm.up hle2); have hT2 := hT1.up hle2)
    all_goals (refine zm ?_; refine Q1M rfl rfl ?_; refine Q1M rfl rfl ?_; refine Qb hS ?_; intro p7 w1 hS; refine Qb hS ?_; intro p8 w1 hS; refine zsn hS ?_; intro w1 hS; have hS := hS.ns; refine zsn hS ?_; intro w1 hS; have hS := hS.ns; refine zn ?_; refine Q0 ?_; refine Q0 ?_; refine Q1 ?_; refine Q2 rfl ?_; refine zl hS ?_)
    all_goals (first | (refine Q12 ?_) | (refine Q18 ?_))
    all_goals (refine zm ?_; (first | refine s_gn rfl rfl ?_ | (refine s_gy rfl ?_; refine Q2 rfl ?_)); (first | refine s_gn rfl rfl ?_ | (refine s_gy rfl ?_; refine zl hS ?_)))
    all_goals (first | refine s_gn rfl rfl ?_ | (refine s_gy rfl ?_; (first | (refine Q12 ?_) | (refine Q18 ?_))))
    all_goals ((first | (refine zpt ?_) | (refine zpf ?_)); refine zn ?_)
    all_goals refine Q5 rfl ?_
    all_goals (refine zsk ?_; refine Q0 ?_; refine Q1 ?_; refine zm ?_; refine Qi4 rfl (b := [10]) rfl (by simp only [List.length_append, List.length_cons, List.length_nil]; omega) ?_; intro t1 ht1; refine zm ?_; refine Qi4 rfl rfl (by rw [ht1]; simp only [List.length_append, List.length_cons, List.length_nil]; omega) ?_; intro t2 ht2; have ht3 : t2 = a ++ 10 :: b := (by rw [ht2, ht1, List.append_assoc]; rfl); have eo := Qho em en (by omega); rw [if_pos hF, ← ht3] at eo; refine zR1 (c := Qd0 eo hT2 (by rw [ht3]; simp only [List.length_append, List.length_cons]; omega) hS) (h := ?_); rintro v1 w1 ⟨rfl, hS⟩; refine zm ?_; refine Q1M rfl rfl ?_; refine Q1M rfl rfl ?_; refine Qb hS ?_; intro p9 w1 hS; refine Qb hS ?_; intro p10 w1 hS; refine zsn hS ?_; intro w1 hS; have hS := hS.ns; refine zsn hS ?_; intro w1 hS; have hS := hS.ns; refine zn ?_; refine Q0 ?_; refine Q1 ?_; refine Qb hS ?_; intro p11 w1 hS; refine zn ?_; refine Q0 ?_; refine zC [(0, none), (1, none), (2, none), (3, none), (5, none), (6, none), (4, some (some [6])), (7, some none), (8, none), (9, some none)] ?_; have hS := hS.drew; have hS := hS.nil (T := 43) (es := 4); have hls0 : funcR.ls c2 [] [] := Rep.LR.nil _ _ _; refine s_cq ?_; refine Q2 rfl ?_; refine zt ?_; refine s_cq ?_)
    all_goals (refine zl hS ?_; refine zt ?_; refine s_cq ?_; refine Q2 rfl ?_; refine zt ?_; refine s_cq ?_; refine zl hS ?_; refine zt ?_; refine s_cq ?_; refine Q2 rfl ?_; refine zt ?_; refine s_cq ?_; refine zl hS ?_; refine zt ?_; refine Q7x ?_; (first | (refine za Qay QhC hS ?_; intro vp1 w1 css1 hls1 hv1 hS; have hS := hS.ns) | (refine zak Qay QhC hS ?_; intro vp1 w1 css1 hls1 hv1 hS; have hS := hS.ns)); refine zt ?_; refine zy ?_; refine s_cf ?_; (first | (refine za Qay QhC hS ?_; intro vp2 w2 css2 hls2 hv2 hS; have hS := hS.ns) | (refine zak Qay QhC hS ?_; intro vp2 w2 css2 hls2 hv2 hS; have hS := hS.ns)); refine zt ?_; refine s_cq ?_; refine Q2 rfl ?_; refine zt ?_; refine s_cf ?_; refine zst hS ?_; intro w1 hS; have hS := hS.ns; refine zt ?_; refine zcn ?_; refine Q0 ?_)
    all_goals (obtain ⟨c6, hle2, hS2, hkf⟩ := St.freezeL (r := funcR) (hS.out (r := sl 43 4 vp2 css2) fd) hls2 rfl (by simp only [List.nil_append, List.length_append]; omega); clear hS; have hS := hS2; simp only [List.eraseIdx_cons_zero, List.eraseIdx_cons_succ] at hS; (try have hle := hle.trans hle2); (try have hls1 := hls1.up hle2); (try have hls2 := hls2.up hle2); (try have hkm := hkm.up hle2); (try have hkn := hkn.up hle2); rw [List.nil_append] at hkf; have hx' : modR.at c6 [vp2] ⟨m.funcs ++ n.funcs⟩ := ⟨_, rfl, hkf⟩)
    all_goals (refine Q1 ?_; refine zv hS ?_; refine zR1 (c := Qmo hms hx' hS) (h := ?_); rintro v1 w1 ⟨rfl, hS⟩; unfold fltV; refine Qb hS ?_; intro p12 w1 hS; refine zsn hS ?_; intro w1 hS; have hS := hS.ns; refine zn ?_; refine Q0 ?_; refine Q1 ?_; refine zv hS ?_; refine zv hS ?_; refine QnN (a := Module.fault ⟨m.funcs ++ n.funcs⟩) QmC rfl rfl ?_; refine zm ?_; (first | refine s_gn rfl rfl ?_ | (refine s_gy rfl ?_; refine Q2 rfl ?_)); (first | refine s_gn rfl rfl ?_ | (refine s_gy rfl ?_; refine zl hS ?_)))
    all_goals (first | refine s_gn rfl rfl ?_ | (refine s_gy rfl ?_; refine Q12 ?_))
    all_goals ((first | refine s_gn rfl rfl ?_ | (refine s_gy rfl ?_; refine zm ?_)); refine s_gn rfl rfl ?_; refine s_gn rfl rfl ?_; refine s_gn rfl rfl ?_; (first | refine s_gn rfl rfl ?_ | (refine s_gy rfl ?_; refine zpt ?_)); refine zpt ?_; refine zm ?_; refine zn ?_; refine zr ?_; refine zf ?_; exact ⟨_, rfl, rfl, St.weak hS.sp hle⟩)
theorem Qkd (a b : List UInt8) (ha : a.length ≤ 9223372036854775807) (hb : b.length ≤ 9223372036854775807) (hT : NumK cx) (hS : St cx w L) : Rets Tryz.prog QB [.string ⟨a.toArray⟩, .string ⟨b.toArray⟩] w fun u w' => u = .bool true ∧ St cx w' L := by
  rcases parse_two a with ⟨m, em⟩ | ⟨f, f0, em⟩
  · rcases parse_two b with ⟨n, en⟩ | ⟨g, g0, en⟩
    · by_cases hF : (Module.fault ⟨m.funcs ++ n.funcs⟩).1 = 0
      · exact joins_o em en hF ha hb hT hS
      · exact joins_f em en hF ha hb hT hS
    · exact joins_e2 em g0 en ha hb hT hS
  · exact joins_e f0 em ha hb hT hS
end Go.Proofs.YtjecflbbcnocdaaGreatDoor
namespace Go.Proofs.YtjecflbbcnocdaaGreatDoor
open Go.Lir
theorem parseJoins_rd {w : World} (hT : NumK (Cx.top w)) (s t : ByteArray) (h : s.size ≤ maxLen) (h2 : t.size ≤ maxLen) : Rets Tryz.prog QB [.string s, .string t] w fun v w' => v = .bool true ∧ Fr NF w w' :=
  Rets.mono (Qkd (cx := Cx.top w) s.data.toList t.data.toList (by have h : s.data.size ≤ 2 ^ 63 - 1 := h; rw [Array.length_toList]; omega) (by have h : t.data.size ≤ 2 ^ 63 - 1 := h2; rw [Array.length_toList]; omega) hT (St.top w)) fun _ _ ⟨h, h2⟩ => ⟨h, h2.fr⟩
end Go.Proofs.YtjecflbbcnocdaaGreatDoor
namespace Go.Proofs.YtjecflbbcnocdaaGreatDoor
open Go.Lir
abbrev laid3 : List (String × DataW Unit) := [("math/bits.deBruijn32tab", Rows.laid_math_bits_deBruijn32tab), ("math/bits.deBruijn64tab", Rows.laid_math_bits_deBruijn64tab), ("internal/strconv.uint64pow10", Rows.laid_internal_strconv_uint64pow10), ("strconv.ErrRange", Rows.laid_strconv_ErrRange), ("strconv.ErrSyntax", Rows.laid_strconv_ErrSyntax)]
theorem door_met (os : Os) (args : Array Value) : laidMetH Tryz.prog laid3 ((World.doorLaid Tryz.prog 2000 os).forCall (fun _ _ => 0) ⟨#[], args, []⟩).memory :=
  laidMetH_of_parts3 (fuel := 8) (laidMet_of_run' 8 (by kernel_rfl) (by kernel_rfl)) (by kernel_rfl) (by kernel_rfl)
theorem pow_lit : (Rows.laid_internal_strconv_uint64pow10 : DataW Unit) = Lib.tabData .u64 Lib.pow10Tab := by kernel_rfl
theorem err_row (u : TypeId) (h : Tryz.prog.typeName? 3 u = some "*errors.errorString") : u = 204 :=
  typeName_ptr_named (nm := "errors.errorString") (by rw [show "*" ++ "errors.errorString" = "*errors.errorString" by decide]; kernel_rfl) (by kernel_rfl) (by decide) u (by rw [show "*" ++ "errors.errorString" = "*errors.errorString" by decide]; exact h)
theorem err_of {W : World} {n : String} {g : Nat} {text : List UInt8} {r : List (String × DataW Unit)} (hg : Tryz.prog.globalNamed n = some g) (ht : (Tryz.prog.globals[g]?).map (·.type) = some 109) (hlt : g < W.heap.size) (h : laidMet Tryz.prog ((n, .iface "*errors.errorString" (.ptr (.agg [.lit (.string text)]))) :: r) W) : ErrV (Cx.top W) g := by
  obtain ⟨a, s, hv, _⟩ := laid_sentinel h hg ht Tryz.underlying109 err_row Tryz.underlying204 Tryz.underlying206 rfl rfl Tryz.underlying9 (by kernel_rfl) (by kernel_rfl)
  refine ⟨hlt, fun w hw => ⟨.iface 204 (.pointer (some a)), ?_, .inr ⟨_, _, rfl⟩⟩⟩
  have hw2 : w.heap[g]? = W.heap[g]? := hw
  have h2 : w.var? Tryz.prog n = some #[.iface 204 (.pointer (some a))] := by
    unfold World.var? at hv ⊢
    rw [hg] at hv ⊢
    simp only [Option.bind_some] at hv ⊢
    rw [hw2]; exact hv
  exact World.var?_cell hg h2 0
theorem big_of {W : World} {n : String} {g : Nat} {x : DataW Unit} {r : List (String × DataW Unit)} (hg : Tryz.prog.globalNamed n = some g) (h : laidMet Tryz.prog ((n, x) :: r) W) : g < W.heap.size := by
  obtain ⟨ps, ⟨g0, t0, cs0, f0, p0, q0, hg0, ht0, hv0, hd0, _, e0⟩, _, hrows⟩ := h
  obtain rfl := Option.some.inj (hg.symm.trans hg0)
  rcases Nat.lt_or_ge g W.heap.size with h' | h'
  · exact h'
  · unfold World.var? at hv0
    rw [hg] at hv0
    simp only [Option.bind_some, Array.getElem?_eq_none h'] at hv0
    cases hv0
/-- What the numbers' texts need lies in what is only read. -/
theorem pow_of {W : World} (h : laidMetH Tryz.prog laid3 W) : NumK (Cx.top W) := by
  rw [MakeChecks.laidMetH_plain _ _ _ (by kernel_rfl)] at h
  have h2 := h.tail.tail
  have h3 := h2.tail
  rw [pow_lit] at h2
  exact ⟨TabK.top (Lib.tabIs_of_head (g := 0) (t := 193) (e := 177) (n := 20) (by kernel_rfl) (by kernel_rfl) (by kernel_rfl) (by kernel_rfl) (by kernel_rfl) (by kernel_rfl) h2), err_of (g := 2) (by kernel_rfl) (by kernel_rfl) (big_of (by kernel_rfl) h3.tail) h3.tail, err_of (g := 3) (by kernel_rfl) (by kernel_rfl) (big_of (by kernel_rfl) h3) h3⟩
end Go.Proofs.YtjecflbbcnocdaaGreatDoor
