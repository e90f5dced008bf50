/- Lemmas of the proof, part 5: what the functions of the program do (contracts), and what follows. -/
import Derived.Test.YtjecflbbcnocdaaGreatDoorZ2
import Derived.Test.YtjecflbbcnocdaaGreatDoorZ3
import Derived.Test.YtjecflbbcnocdaaGreatDoorZ4
import Derived.Lib.Join
import Derived.Lib.ItoaLen
namespace Go.Proofs.YtjecflbbcnocdaaGreatDoor
open Go.Lir
set_option maxHeartbeats 1000000
attribute [local irreducible] LC.wp Q2 QA QB retQ Q1e LO.wp Qj Calls
set_option linter.unusedSimpArgs false
set_option linter.unusedVariables false
theorem deep_c : ∀ (t : Ty) {cx : Cx} {w : World} {L : List Res} {cs : List Value} {left : Int}, tyR.at cx cs t → left ≤ 1000000 → St cx w L →
    Rets Tryz.prog Q49 [.agg ⟨cs⟩, .int .i64 left] w fun v w' => v = .bool (t.deepB left) ∧ St cx w' L := by
  intro t
  induction t using Ty.ind with
  | h k r l ih =>
    intro cx w L cs left ht h1 hS
    obtain ⟨v, rfl, hl⟩ := Q1c ht
    simp only [Ty.kind, Ty.r, Ty.l] at hl ht ⊢
    have hlen := hl.len
    rw [Ty.deepB]
    all_goals refine Qlz ?_
    all_goals (unfold types_deep_lc; refine Q0 ?_; refine Q1 ?_; refine zb hS ?_; intro p2 w1 hS; refine zm ?_; refine zn ?_; refine Q0 ?_; refine Q0 ?_; refine Q1 ?_; refine zm ?_)
    all_goals (first | (refine Q1b ?_) | (refine Q1z ?_) | (refine QH rfl rfl (fun hc => ?_) (fun hc => ?_)))
    all_goals (refine zn ?_)
    all_goals
      first
      | (refine zct ?_ -- Q49 c0
         all_goals (refine Q0 ?_; refine Q1 ?_; refine zm ?_; refine zn ?_; refine zr ?_; refine zf ?_)
         all_goals (refine ⟨_, rfl, ?_, hS.sp⟩; rw [if_pos (by omega)]; done))
      | (refine zcf ?_ -- Q49 c0
         all_goals refine zsk ?_)
    all_goals (refine Q0 ?_; refine Q0 ?_; refine Q1 ?_; refine zf0 ?_; refine zl hS ?_; refine zL ?_; refine zm ?_; refine zn ?_; refine Qa ?_)
    refine zoL hS [1, 10, 11] (fun A LL ρ' w' => ∃ (j : Nat), Has ρ' A ∧ Has ρ' [(12, .int .i64 j)] ∧ (j ≤ l.length) ∧ (Tys.deepB l (left - 1) = Tys.deepB (l.drop j) (left - 1)) ∧ St cx w' (LL)) (fun ρ' _ => (l.length - iv (ρ' 12)).toNat) ?_ ?_
    · exact ⟨0, zh, zh, (by omega), by simp, hS.sp⟩
    rintro ρ w1 ⟨j, hA, hρ, hj, hd, hS⟩; obtain ⟨ρ, rfl⟩ := env2 hA hρ
    unfold QaQ
    all_goals (refine Q0 ?_; refine Q1 ?_; refine Q1i rfl rfl ?_; refine zn ?_; refine Q0 ?_)
    refine QM rfl (fun hc => ?_) (fun hc => ?_)
    · skip
      all_goals (refine zsk ?_; refine Q0 ?_; refine Qa ?_; refine Q0 ?_; refine Q1 ?_; refine zi ?_; intro b1 o1 cs1 x1 hat1 hx1 he1; obtain ⟨vl1, rfl, hl1⟩ := Q1c he1; (first | (refine zv hS ?_) | (refine zvk hS ?_)); refine Q9 hS ?_; intro p6 w1 hS; refine zsn hS ?_; intro w1 hS; have hS := hS.ns; refine zn ?_; refine Q0 ?_; refine Q1 ?_; refine zv hS ?_; refine zm ?_; refine zsu ?_)
      all_goals (refine zR2 (c := ih _ (List.mem_of_getElem? (by assumption)) (by assumption) (by omega) hS) (h := ?_); rintro v1 w1 ⟨rfl, hS⟩; cases hg : x1.deepB (left - 1))
      all_goals (refine znt ?_; refine zn ?_)
      all_goals
        first
        | (refine zcf ?_ -- Q49 c2
           all_goals refine zsk ?_)
        | (refine zct ?_ -- Q49 c2
           all_goals (refine Q0 ?_; refine Q1 ?_; refine zm ?_; refine zn ?_; refine zr ?_; refine zf ?_)
           all_goals (first | (refine ⟨_, rfl, ?_, hS.sp⟩; rw [if_pos (by omega)]; done) | (refine ⟨_, rfl, ?_, hS.sp⟩; rw [if_neg (by omega), hd, Q4 hx1, Tys.deepB, hg, Bool.false_and]; done)))
      all_goals (refine Q1 ?_; refine zad ?_; refine zm ?_; refine zn ?_; exact ⟨⟨j + 1, zh, zh, (by omega), by rw [hd, Q4 hx1, Tys.deepB, hg, Bool.true_and], hS.sp⟩, QF (by omega)⟩)
    · skip
      all_goals (refine zex ?_; refine Q0 ?_; refine Q1 ?_; refine zm ?_; refine zn ?_; refine zr ?_; refine zf ?_; (first | (refine ⟨_, rfl, ?_, hS.sp⟩; rw [if_pos (by omega)]; done) | (refine ⟨_, rfl, ?_, hS.sp⟩; rw [if_neg (by omega), hd, Q4 hx1, Tys.deepB, hg, Bool.false_and]; done) | (refine ⟨_, rfl, ?_, hS.sp⟩; rw [if_neg (by omega), hd, List.drop_of_length_le (by omega), Tys.deepB]; done)))
theorem wrong_c : ∀ (t : Ty) {cx : Cx} {w : World} {L : List Res} {cs : List Value} {regs : Int}, tyR.at cx cs t → St cx w L →
    Rets Tryz.prog QC [.agg ⟨cs⟩, .int .i64 regs] w fun v w' => v = .int .i64 (t.wrong 8 regs) ∧ St cx w' L := by
  intro t
  induction t using Ty.ind with
  | h k r l ih =>
    intro cx w L cs regs ht hS
    obtain ⟨v, rfl, hl⟩ := Q1c ht
    simp only [Ty.kind, Ty.r, Ty.l] at hl ht ⊢
    have hlen := hl.len
    rw [Ty.wrong]
    all_goals refine QiX ?_
    all_goals (unfold types_wrong_lc; refine Q0 ?_; refine Q1 ?_; refine zb hS ?_; intro p2 w1 hS; refine zm ?_; refine zn ?_)
    refine zML hS [1, 2] (fun A LL ρ' w' => Has ρ' A ∧ Has ρ' [] ∧ (1 ≤ k ∧ k ≤ 4 ∧ k ≠ 1 ∧ (k ≠ 3 → l.length = 0) ∧ l.length ≤ 8) ∧ St cx w' (LL)) ?_ ?_
    · skip
      all_goals (refine Q0 ?_; refine Q1 ?_; refine zf0 ?_; refine zl hS ?_; refine zn ?_; refine Qa ?_; refine Q0 ?_; refine Q1 ?_)
      all_goals (first | (refine Qn ?_) | (refine Qq ?_) | (refine Qg rfl rfl (fun hc => ?_) (fun hc => ?_)))
      all_goals (refine zm ?_; refine zn ?_)
      all_goals
        first
        | (refine zct ?_ -- QC c0
           all_goals (refine Q0 ?_; refine Q0 ?_; refine Q1 ?_; refine zf0 ?_; refine zl hS ?_)
           all_goals (first | (refine Q1h ?_) | (refine Q1j ?_) | (refine Qv rfl rfl (fun hc => ?_) (fun hc => ?_)))
           all_goals (refine zm ?_; (first | refine zgn ?_ | (refine zgy ?_; refine zf0 ?_)); (first | refine zgn ?_ | (refine zgy ?_; refine zl hS ?_)); (first | refine zgn ?_ | (refine zgy ?_; refine zL ?_)))
           all_goals (first | refine zgn ?_ | (refine zgy ?_; (first | (refine QD ?_) | (refine QR ?_) | (refine Qr rfl rfl (fun hc => ?_) (fun hc => ?_)))))
           all_goals ((first | (refine zpt ?_) | (refine zpf ?_)); refine zn ?_)
           all_goals
             first
             | (refine zct ?_ -- QC c1
                all_goals (refine Q0 ?_; refine Q1 ?_; refine zm ?_; refine zn ?_; refine zr ?_; refine zf ?_)
                all_goals (refine ⟨_, rfl, ?_, hS.sp⟩; (repeat (first | rw [if_pos (by omega)] | rw [if_neg (by omega)])); done))
             | (refine zcf ?_ -- QC c1
                all_goals refine zsk ?_)
           all_goals (refine Q0 ?_; refine Q1 ?_; refine zm ?_; refine zn ?_; refine zr ?_; refine zf ?_)
           all_goals (first | (refine ⟨_, rfl, ?_, hS.sp⟩; (repeat (first | rw [if_pos (by omega)] | rw [if_neg (by omega)])); done) | (refine ⟨_, rfl, ?_, hS.sp⟩; ((repeat (first | rw [if_pos (by omega)] | rw [if_neg (by omega)])); rw [hd, Q4 hx1, Tys.wrong, if_pos (by assumption)]); done) | (refine ⟨_, rfl, ?_, hS.sp⟩; ((repeat (first | rw [if_pos (by omega)] | rw [if_neg (by omega)])); rw [List.eq_nil_of_length_eq_zero (l := l) (by omega), Tys.wrong]); done)))
        | (refine zcf ?_ -- QC c0
           all_goals (refine Q0 ?_; refine Q0 ?_; refine Q1 ?_)
           all_goals (first | (refine Qn ?_) | (refine Qq ?_) | (refine Qg rfl rfl (fun hc => ?_) (fun hc => ?_)))
           all_goals (refine zm ?_; refine zn ?_)
           all_goals
             first
             | (refine zct ?_ -- QC c2
                all_goals refine zsk ?_)
             | (refine zcf ?_ -- QC c2
                all_goals (refine Q1 ?_)
                all_goals (first | (refine Qn ?_) | (refine Qq ?_) | (refine Qg rfl rfl (fun hc => ?_) (fun hc => ?_)))
                all_goals (refine zm ?_)
                all_goals refine zn ?_)
           all_goals
             first
             | (refine zct ?_ -- QC c3
                all_goals (refine Q0 ?_; refine Q1 ?_; refine zf0 ?_; refine zl hS ?_; refine zL ?_)
                all_goals (first | (refine QD ?_) | (refine QR ?_) | (refine Qr rfl rfl (fun hc => ?_) (fun hc => ?_)))
                all_goals (refine zn ?_)
                all_goals
                  first
                  | (refine zct ?_ -- QC c4
                     all_goals (refine Q0 ?_; refine Q1 ?_; refine zm ?_; refine zn ?_; refine zr ?_; refine zf ?_)
                     all_goals (refine ⟨_, rfl, ?_, hS.sp⟩; (repeat (first | rw [if_pos (by omega)] | rw [if_neg (by omega)])); done))
                  | (refine zcf ?_ -- QC c4
                     all_goals refine zsk ?_))
             | (refine zcf ?_ -- QC c3
                all_goals (refine Q0 ?_; refine Q1 ?_)
                all_goals (first | (refine Qn ?_) | (refine Qq ?_) | (refine Qg rfl rfl (fun hc => ?_) (fun hc => ?_)))
                all_goals (refine zm ?_; refine zn ?_)
                all_goals
                  first
                  | (refine zct ?_ -- QC c5
                     all_goals (refine Q0 ?_; refine Q1 ?_; refine zf0 ?_; refine zl hS ?_; refine zL ?_)
                     all_goals (first | (refine QD ?_) | (refine QR ?_) | (refine Qr rfl rfl (fun hc => ?_) (fun hc => ?_)))
                     all_goals (refine zn ?_)
                     all_goals
                       first
                       | (refine zct ?_ -- QC c6
                          all_goals (refine Q0 ?_; refine Q1 ?_; refine zm ?_; refine zn ?_; refine zr ?_; refine zf ?_)
                          all_goals (refine ⟨_, rfl, ?_, hS.sp⟩; (repeat (first | rw [if_pos (by omega)] | rw [if_neg (by omega)])); done))
                       | (refine zcf ?_ -- QC c6
                          all_goals refine zsk ?_))
                  | (refine zcf ?_ -- QC c5
                     all_goals (refine Q0 ?_; refine Q1 ?_; refine zm ?_; refine zn ?_; refine zr ?_; refine zf ?_)
                     all_goals (refine ⟨_, rfl, ?_, hS.sp⟩; (repeat (first | rw [if_pos (by omega)] | rw [if_neg (by omega)])); done))))
      all_goals (exact ⟨zh, zh, by omega, hS.sp⟩)
    rintro ρ w1 ⟨hA, hρ, hk, hS⟩; obtain ⟨ρ, rfl⟩ := env2 hA hρ
    all_goals (refine Q0 ?_; refine Q0 ?_; refine Q1 ?_; refine zf0 ?_; refine zl hS ?_)
    all_goals (first | (refine Q1b ?_) | (refine Q1z ?_) | (refine QH rfl rfl (fun hc => ?_) (fun hc => ?_)))
    all_goals (refine zm ?_; (first | refine zgn ?_ | (refine zgy ?_; refine zf0 ?_)); (first | refine zgn ?_ | (refine zgy ?_; refine zl hS ?_)); (first | refine zgn ?_ | (refine zgy ?_; refine zm ?_)))
    all_goals (first | refine zgn ?_ | (refine zgy ?_; (first | (refine Q5Y ?_) | (refine Q6N ?_) | (refine Q35 rfl rfl (fun hc => ?_) (fun hc => ?_)))))
    all_goals ((first | (refine zpt ?_) | (refine zpf ?_)); refine zn ?_)
    all_goals
      first
      | (refine zct ?_ -- QC c7
         all_goals (refine Q0 ?_; refine Q1 ?_; refine zm ?_; refine zn ?_; refine zr ?_; refine zf ?_)
         all_goals (refine ⟨_, rfl, ?_, hS.sp⟩; (repeat (first | rw [if_pos (by omega)] | rw [if_neg (by omega)])); done))
      | (refine zcf ?_ -- QC c7
         all_goals refine zsk ?_)
    all_goals (refine Q0 ?_; refine Q0 ?_; refine Q1 ?_; refine zf0 ?_; refine zl hS ?_; refine zL ?_; refine zm ?_; refine zn ?_; refine Qa ?_)
    refine zoL hS [1, 44, 45] (fun A LL ρ' w' => ∃ (j : Nat), Has ρ' A ∧ Has ρ' [(46, .int .i64 j)] ∧ (j ≤ l.length) ∧ (Tys.wrong 8 l regs = Tys.wrong 8 (l.drop j) regs) ∧ St cx w' (LL)) (fun ρ' _ => (l.length - iv (ρ' 46)).toNat) ?_ ?_
    · exact ⟨0, zh, zh, (by omega), by simp, hS.sp⟩
    rintro ρ w1 ⟨j, hA, hρ, hj, hd, hS⟩; obtain ⟨ρ, rfl⟩ := env2 hA hρ
    unfold Q6O
    all_goals (refine Q0 ?_; refine Q1 ?_; refine Q1i rfl rfl ?_; refine zn ?_; refine Q0 ?_)
    refine QM rfl (fun hc => ?_) (fun hc => ?_)
    · skip
      all_goals (refine zsk ?_; refine Q0 ?_; refine Qa ?_; refine Q0 ?_; refine Q1 ?_; refine zi ?_; intro b1 o1 cs1 x1 hat1 hx1 he1; obtain ⟨vl1, rfl, hl1⟩ := Q1c he1; (first | (refine zv hS ?_) | (refine zvk hS ?_)); refine Q9 hS ?_; intro p6 w1 hS; refine zsn hS ?_; intro w1 hS; have hS := hS.ns; refine zn ?_; refine Q0 ?_; refine Q1 ?_; refine zv hS ?_; refine zm ?_; refine zR2 (c := ih _ (List.mem_of_getElem? (by assumption)) (by assumption) hS) (h := ?_); rintro v1 w1 ⟨rfl, hS⟩; refine zm ?_; refine zn ?_; refine Q0 ?_; refine Q1 ?_; refine zm ?_)
      all_goals (first | (refine Q1h ?_) | (refine Q1j ?_) | (refine Qv rfl rfl (fun hc => ?_) (fun hc => ?_)))
      all_goals (refine zn ?_)
      all_goals
        first
        | (refine zct ?_ -- QC c9
           all_goals (refine Q0 ?_; refine Q1 ?_; refine zm ?_; refine zm ?_; refine zn ?_; refine zr ?_; refine zf ?_)
           all_goals (first | (refine ⟨_, rfl, ?_, hS.sp⟩; (repeat (first | rw [if_pos (by omega)] | rw [if_neg (by omega)])); done) | (refine ⟨_, rfl, ?_, hS.sp⟩; ((repeat (first | rw [if_pos (by omega)] | rw [if_neg (by omega)])); rw [hd, Q4 hx1, Tys.wrong, if_pos (by assumption)]); done)))
        | (refine zcf ?_ -- QC c9
           all_goals refine zsk ?_)
      all_goals (refine Q1 ?_; refine zad ?_; refine zm ?_; refine zn ?_; exact ⟨⟨j + 1, zh, zh, (by omega), by rw [hd, Q4 hx1, Tys.wrong, if_neg (by omega)], hS.sp⟩, QF (by omega)⟩)
    · skip
      all_goals (refine zex ?_; refine Q0 ?_; refine Q1 ?_; refine zm ?_; refine zn ?_; refine zr ?_; refine zf ?_; (first | (refine ⟨_, rfl, ?_, hS.sp⟩; (repeat (first | rw [if_pos (by omega)] | rw [if_neg (by omega)])); done) | (refine ⟨_, rfl, ?_, hS.sp⟩; ((repeat (first | rw [if_pos (by omega)] | rw [if_neg (by omega)])); rw [hd, Q4 hx1, Tys.wrong, if_pos (by assumption)]); done) | (refine ⟨_, rfl, ?_, hS.sp⟩; ((repeat (first | rw [if_pos (by omega)] | rw [if_neg (by omega)])); rw [List.eq_nil_of_length_eq_zero (l := l) (by omega), Tys.wrong]); done) | (refine ⟨_, rfl, ?_, hS.sp⟩; ((repeat (first | rw [if_pos (by omega)] | rw [if_neg (by omega)])); rw [hd, List.drop_of_length_le (by omega), Tys.wrong]); done)))
theorem tcheck_c {t : Ty} {cx : Cx} {w : World} {L : List Res} {cs : List Value} {regs : Int} (ht : tyR.at cx cs t) (hS : St cx w L) :
    Rets Tryz.prog Q5o [.agg ⟨cs⟩, .int .i64 regs] w fun v w' => v = .int .i64 (t.fault regs) ∧ St cx w' L := by
  obtain ⟨v, rfl, hl⟩ := Q1c ht
  unfold Ty.fault
  all_goals refine Qj4 ?_
  all_goals (unfold types_Check_lc; refine Q0 ?_; refine Q1 ?_; refine zb hS ?_; intro p2 w1 hS; refine zm ?_; refine zn ?_; refine Q0 ?_; refine Q0 ?_; refine Q1 ?_; refine zv hS ?_)
  all_goals (refine zR2 (c := deep_c t ht (by omega) hS) (h := ?_); rintro v1 w1 ⟨rfl, hS⟩; cases hg : t.deepB 4)
  all_goals (refine znt ?_; refine zn ?_)
  all_goals
    first
    | (refine zct ?_ -- Q5o c0
       all_goals (refine Q0 ?_; refine Q1 ?_; refine zm ?_; refine zn ?_; refine zr ?_; refine zf ?_)
       all_goals (refine ⟨_, rfl, ?_, hS.sp⟩; (rfl); done))
    | (refine zcf ?_ -- Q5o c0
       all_goals refine zsk ?_)
  all_goals (refine Q0 ?_; refine Q1 ?_; refine zv hS ?_; refine zm ?_; refine zR2 (c := wrong_c t ht hS) (h := ?_); rintro v1 w1 ⟨rfl, hS⟩; refine zm ?_; refine zn ?_; refine zr ?_; refine zf ?_; refine ⟨_, rfl, ?_, hS.sp⟩; (rfl); done)
theorem depth_c : ∀ (t : Ty) {cx : Cx} {w : World} {L : List Res} {cs : List Value} {most : Int}, tyR.at cx cs t → 0 ≤ most → most ≤ 1000 → St cx w L →
    Rets Tryz.prog Q4E [.agg ⟨cs⟩, .int .i64 most] w fun v w' => v = .int .i64 (t.depth most) ∧ St cx w' L := by
  intro t
  induction t using Ty.ind with
  | h k r l ih =>
    intro cx w L cs most ht h0 h1 hS
    obtain ⟨v, rfl, hl⟩ := Q1c ht
    simp only [Ty.kind, Ty.r, Ty.l] at hl ht ⊢
    have hlen := hl.len
    rw [Ty.depth]
    all_goals refine Qrr ?_
    all_goals (unfold R_DeepOf_lc; refine Q0 ?_; refine Q1 ?_; refine zb hS ?_; intro p2 w1 hS; refine zm ?_; refine zn ?_; refine Q0 ?_; refine Q1 ?_; refine zm ?_; refine zn ?_; refine Q0 ?_; refine Q0 ?_; refine Q1 ?_; refine zm ?_; refine zn ?_; refine Qa ?_)
    refine zoL hS [1, 2] (fun A LL ρ' w' => ∃ (j : Nat) (n : Int), Has ρ' A ∧ Has ρ' [(5, .int .i64 n), (6, .int .i64 j)] ∧ (j ≤ l.length) ∧ (0 ≤ n) ∧ (n ≤ 1002) ∧ (Tys.depth l most 0 = Tys.depth (l.drop j) most n) ∧ St cx w' (LL)) (fun ρ' _ => (l.length - iv (ρ' 6)).toNat) ?_ ?_
    · exact ⟨0, 0, zh, zh, (by omega), (by omega), (by omega), by simp, hS.sp⟩
    rintro ρ w1 ⟨j, n, hA, hρ, hj, hn0, hn, hd, hS⟩; obtain ⟨ρ, rfl⟩ := env2 hA hρ
    unfold Qil
    all_goals (refine Q0 ?_; refine Q0 ?_; refine Q1 ?_; refine zm ?_; refine zf0 ?_; refine zl hS ?_; refine zL ?_)
    all_goals (first | (refine Q1b ?_) | (refine Q1z ?_) | (refine QH rfl rfl (fun hc => ?_) (fun hc => ?_)))
    all_goals (refine zm ?_; (first | refine zgn ?_ | (refine zgy ?_; refine zm ?_)); (first | refine zgn ?_ | (refine zgy ?_; refine zm ?_)))
    all_goals (first | refine zgn ?_ | (refine zgy ?_; (first | (refine Qtk ?_) | (refine Qtl ?_) | (refine QgS rfl rfl (fun hc => ?_) (fun hc => ?_)))))
    all_goals ((first | (refine zpt ?_) | (refine zpf ?_)); refine zn ?_)
    all_goals
      first
      | (refine zcf ?_ -- Q4E c0
         all_goals (refine zex ?_; refine Q0 ?_; refine Q1 ?_; refine zm ?_; refine zm ?_; refine zn ?_; refine zr ?_; refine zf ?_)
         all_goals (first | (refine ⟨_, rfl, ?_, hS.sp⟩; rw [hd]; cases hx : l.drop j with | nil => exact absurd (List.drop_eq_nil_iff.1 hx) (by omega) | cons y m => rw [Tys.depth, if_pos (by omega), if_pos (by omega)]; done) | (refine ⟨_, rfl, ?_, hS.sp⟩; rw [hd, List.drop_of_length_le (by omega), Tys.depth]; done) | (refine ⟨_, rfl, ?_, hS.sp⟩; rw [hd]; cases hx : l.drop j with | nil => rw [Tys.depth] | cons y m => rw [Tys.depth, if_neg (by omega)]; done)))
      | (refine zct ?_ -- Q4E c0
         all_goals (refine zsk ?_; refine Q0 ?_; refine Qa ?_; refine Q0 ?_; refine Q0 ?_; refine Q1 ?_; refine zm ?_)
         all_goals (first | (refine Qn ?_) | (refine Qq ?_) | (refine Qg rfl rfl (fun hc => ?_) (fun hc => ?_)))
         all_goals (refine zn ?_)
         all_goals
           first
           | (refine zct ?_ -- Q4E c1
              all_goals (refine Q0 ?_; refine Q1 ?_; refine zm ?_; refine zn ?_; refine zr ?_; refine zf ?_)
              all_goals (refine ⟨_, rfl, ?_, hS.sp⟩; rw [hd]; cases hx : l.drop j with | nil => exact absurd (List.drop_eq_nil_iff.1 hx) (by omega) | cons y m => rw [Tys.depth, if_pos (by omega), if_pos (by omega)]; done))
           | (refine zcf ?_ -- Q4E c1
              all_goals refine zsk ?_)
         all_goals (refine Q0 ?_; refine Q1 ?_; refine zf0 ?_; refine zl hS ?_; refine zm ?_; refine zi ?_; intro b1 o1 cs1 x1 hat1 hx1 he1; obtain ⟨vl1, rfl, hl1⟩ := Q1c he1; (first | (refine zv hS ?_) | (refine zvk hS ?_)); refine zm ?_; refine zsu ?_; have hb := Ty.depth_rng x1 (most := most - 1) (by omega); refine zR2 (c := ih _ (List.mem_of_getElem? (by assumption)) (by assumption) (by omega) (by omega) hS) (h := ?_); rintro v1 w1 ⟨rfl, hS⟩; refine zad ?_; refine zm ?_; refine zn ?_; refine Q0 ?_; refine Q1 ?_; refine zm ?_; refine zm ?_)
         all_goals (first | (refine QD ?_) | (refine QR ?_) | (refine Qr rfl rfl (fun hc => ?_) (fun hc => ?_)))
         all_goals (refine zn ?_)
         all_goals
           first
           | (refine zct ?_ -- Q4E c2
              all_goals (refine Q1 ?_; refine zm ?_; refine zm ?_)
              all_goals refine zn ?_)
           | (refine zcf ?_ -- Q4E c2
              all_goals refine zsk ?_)
         all_goals (refine Q1 ?_; refine zm ?_; refine zad ?_; refine zm ?_; refine zn ?_)
         all_goals (first | (exact ⟨⟨j + 1, _, zh, zh, (by omega), (by omega), (by omega), by rw [hd, Q4 hx1, Tys.depth, if_pos (by omega), if_neg (by omega), if_pos (by omega)], hS.sp⟩, QF (by omega)⟩) | (exact ⟨⟨j + 1, _, zh, zh, (by omega), (by omega), (by omega), by rw [hd, Q4 hx1, Tys.depth, if_pos (by omega), if_neg (by omega), if_neg (by omega)], hS.sp⟩, QF (by omega)⟩)))
theorem rwrong_c : ∀ (t : Ty) {cx : Cx} {w : World} {L : List Res} {cs : List Value} {regs : Int}, tyR.at cx cs t → St cx w L →
    Rets Tryz.prog Q1y [.agg ⟨cs⟩, .int .i64 regs] w fun v w' => v = .int .i64 (t.wrong 8 regs) ∧ St cx w' L := by
  intro t
  induction t using Ty.ind with
  | h k r l ih =>
    intro cx w L cs regs ht hS
    obtain ⟨v, rfl, hl⟩ := Q1c ht
    simp only [Ty.kind, Ty.r, Ty.l] at hl ht ⊢
    have hlen := hl.len
    rw [Ty.wrong]
    all_goals refine QjX ?_
    all_goals (unfold R_typeFault_lc; refine Q0 ?_; refine Q1 ?_; refine zb hS ?_; intro p2 w1 hS; refine zm ?_; refine zn ?_; refine Q0 ?_; refine Q0 ?_; refine Q1 ?_; refine zf0 ?_; refine zl hS ?_)
    all_goals (first | (refine Q1b ?_) | (refine Q1z ?_) | (refine QH rfl rfl (fun hc => ?_) (fun hc => ?_)))
    all_goals (refine zm ?_; (first | refine zgn ?_ | (refine zgy ?_; refine zf0 ?_)); (first | refine zgn ?_ | (refine zgy ?_; refine zl hS ?_)))
    all_goals (first | refine zgn ?_ | (refine zgy ?_; (first | (refine QD ?_) | (refine QR ?_) | (refine Qr rfl rfl (fun hc => ?_) (fun hc => ?_)))))
    all_goals ((first | (refine zpt ?_) | (refine zpf ?_)); refine zn ?_)
    all_goals
      first
      | (refine zct ?_ -- Q1y c0
         all_goals (refine Q0 ?_; refine Q1 ?_; refine zm ?_; refine zn ?_; refine zr ?_; refine zf ?_)
         all_goals (refine ⟨_, rfl, ?_, hS.sp⟩; (repeat (first | rw [if_pos (by omega)] | rw [if_neg (by omega)])); done))
      | (refine zcf ?_ -- Q1y c0
         all_goals refine zsk ?_)
    refine zML hS [1, 2] (fun A LL ρ' w' => Has ρ' A ∧ Has ρ' [] ∧ (1 ≤ k ∧ k ≤ 4 ∧ (k = 1 → r = 0) ∧ (k ≠ 3 → l.length = 0)) ∧ St cx w' (LL)) ?_ ?_
    · skip
      all_goals (refine Q0 ?_; refine Q1 ?_; refine zf0 ?_; refine zl hS ?_)
      all_goals (first | (refine Qn ?_) | (refine Qq ?_) | (refine Qg rfl rfl (fun hc => ?_) (fun hc => ?_)))
      all_goals (refine zm ?_; (first | refine zgn ?_ | (refine zgy ?_; refine zf0 ?_)); (first | refine zgn ?_ | (refine zgy ?_; refine zl hS ?_)))
      all_goals (first | refine zgn ?_ | (refine zgy ?_; (first | (refine Q1h ?_) | (refine Q1j ?_) | (refine Qv rfl rfl (fun hc => ?_) (fun hc => ?_)))))
      all_goals ((first | (refine zpt ?_) | (refine zpf ?_)); refine zm ?_; (first | refine zgn ?_ | (refine zgy ?_; refine zf0 ?_)); (first | refine zgn ?_ | (refine zgy ?_; refine zl hS ?_)))
      all_goals (first | refine zgn ?_ | (refine zgy ?_; (first | (refine Q1h ?_) | (refine Q1j ?_) | (refine Qv rfl rfl (fun hc => ?_) (fun hc => ?_)))))
      all_goals ((first | refine zgn ?_ | (refine zgy ?_; refine zm ?_)); (first | refine zgn ?_ | (refine zgy ?_; refine zf0 ?_)); (first | refine zgn ?_ | (refine zgy ?_; refine zl hS ?_)); (first | refine zgn ?_ | (refine zgy ?_; refine zL ?_)))
      all_goals (first | refine zgn ?_ | (refine zgy ?_; (first | (refine QD ?_) | (refine QR ?_) | (refine Qr rfl rfl (fun hc => ?_) (fun hc => ?_)))))
      all_goals ((first | refine zgn ?_ | (refine zgy ?_; (first | (refine zpt ?_) | (refine zpf ?_)))); (first | (refine zpt ?_) | (refine zpf ?_)); refine zn ?_)
      all_goals
        first
        | (refine zct ?_ -- Q1y c1
           all_goals (refine Q0 ?_; refine Q1 ?_; refine zm ?_; refine zn ?_; refine zr ?_; refine zf ?_)
           all_goals (refine ⟨_, rfl, ?_, hS.sp⟩; (repeat (first | rw [if_pos (by omega)] | rw [if_neg (by omega)])); done))
        | (refine zcf ?_ -- Q1y c1
           all_goals refine zsk ?_)
      all_goals (exact ⟨zh, zh, by omega, hS.sp⟩)
    rintro ρ w1 ⟨hA, hρ, hk, hS⟩; obtain ⟨ρ, rfl⟩ := env2 hA hρ
    all_goals (refine Q0 ?_; refine Q0 ?_; refine Q1 ?_; refine zf0 ?_; refine zl hS ?_; refine zL ?_)
    all_goals (first | (refine QD ?_) | (refine QR ?_) | (refine Qr rfl rfl (fun hc => ?_) (fun hc => ?_)))
    all_goals (refine zn ?_)
    all_goals
      first
      | (refine zct ?_ -- Q1y c2
         all_goals (refine Q0 ?_; refine Q1 ?_; refine zm ?_; refine zn ?_; refine zr ?_; refine zf ?_)
         all_goals (refine ⟨_, rfl, ?_, hS.sp⟩; (repeat (first | rw [if_pos (by omega)] | rw [if_neg (by omega)])); done))
      | (refine zcf ?_ -- Q1y c2
         all_goals refine zsk ?_)
    refine zML hS [1, 2] (fun A LL ρ' w' => Has ρ' A ∧ Has ρ' [] ∧ (l.length ≤ 8) ∧ (k ≠ 1 → 0 ≤ r ∧ r < regs) ∧ St cx w' (LL)) ?_ ?_
    · skip
      all_goals (refine Q0 ?_; refine Q1 ?_; refine zf0 ?_; refine zl hS ?_)
      all_goals (first | (refine Q1h ?_) | (refine Q1j ?_) | (refine Qv rfl rfl (fun hc => ?_) (fun hc => ?_)))
      all_goals (refine zm ?_; (first | refine zgn ?_ | (refine zgy ?_; refine zf0 ?_)); (first | refine zgn ?_ | (refine zgy ?_; refine zl hS ?_)))
      all_goals (first | refine zgn ?_ | (refine zgy ?_; (first | (refine Q1b ?_) | (refine Q1z ?_) | (refine QH rfl rfl (fun hc => ?_) (fun hc => ?_)))))
      all_goals ((first | refine zgn ?_ | (refine zgy ?_; refine zm ?_)); (first | refine zgn ?_ | (refine zgy ?_; refine zf0 ?_)); (first | refine zgn ?_ | (refine zgy ?_; refine zl hS ?_)); (first | refine zgn ?_ | (refine zgy ?_; refine zm ?_)))
      all_goals (first | refine zgn ?_ | (refine zgy ?_; (first | (refine Q5Y ?_) | (refine Q6N ?_) | (refine Q35 rfl rfl (fun hc => ?_) (fun hc => ?_)))))
      all_goals ((first | refine zgn ?_ | (refine zgy ?_; (first | (refine zpt ?_) | (refine zpf ?_)))); (first | (refine zpt ?_) | (refine zpf ?_)); refine zn ?_)
      all_goals
        first
        | (refine zct ?_ -- Q1y c3
           all_goals (refine Q0 ?_; refine Q1 ?_; refine zm ?_; refine zn ?_; refine zr ?_; refine zf ?_)
           all_goals (refine ⟨_, rfl, ?_, hS.sp⟩; (repeat (first | rw [if_pos (by omega)] | rw [if_neg (by omega)])); done))
        | (refine zcf ?_ -- Q1y c3
           all_goals refine zsk ?_)
      all_goals (exact ⟨zh, zh, by omega, by omega, hS.sp⟩)
    rintro ρ w1 ⟨hA, hρ, hk2, hk3, hS⟩; obtain ⟨ρ, rfl⟩ := env2 hA hρ
    all_goals (refine Q0 ?_; refine Q0 ?_; refine Q1 ?_; refine zm ?_; refine zn ?_; refine Qa ?_)
    refine zoL hS [1, 2] (fun A LL ρ' w' => ∃ (j : Nat), Has ρ' A ∧ Has ρ' [(5, .int .i64 j)] ∧ (j ≤ l.length) ∧ (Tys.wrong 8 l regs = Tys.wrong 8 (l.drop j) regs) ∧ St cx w' (LL)) (fun ρ' _ => (l.length - iv (ρ' 5)).toNat) ?_ ?_
    · exact ⟨0, zh, zh, (by omega), by simp, hS.sp⟩
    rintro ρ w1 ⟨j, hA, hρ, hj, hd, hS⟩; obtain ⟨ρ, rfl⟩ := env2 hA hρ
    unfold Q7U
    all_goals (refine Q0 ?_; refine Q0 ?_; refine Q1 ?_; refine zm ?_; refine zf0 ?_; refine zl hS ?_; refine zL ?_; refine Q1i rfl rfl ?_; refine zn ?_)
    refine QM rfl (fun hc => ?_) (fun hc => ?_)
    · skip
      all_goals (refine zsk ?_; refine Q0 ?_; refine Qa ?_; refine Q0 ?_; refine Q1 ?_; refine zf0 ?_; refine zl hS ?_; refine zm ?_; refine zi ?_; intro b1 o1 cs1 x1 hat1 hx1 he1; obtain ⟨vl1, rfl, hl1⟩ := Q1c he1; (first | (refine zv hS ?_) | (refine zvk hS ?_)); refine zm ?_; refine zR2 (c := ih _ (List.mem_of_getElem? (by assumption)) (by assumption) hS) (h := ?_); rintro v1 w1 ⟨rfl, hS⟩; refine zm ?_; refine zn ?_; refine Q0 ?_; refine Q1 ?_; refine zm ?_)
      all_goals (first | (refine Q1h ?_) | (refine Q1j ?_) | (refine Qv rfl rfl (fun hc => ?_) (fun hc => ?_)))
      all_goals (refine zn ?_)
      all_goals
        first
        | (refine zct ?_ -- Q1y c5
           all_goals (refine Q0 ?_; refine Q1 ?_; refine zm ?_; refine zm ?_; refine zn ?_; refine zr ?_; refine zf ?_)
           all_goals (first | (refine ⟨_, rfl, ?_, hS.sp⟩; (repeat (first | rw [if_pos (by omega)] | rw [if_neg (by omega)])); done) | (refine ⟨_, rfl, ?_, hS.sp⟩; ((repeat (first | rw [if_pos (by omega)] | rw [if_neg (by omega)])); rw [hd, Q4 hx1, Tys.wrong, if_pos (by assumption)]); done)))
        | (refine zcf ?_ -- Q1y c5
           all_goals refine zsk ?_)
      all_goals (refine Q1 ?_; refine zm ?_; refine zad ?_; refine zm ?_; refine zn ?_; exact ⟨⟨j + 1, zh, zh, (by omega), by rw [hd, Q4 hx1, Tys.wrong, if_neg (by omega)], hS.sp⟩, QF (by omega)⟩)
    · skip
      all_goals (refine zex ?_; refine Q0 ?_; refine Q1 ?_; refine zm ?_; refine zn ?_; refine zr ?_; refine zf ?_; (first | (refine ⟨_, rfl, ?_, hS.sp⟩; (repeat (first | rw [if_pos (by omega)] | rw [if_neg (by omega)])); done) | (refine ⟨_, rfl, ?_, hS.sp⟩; ((repeat (first | rw [if_pos (by omega)] | rw [if_neg (by omega)])); rw [hd, Q4 hx1, Tys.wrong, if_pos (by assumption)]); done) | (refine ⟨_, rfl, ?_, hS.sp⟩; ((repeat (first | rw [if_pos (by omega)] | rw [if_neg (by omega)])); rw [hd, List.drop_of_length_le (by omega), Tys.wrong]); done)))
theorem QtR {t : Ty} {cx : Cx} {w : World} {L : List Res} {cs : List Value} {regs : Int} (ht : tyR.at cx cs t) (hS : St cx w L) :
    Rets Tryz.prog Q5S [.agg ⟨cs⟩, .int .i64 regs] w fun v w' => v = .int .i64 (t.fault regs) ∧ St cx w' L := by
  obtain ⟨v, rfl, hl⟩ := Q1c ht
  have hdp := Ty.depth_iff t (most := 4) (by omega)
  unfold Ty.fault
  all_goals refine Qkf ?_
  all_goals (unfold R_TypeFault_lc; refine Q0 ?_; refine Q1 ?_; refine zb hS ?_; intro p2 w1 hS; refine zm ?_; refine zn ?_; refine Q0 ?_; refine Q0 ?_; refine Q1 ?_; refine zv hS ?_; refine zR2 (c := depth_c t ht (by omega) (by omega) hS) (h := ?_); rintro v1 w1 ⟨rfl, hS⟩)
  all_goals (first | (refine QD ?_) | (refine QR ?_) | (refine Qr rfl rfl (fun hc => ?_) (fun hc => ?_)))
  all_goals (refine zn ?_)
  all_goals
    first
    | (refine zct ?_ -- Q5S c0
       all_goals (refine Q0 ?_; refine Q1 ?_; refine zm ?_; refine zn ?_; refine zr ?_; refine zf ?_)
       all_goals (refine ⟨_, rfl, ?_, hS.sp⟩; (rw [if_pos]; cases hg : t.deepB 4 <;> simp_all <;> omega); done))
    | (refine zcf ?_ -- Q5S c0
       all_goals refine zsk ?_)
  all_goals (refine Q0 ?_; refine Q1 ?_; refine zv hS ?_; refine zm ?_; refine zR2 (c := rwrong_c t ht hS) (h := ?_); rintro v1 w1 ⟨rfl, hS⟩; refine zm ?_; refine zn ?_; refine zr ?_; refine zf ?_)
  all_goals (first | (refine ⟨_, rfl, ?_, hS.sp⟩; (rw [if_pos]; cases hg : t.deepB 4 <;> simp_all <;> omega); done) | (refine ⟨_, rfl, ?_, hS.sp⟩; (rw [if_neg]; cases hg : t.deepB 4 <;> simp_all <;> omega); done))
end Go.Proofs.YtjecflbbcnocdaaGreatDoor
namespace Go.Proofs.YtjecflbbcnocdaaGreatDoor
open Go.Lir
set_option maxHeartbeats 1000000
attribute [local irreducible] LC.wp Q2 QA QB retQ Q1e LO.wp Qj Calls
set_option linter.unusedSimpArgs false
set_option linter.unusedVariables false
end Go.Proofs.YtjecflbbcnocdaaGreatDoor
namespace Go.Proofs.YtjecflbbcnocdaaGreatDoor
open Go.Lir
set_option maxHeartbeats 1000000
attribute [local irreducible] LC.wp Q2 QA QB retQ Q1e LO.wp Qj Calls
set_option linter.unusedSimpArgs false
set_option linter.unusedVariables false
theorem Qo6 {l : List Ty} (ih : ∀ x ∈ l, ∀ (y : Ty) {cx : Cx} {w : World} {L : List Res} {cs ds : List Value}, tyR.at cx cs x → tyR.at cx ds y → St cx w L → Rets Tryz.prog QeG [.agg ⟨cs⟩, .agg ⟨ds⟩] w fun u w' => u = .bool (decide (x = y)) ∧ St cx w' L)
    {m : List Ty} {cx : Cx} {w : World} {L : List Res} {v v2 : Value} (hl : tyR.sl cx v l) (hm : tyR.sl cx v2 m) (hS : St cx w L) : Rets Tryz.prog Q3d [v, v2] w fun u w' => u = .bool (decide (l = m)) ∧ St cx w' L := by
  have hlen := hl.len
  all_goals refine Qkp ?_
  all_goals (unfold R_SameTypes_lc; refine Q0 ?_; refine Q1 ?_; refine zm ?_; refine zn ?_; refine Q0 ?_; refine Q0 ?_; refine Q1 ?_; refine zm ?_; refine zL ?_; refine zm ?_; refine zL ?_)
  all_goals (first | (refine Q1h ?_) | (refine Q1j ?_) | (refine Qv rfl rfl (fun hc => ?_) (fun hc => ?_)))
  all_goals (refine zn ?_)
  all_goals
    first
    | (refine zct ?_ -- Q3d c0
       all_goals (refine Q0 ?_; refine Q1 ?_; refine zm ?_; refine zn ?_; refine zr ?_; refine zf ?_)
       all_goals (refine ⟨_, rfl, ?_, hS.sp⟩; rw [decide_eq_false]; exact fun e => absurd (congrArg List.length e) (by omega); done))
    | (refine zcf ?_ -- Q3d c0
       all_goals refine zsk ?_)
  all_goals (refine Q0 ?_; refine Q0 ?_; refine Q1 ?_; refine zm ?_; refine zn ?_; refine Qa ?_)
  refine zoL hS [0, 1] (fun A LL ρ' w' => ∃ (j : Nat), Has ρ' A ∧ Has ρ' [(5, .int .i64 j)] ∧ (j ≤ l.length) ∧ (l.length = m.length) ∧ (l = m ↔ l.drop j = m.drop j) ∧ St cx w' (LL)) (fun ρ' _ => (l.length - iv (ρ' 5)).toNat) ?_ ?_
  · exact ⟨0, zh, zh, (by omega), (by omega), by simp, hS.sp⟩
  rintro ρ w1 ⟨j, hA, hρ, hj, hlm, hd, hS⟩; obtain ⟨ρ, rfl⟩ := env2 hA hρ
  unfold Q9U
  all_goals (refine Q0 ?_; refine Q0 ?_; refine Q1 ?_; refine zm ?_; refine zm ?_; refine zL ?_; refine Q1i rfl rfl ?_; refine zn ?_)
  refine QM rfl (fun hc => ?_) (fun hc => ?_)
  · skip
    all_goals (refine zsk ?_; refine Q0 ?_; refine Qa ?_; refine Q0 ?_; refine zD [(0, none), (1, none), (2, none), (3, none), (4, none), (5, none), (6, none), (7, none), (8, some none), (9, some none)] ?_; have hS := hS.drew; refine zm ?_; refine zm ?_; refine zi ?_; intro b1 o1 cs1 x1 hat1 hx1 he1; obtain ⟨vl1, rfl, hl1⟩ := Q1c he1; (first | (refine zv hS ?_) | (refine zvk hS ?_)); refine zm ?_; refine zm ?_; refine zi ?_; intro b2 o2 cs2 x2 hat2 hx2 he2; obtain ⟨vl2, rfl, hl2⟩ := Q1c he2; (first | (refine zv hS ?_) | (refine zvk hS ?_)))
    all_goals (refine zR2 (c := ih _ (List.mem_of_getElem? hx1) _ he1 he2 hS) (h := ?_); rintro v1 w1 ⟨rfl, hS⟩; (cases hdec : decide (x1 = x2)); have hg := of_decide_eq_false hdec; rotate_left; have hg := of_decide_eq_true hdec; all_goals skip)
    all_goals (refine znt ?_; refine zn ?_)
    all_goals
      first
      | (refine zct ?_ -- Q3d c2
         all_goals (refine Q0 ?_; refine Q1 ?_; refine zm ?_; refine zn ?_; refine zr ?_; refine zf ?_)
         all_goals (first | (refine ⟨_, rfl, ?_, hS.sp⟩; rw [decide_eq_false]; exact fun e => absurd (congrArg List.length e) (by omega); done) | (refine ⟨_, rfl, ?_, hS.sp⟩; rw [decide_eq_false]; rw [hd, Q4 hx1, Q4 hx2]; simp [hg]; done)))
      | (refine zcf ?_ -- Q3d c2
         all_goals refine zsk ?_)
    all_goals (refine Q1 ?_; refine zm ?_; refine zad ?_; refine zm ?_; refine zn ?_; exact ⟨⟨j + 1, zh, zh, (by omega), (by omega), by rw [hd, Q4 hx1, Q4 hx2, hg]; simp, hS.sp⟩, QF (by omega)⟩)
  · skip
    all_goals (refine zex ?_; refine Q0 ?_; refine Q1 ?_; refine zm ?_; refine zn ?_; refine zr ?_; refine zf ?_; (first | (refine ⟨_, rfl, ?_, hS.sp⟩; rw [decide_eq_false]; exact fun e => absurd (congrArg List.length e) (by omega); done) | (refine ⟨_, rfl, ?_, hS.sp⟩; rw [decide_eq_false]; rw [hd, Q4 hx1, Q4 hx2]; simp [hg]; done) | (refine ⟨_, rfl, ?_, hS.sp⟩; rw [decide_eq_true]; rw [hd, List.drop_of_length_le (by omega), List.drop_of_length_le (by omega)]; done)))
theorem rsame_c : ∀ (t u : Ty) {cx : Cx} {w : World} {L : List Res} {cs ds : List Value}, tyR.at cx cs t → tyR.at cx ds u → St cx w L →
    Rets Tryz.prog QeG [.agg ⟨cs⟩, .agg ⟨ds⟩] w fun v w' => v = .bool (decide (t = u)) ∧ St cx w' L := by
  intro t
  induction t using Ty.ind with
  | h k r l ih =>
    rintro ⟨k2, r2, m⟩ cx w L cs ds ht hu hS
    obtain ⟨v, rfl, hl⟩ := Q1c ht
    obtain ⟨v2, rfl, hm⟩ := Q1c hu
    simp only [Ty.kind, Ty.r, Ty.l, Ty.mk.injEq] at hl hm ht hu ⊢
    all_goals refine Qn8 ?_
    all_goals (unfold R_SameType_lc; refine Q0 ?_; refine Q1 ?_; refine zb hS ?_; intro p2 w1 hS; refine zb hS ?_; intro p3 w1 hS; refine zm ?_; refine zn ?_; refine Q0 ?_; refine Q1 ?_; refine zf0 ?_; refine zl hS ?_; refine zf0 ?_; refine zl hS ?_)
    all_goals (first | (refine Qn ?_) | (refine Qq ?_) | (refine Qg rfl rfl (fun hc => ?_) (fun hc => ?_)))
    all_goals (refine zm ?_; (first | refine zgn ?_ | (refine zgy ?_; refine zf0 ?_)); (first | refine zgn ?_ | (refine zgy ?_; refine zl hS ?_)); (first | refine zgn ?_ | (refine zgy ?_; refine zf0 ?_)); (first | refine zgn ?_ | (refine zgy ?_; refine zl hS ?_)))
    all_goals (first | refine zgn ?_ | (refine zgy ?_; (first | (refine Qn ?_) | (refine Qq ?_) | (refine Qg rfl rfl (fun hc => ?_) (fun hc => ?_)))))
    all_goals ((first | (refine zpt ?_) | (refine zpf ?_)); refine zm ?_; (first | refine zgn ?_ | (refine zgy ?_; refine zf0 ?_)); (first | refine zgn ?_ | (refine zgy ?_; refine zl hS ?_)); (first | refine zgn ?_ | (refine zgy ?_; refine zf0 ?_)); (first | refine zgn ?_ | (refine zgy ?_; refine zl hS ?_)); (first | refine zgn ?_ | (refine zgy ?_; refine zR2 (c := Qo6 ih hl hm hS) (h := ?_); rintro v1 w1 ⟨rfl, hS⟩)); (first | (refine zpt ?_) | (refine zpf ?_)); refine zm ?_; refine zn ?_; refine zr ?_; refine zf ?_; refine ⟨_, rfl, ?_, hS.sp⟩; (simp [*]); done)
theorem Q82 {l m : List Ty} {cx : Cx} {w : World} {L : List Res} {v v2 : Value} (hl : tyR.sl cx v l) (hm : tyR.sl cx v2 m) (hS : St cx w L) : Rets Tryz.prog Q3d [v, v2] w fun u w' => u = .bool (decide (l = m)) ∧ St cx w' L :=
  Qo6 (fun x _ => rsame_c x) hl hm hS
/-- slices.EqualFunc, by a function that tells whether two are the same. -/
theorem eqfT_c {l : List Ty} {f : FuncId} (hf : Q3B Tryz.prog f = true) {m : List Ty} {cx : Cx} {w : World} {L : List Res} {v v2 : Value}
    (hcall : ∀ x ∈ l, ∀ y ∈ m, ∀ {w : World} {L : List Res} {cs ds : List Value}, tyR.at cx cs x → tyR.at cx ds y → St cx w L → Rets Tryz.prog f [.agg ⟨cs⟩, .agg ⟨ds⟩] w fun u w' => u = .bool (decide (x = y)) ∧ St cx w' L)
    (hl : tyR.sl cx v l) (hm : tyR.sl cx v2 m) (hS : St cx w L) : Rets Tryz.prog Qf [v, v2, .func (.func f) #[] #[]] w fun u w' => u = .bool (decide (l = m)) ∧ St cx w' L := by
  have hlen := hl.len
  all_goals refine Q1x ?_
  all_goals (unfold slices_EqualFunc_api_Type_api_Type_api_Type_api_Type_lc; refine Q0 ?_; refine Q1 ?_; refine zm ?_; refine zn ?_; refine Q0 ?_; refine Q0 ?_; refine Q1 ?_; refine zm ?_; refine zL ?_; refine zm ?_; refine zL ?_)
  all_goals (first | (refine Q1h ?_) | (refine Q1j ?_) | (refine Qv rfl rfl (fun hc => ?_) (fun hc => ?_)))
  all_goals (refine zn ?_)
  all_goals
    first
    | (refine zct ?_ -- Qf c0
       all_goals (refine Q0 ?_; refine Q1 ?_; refine zm ?_; refine zn ?_; refine zr ?_; refine zf ?_)
       all_goals (refine ⟨_, rfl, ?_, hS.sp⟩; rw [decide_eq_false]; exact fun e => absurd (congrArg List.length e) (by omega); done))
    | (refine zcf ?_ -- Qf c0
       all_goals refine zsk ?_)
  all_goals (refine Q0 ?_; refine Q0 ?_; refine Q1 ?_; refine zm ?_; refine zL ?_; refine zm ?_; refine zn ?_; refine Qa ?_)
  refine zoL hS [1, 2, 15, 16] (fun A LL ρ' w' => ∃ (j : Nat), Has ρ' A ∧ Has ρ' [(17, .int .i64 j)] ∧ (j ≤ l.length) ∧ (l.length = m.length) ∧ (l = m ↔ l.drop j = m.drop j) ∧ St cx w' (LL)) (fun ρ' _ => (l.length - iv (ρ' 17)).toNat) ?_ ?_
  · exact ⟨0, zh, zh, (by omega), (by omega), by simp, hS.sp⟩
  rintro ρ w1 ⟨j, hA, hρ, hj, hlm, hd, hS⟩; obtain ⟨ρ, rfl⟩ := env2 hA hρ
  unfold QK
  all_goals (refine Q0 ?_; refine Q1 ?_; refine Q1i rfl rfl ?_; refine zn ?_; refine Q0 ?_)
  refine QM rfl (fun hc => ?_) (fun hc => ?_)
  · skip
    all_goals (refine zsk ?_; refine Q0 ?_; refine Qa ?_; refine Q0 ?_; refine Q1 ?_; refine zm ?_; refine zi ?_; intro b1 o1 cs1 x1 hat1 hx1 he1; obtain ⟨vl1, rfl, hl1⟩ := Q1c he1; (first | (refine zv hS ?_) | (refine zvk hS ?_)); refine Q9 hS ?_; intro p8 w1 hS; refine zm ?_; refine zsn hS ?_; intro w1 hS; have hS := hS.ns; refine zn ?_; refine Q0 ?_; refine Q1 ?_; refine zm ?_; refine zm ?_; refine zi ?_; intro b2 o2 cs2 x2 hat2 hx2 he2; obtain ⟨vl2, rfl, hl2⟩ := Q1c he2; (first | (refine zv hS ?_) | (refine zvk hS ?_)); refine Q9 hS ?_; intro p9 w1 hS; refine zsn hS ?_; intro w1 hS; have hS := hS.ns; refine zn ?_; refine Q0 ?_; refine Q1 ?_; refine zm ?_; refine zv hS ?_; refine zv hS ?_)
    all_goals (refine QtB rfl hf (by rfl) (hcall _ (List.mem_of_getElem? hx1) _ (List.mem_of_getElem? hx2) he1 he2 hS) ?_; rintro v1 w1 ⟨rfl, hS⟩; (cases hdec : decide (x1 = x2)); have hg := of_decide_eq_false hdec; rotate_left; have hg := of_decide_eq_true hdec; all_goals skip)
    all_goals (refine znt ?_; refine zn ?_)
    all_goals
      first
      | (refine zct ?_ -- Qf c2
         all_goals (refine Q0 ?_; refine Q1 ?_; refine zm ?_; refine zn ?_; refine zr ?_; refine zf ?_)
         all_goals (first | (refine ⟨_, rfl, ?_, hS.sp⟩; rw [decide_eq_false]; exact fun e => absurd (congrArg List.length e) (by omega); done) | (refine ⟨_, rfl, ?_, hS.sp⟩; rw [decide_eq_false]; rw [hd, Q4 hx1, Q4 hx2]; simp [hg]; done)))
      | (refine zcf ?_ -- Qf c2
         all_goals refine zsk ?_)
    all_goals (refine Q1 ?_; refine zad ?_; refine zm ?_; refine zn ?_; exact ⟨⟨j + 1, zh, zh, (by omega), (by omega), by rw [hd, Q4 hx1, Q4 hx2, hg]; simp, hS.sp⟩, QF (by omega)⟩)
  · skip
    all_goals (refine zex ?_; refine Q0 ?_; refine Q1 ?_; refine zm ?_; refine zn ?_; refine zr ?_; refine zf ?_; (first | (refine ⟨_, rfl, ?_, hS.sp⟩; rw [decide_eq_false]; exact fun e => absurd (congrArg List.length e) (by omega); done) | (refine ⟨_, rfl, ?_, hS.sp⟩; rw [decide_eq_false]; rw [hd, Q4 hx1, Q4 hx2]; simp [hg]; done) | (refine ⟨_, rfl, ?_, hS.sp⟩; rw [decide_eq_true]; rw [hd, List.drop_of_length_le (by omega), List.drop_of_length_le (by omega)]; done)))
theorem psame_c : ∀ (t u : Ty) {cx : Cx} {w : World} {L : List Res} {cs ds : List Value}, tyR.at cx cs t → tyR.at cx ds u → St cx w L →
    Rets Tryz.prog QkY [.agg ⟨cs⟩, .agg ⟨ds⟩] w fun v w' => v = .bool (decide (t = u)) ∧ St cx w' L := by
  intro t
  induction t using Ty.ind with
  | h k r l ih =>
    rintro ⟨k2, r2, m⟩ cx w L cs ds ht hu hS
    obtain ⟨v, rfl, hl⟩ := Q1c ht
    obtain ⟨v2, rfl, hm⟩ := Q1c hu
    simp only [Ty.kind, Ty.r, Ty.l, Ty.mk.injEq] at hl hm ht hu ⊢
    all_goals refine QlC ?_
    all_goals (unfold types_Same_lc; refine Q0 ?_; refine Q1 ?_; refine zb hS ?_; intro p2 w1 hS; refine zb hS ?_; intro p3 w1 hS; refine zm ?_; refine zn ?_; refine Q0 ?_; refine Q1 ?_; refine zf0 ?_; refine zl hS ?_; refine zf0 ?_; refine zl hS ?_)
    all_goals (first | (refine Qn ?_) | (refine Qq ?_) | (refine Qg rfl rfl (fun hc => ?_) (fun hc => ?_)))
    all_goals (refine zm ?_; (first | refine zgn ?_ | (refine zgy ?_; refine zf0 ?_)); (first | refine zgn ?_ | (refine zgy ?_; refine zl hS ?_)); (first | refine zgn ?_ | (refine zgy ?_; refine zf0 ?_)); (first | refine zgn ?_ | (refine zgy ?_; refine zl hS ?_)))
    all_goals (first | refine zgn ?_ | (refine zgy ?_; (first | (refine Qn ?_) | (refine Qq ?_) | (refine Qg rfl rfl (fun hc => ?_) (fun hc => ?_)))))
    all_goals ((first | (refine zpt ?_) | (refine zpf ?_)); refine zm ?_; (first | refine zgn ?_ | (refine zgy ?_; refine zf0 ?_)); (first | refine zgn ?_ | (refine zgy ?_; refine zl hS ?_)); (first | refine zgn ?_ | (refine zgy ?_; refine zf0 ?_)); (first | refine zgn ?_ | (refine zgy ?_; refine zl hS ?_)); (first | refine zgn ?_ | (refine zgy ?_; refine zR3 (c := eqfT_c (by kernel_rfl) (fun x hx y _ {_ _ _ _} h1 h2 h3 => ih x hx y h1 h2 h3) hl hm hS) (h := ?_); rintro v1 w1 ⟨rfl, hS⟩)); (first | (refine zpt ?_) | (refine zpf ?_)); refine zm ?_; refine zn ?_; refine zr ?_; refine zf ?_; refine ⟨_, rfl, ?_, hS.sp⟩; (simp [*]); done)
end Go.Proofs.YtjecflbbcnocdaaGreatDoor
namespace Go.Proofs.YtjecflbbcnocdaaGreatDoor
open Go.Lir
set_option maxHeartbeats 1000000
attribute [local irreducible] LC.wp Q2 QA QB retQ Q1e LO.wp Qj Calls
set_option linter.unusedSimpArgs false
set_option linter.unusedVariables false
theorem QgW {l m : List Int} {cx : Cx} {w : World} {L : List Res} {v v2 : Value} (hl : intR.sl cx v l) (hm : intR.sl cx v2 m) (hS : St cx w L) : Rets Tryz.prog Q4d [v, v2] w fun u w' => u = .bool (decide (l = m)) ∧ St cx w' L := by
  have hlen := hl.len
  all_goals refine Qni ?_
  all_goals (unfold R_SameInts_lc; refine Q0 ?_; refine Q1 ?_; refine zm ?_; refine zn ?_; refine Q0 ?_; refine Q0 ?_; refine Q1 ?_; refine zm ?_; refine zL ?_; refine zm ?_; refine zL ?_)
  all_goals (first | (refine Q1h ?_) | (refine Q1j ?_) | (refine Qv rfl rfl (fun hc => ?_) (fun hc => ?_)))
  all_goals (refine zn ?_)
  all_goals
    first
    | (refine zct ?_ -- Q4d c0
       all_goals (refine Q0 ?_; refine Q1 ?_; refine zm ?_; refine zn ?_; refine zr ?_; refine zf ?_)
       all_goals (refine ⟨_, rfl, ?_, hS.sp⟩; rw [decide_eq_false]; exact fun e => absurd (congrArg List.length e) (by omega); done))
    | (refine zcf ?_ -- Q4d c0
       all_goals refine zsk ?_)
  all_goals (refine Q0 ?_; refine Q0 ?_; refine Q1 ?_; refine zm ?_; refine zn ?_; refine Qa ?_)
  refine zoL hS [0, 1] (fun A LL ρ' w' => ∃ (j : Nat), Has ρ' A ∧ Has ρ' [(5, .int .i64 j)] ∧ (j ≤ l.length) ∧ (l.length = m.length) ∧ (l = m ↔ l.drop j = m.drop j) ∧ St cx w' (LL)) (fun ρ' _ => (l.length - iv (ρ' 5)).toNat) ?_ ?_
  · exact ⟨0, zh, zh, (by omega), (by omega), by simp, hS.sp⟩
  rintro ρ w1 ⟨j, hA, hρ, hj, hlm, hd, hS⟩; obtain ⟨ρ, rfl⟩ := env2 hA hρ
  unfold Qce
  all_goals (refine Q0 ?_; refine Q0 ?_; refine Q1 ?_; refine zm ?_; refine zm ?_; refine zL ?_; refine Q1i rfl rfl ?_; refine zn ?_)
  refine QM rfl (fun hc => ?_) (fun hc => ?_)
  · skip
    all_goals (refine zsk ?_; refine Q0 ?_; refine Qa ?_; refine Q0 ?_; refine zD [(0, none), (1, none), (2, none), (3, none), (4, none), (5, none), (6, none), (7, none), (8, some none)] ?_; have hS := hS.drew; refine zm ?_; refine zm ?_; refine zi ?_; intro b1 o1 cs1 x1 hat1 hx1 he1; obtain rfl := Qgk he1; (first | (refine zl hS ?_) | (refine zlk hS ?_)); refine zm ?_; refine zm ?_; refine zi ?_; intro b2 o2 cs2 x2 hat2 hx2 he2; obtain rfl := Qgk he2; (first | (refine zl hS ?_) | (refine zlk hS ?_)))
    all_goals (first | (refine Q1h ?_) | (refine Q1j ?_) | (refine Qv rfl rfl (fun hc => ?_) (fun hc => ?_)))
    all_goals (refine zn ?_)
    all_goals
      first
      | (refine zct ?_ -- Q4d c2
         all_goals (refine Q0 ?_; refine Q1 ?_; refine zm ?_; refine zn ?_; refine zr ?_; refine zf ?_)
         all_goals (first | (refine ⟨_, rfl, ?_, hS.sp⟩; rw [decide_eq_false]; exact fun e => absurd (congrArg List.length e) (by omega); done) | (refine ⟨_, rfl, ?_, hS.sp⟩; rw [decide_eq_false]; rw [hd, Q4 hx1, Q4 hx2]; simp [*]; done)))
      | (refine zcf ?_ -- Q4d c2
         all_goals refine zsk ?_)
    all_goals (refine Q1 ?_; refine zm ?_; refine zad ?_; refine zm ?_; refine zn ?_; exact ⟨⟨j + 1, zh, zh, (by omega), (by omega), by rw [hd, Q4 hx1, Q4 hx2, show x1 = x2 by omega]; simp, hS.sp⟩, QF (by omega)⟩)
  · skip
    all_goals (refine zex ?_; refine Q0 ?_; refine Q1 ?_; refine zm ?_; refine zn ?_; refine zr ?_; refine zf ?_; (first | (refine ⟨_, rfl, ?_, hS.sp⟩; rw [decide_eq_false]; exact fun e => absurd (congrArg List.length e) (by omega); done) | (refine ⟨_, rfl, ?_, hS.sp⟩; rw [decide_eq_false]; rw [hd, Q4 hx1, Q4 hx2]; simp [*]; done) | (refine ⟨_, rfl, ?_, hS.sp⟩; rw [decide_eq_true]; rw [hd, List.drop_of_length_le (by omega), List.drop_of_length_le (by omega)]; done)))
theorem Qo5 {x y : To} {cx : Cx} {w : World} {L : List Res} {cs ds : List Value} (hx : toR.at cx cs x) (hy : toR.at cx ds y) (hS : St cx w L) : Rets Tryz.prog Qsd [.agg ⟨cs⟩, .agg ⟨ds⟩] w fun u w' => u = .bool (decide (x = y)) ∧ St cx w' L := by
  obtain ⟨n, xr, xa⟩ := x
  obtain ⟨n2, yr, ya⟩ := y
  obtain ⟨v1, v2, rfl, h1, h2⟩ := Q4F hx
  obtain ⟨v3, v4, rfl, h3, h4⟩ := Q4F hy
  simp only [To.mk.injEq] at *
  all_goals refine Qqp ?_
  all_goals (unfold R_sameTo_lc; refine Q0 ?_; refine Q1 ?_; refine zb hS ?_; intro p2 w1 hS; refine zb hS ?_; intro p3 w1 hS; refine zm ?_; refine zn ?_; refine Q0 ?_; refine Q1 ?_; refine zf0 ?_; refine zl hS ?_; refine zf0 ?_; refine zl hS ?_)
  all_goals (first | (refine Qn ?_) | (refine Qq ?_) | (refine Qg rfl rfl (fun hc => ?_) (fun hc => ?_)))
  all_goals (refine zm ?_; (first | refine zgn ?_ | (refine zgy ?_; refine zf0 ?_)); (first | refine zgn ?_ | (refine zgy ?_; refine zl hS ?_)); (first | refine zgn ?_ | (refine zgy ?_; refine zf0 ?_)); (first | refine zgn ?_ | (refine zgy ?_; refine zl hS ?_)))
  all_goals ((first | (refine zgn ?_) | (refine zgy ?_; refine zR2 (c := QgW h1 h3 hS) (h := ?_); rintro v1 w1 ⟨rfl, hS⟩; (cases hdec : decide (xr = yr)); have hg := of_decide_eq_false hdec; rotate_left; have hg := of_decide_eq_true hdec; all_goals skip)))
  all_goals ((first | (refine zpt ?_) | (refine zpf ?_)); refine zm ?_; (first | refine zgn ?_ | (refine zgy ?_; refine zf0 ?_)); (first | refine zgn ?_ | (refine zgy ?_; refine zl hS ?_)); (first | refine zgn ?_ | (refine zgy ?_; refine zf0 ?_)); (first | refine zgn ?_ | (refine zgy ?_; refine zl hS ?_)); (first | (refine zgn ?_) | (refine zgy ?_; refine zR2 (c := QgW h2 h4 hS) (h := ?_); rintro v1 w1 ⟨rfl, hS⟩)); (first | (refine zpt ?_) | (refine zpf ?_)); refine zm ?_; refine zn ?_; refine zr ?_; refine zf ?_; refine ⟨_, rfl, ?_, hS.sp⟩; (simp [*]); done)
theorem Qsq {x y : Ins} {cx : Cx} {w : World} {L : List Res} {cs ds : List Value} (hx : insR.at cx cs x) (hy : insR.at cx ds y) (hS : St cx w L) : Rets Tryz.prog QoP [.agg ⟨cs⟩, .agg ⟨ds⟩] w fun u w' => u = .bool (decide (x = y)) ∧ St cx w' L := by
  obtain ⟨n, a, b, c, k, nn, xr, xa⟩ := x
  obtain ⟨n2, a2, b2, c2, k2, nn2, yr, ya⟩ := y
  obtain ⟨v1, v2, rfl, h1, h2⟩ := Q3M hx
  obtain ⟨v3, v4, rfl, h3, h4⟩ := Q3M hy
  simp only [Ins.mk.injEq] at *
  all_goals refine QoO ?_
  all_goals (unfold R_sameIns_lc; refine Q0 ?_; refine Q1 ?_; refine zb hS ?_; intro p2 w1 hS; refine zb hS ?_; intro p3 w1 hS; refine zm ?_; refine zn ?_; refine Q0 ?_; refine Q1 ?_; refine zf0 ?_; refine zl hS ?_; refine zf0 ?_; refine zl hS ?_)
  all_goals (first | (refine Qn ?_) | (refine Qq ?_) | (refine Qg rfl rfl (fun hc => ?_) (fun hc => ?_)))
  all_goals (refine zm ?_; (first | refine zgn ?_ | (refine zgy ?_; refine zf0 ?_)); (first | refine zgn ?_ | (refine zgy ?_; refine zl hS ?_)); (first | refine zgn ?_ | (refine zgy ?_; refine zf0 ?_)); (first | refine zgn ?_ | (refine zgy ?_; refine zl hS ?_)))
  all_goals (first | refine zgn ?_ | (refine zgy ?_; (first | (refine Qn ?_) | (refine Qq ?_) | (refine Qg rfl rfl (fun hc => ?_) (fun hc => ?_)))))
  all_goals ((first | (refine zpt ?_) | (refine zpf ?_)); refine zm ?_; (first | refine zgn ?_ | (refine zgy ?_; refine zf0 ?_)); (first | refine zgn ?_ | (refine zgy ?_; refine zl hS ?_)); (first | refine zgn ?_ | (refine zgy ?_; refine zf0 ?_)); (first | refine zgn ?_ | (refine zgy ?_; refine zl hS ?_)))
  all_goals (first | refine zgn ?_ | (refine zgy ?_; (first | (refine Qn ?_) | (refine Qq ?_) | (refine Qg rfl rfl (fun hc => ?_) (fun hc => ?_)))))
  all_goals ((first | (refine zpt ?_) | (refine zpf ?_)); refine zm ?_; (first | refine zgn ?_ | (refine zgy ?_; refine zf0 ?_)); (first | refine zgn ?_ | (refine zgy ?_; refine zl hS ?_)); (first | refine zgn ?_ | (refine zgy ?_; refine zf0 ?_)); (first | refine zgn ?_ | (refine zgy ?_; refine zl hS ?_)))
  all_goals (first | refine zgn ?_ | (refine zgy ?_; (first | (refine Qn ?_) | (refine Qq ?_) | (refine Qg rfl rfl (fun hc => ?_) (fun hc => ?_)))))
  all_goals ((first | (refine zpt ?_) | (refine zpf ?_)); refine zm ?_; (first | refine zgn ?_ | (refine zgy ?_; refine zf0 ?_)); (first | refine zgn ?_ | (refine zgy ?_; refine zl hS ?_)); (first | refine zgn ?_ | (refine zgy ?_; refine zf0 ?_)); (first | refine zgn ?_ | (refine zgy ?_; refine zl hS ?_)))
  all_goals (first | refine zgn ?_ | (refine zgy ?_; (first | (refine Qn ?_) | (refine Qq ?_) | (refine Qg rfl rfl (fun hc => ?_) (fun hc => ?_)))))
  all_goals ((first | (refine zpt ?_) | (refine zpf ?_)); refine zm ?_; (first | refine zgn ?_ | (refine zgy ?_; refine zf0 ?_)); (first | refine zgn ?_ | (refine zgy ?_; refine zl hS ?_)); (first | refine zgn ?_ | (refine zgy ?_; refine zf0 ?_)); (first | refine zgn ?_ | (refine zgy ?_; refine zl hS ?_)))
  all_goals (first | refine zgn ?_ | (refine zgy ?_; (first | (refine Qn ?_) | (refine Qq ?_) | (refine Qg rfl rfl (fun hc => ?_) (fun hc => ?_)))))
  all_goals ((first | (refine zpt ?_) | (refine zpf ?_)); refine zm ?_; (first | refine zgn ?_ | (refine zgy ?_; refine zf0 ?_)); (first | refine zgn ?_ | (refine zgy ?_; refine zl hS ?_)); (first | refine zgn ?_ | (refine zgy ?_; refine zf0 ?_)); (first | refine zgn ?_ | (refine zgy ?_; refine zl hS ?_)))
  all_goals ((first | (refine zgn ?_) | (refine zgy ?_; refine zR2 (c := QgW h1 h3 hS) (h := ?_); rintro v1 w1 ⟨rfl, hS⟩; (cases hdec : decide (xr = yr)); have hg := of_decide_eq_false hdec; rotate_left; have hg := of_decide_eq_true hdec; all_goals skip)))
  all_goals ((first | (refine zpt ?_) | (refine zpf ?_)); refine zm ?_; (first | refine zgn ?_ | (refine zgy ?_; refine zf0 ?_)); (first | refine zgn ?_ | (refine zgy ?_; refine zl hS ?_)); (first | refine zgn ?_ | (refine zgy ?_; refine zf0 ?_)); (first | refine zgn ?_ | (refine zgy ?_; refine zl hS ?_)); (first | (refine zgn ?_) | (refine zgy ?_; refine zR2 (c := QgW h2 h4 hS) (h := ?_); rintro v1 w1 ⟨rfl, hS⟩)); (first | (refine zpt ?_) | (refine zpf ?_)); refine zm ?_; refine zn ?_; refine zr ?_; refine zf ?_; refine ⟨_, rfl, ?_, hS.sp⟩; (simp [*]); done)
end Go.Proofs.YtjecflbbcnocdaaGreatDoor
namespace Go.Proofs.YtjecflbbcnocdaaGreatDoor
open Go.Lir
set_option maxHeartbeats 1000000
attribute [local irreducible] LC.wp Q2 QA QB retQ Q1e LO.wp Qj Calls
set_option linter.unusedSimpArgs false
set_option linter.unusedVariables false
end Go.Proofs.YtjecflbbcnocdaaGreatDoor
namespace Go.Proofs.YtjecflbbcnocdaaGreatDoor
open Go.Lir
set_option maxHeartbeats 1000000
attribute [local irreducible] LC.wp Q2 QA QB retQ Q1e LO.wp Qj Calls
set_option linter.unusedSimpArgs false
set_option linter.unusedVariables false
variable {cx : Cx} {w : World} {L : List Res} {i : Nat}
abbrev jdg (b : Nat) (vf : Value) (g : Flt) (at' : Int) : Res := blk b 97 [vf, .int .i64 g.1, .int .i64 g.2, .int .i64 at']
theorem Q2H {is : Bool} {c : Int} {vf : Value} {g : Flt} {at' : Int} {b : Nat} (hc0 : is = true → c ≠ 0) (hS : St cx w L) (hi : nth L i = some (jdg b vf g at')) :
    Rets Tryz.prog Q3u [.pointer (some ⟨b, 0, none⟩), .bool is, .int .i64 c] w fun u w' => u = .tuple #[] ∧ St cx w' (L.set i (jdg b vf (orF g (mkF (if is = true then c else 0) at')) at')) := by
  have hS := hS.out hi
  cases is with
  | false =>
    have e : orF g (mkF (if false = true then c else 0) at') = g := Qsw rfl
    rw [e]
    all_goals refine Q3t ?_
    all_goals (unfold code_judge_fail_lc; refine Q0 ?_; refine Q1 ?_; refine zm ?_; refine zm ?_; refine zgn ?_; refine zgn ?_; refine zgn ?_; refine zgn ?_; refine zgn ?_)
    all_goals (refine zgn ?_)
    all_goals ((first | (refine zpt ?_) | (refine zpf ?_)); refine zn ?_)
    all_goals
      first
      | (refine zct ?_ -- Q3u c0
         all_goals (refine Q1 ?_; refine zm ?_; refine zm ?_; refine zm ?_; refine znc ?_; refine zf0 ?_; refine zl hS ?_; refine zb2 [_, _] ?_; refine znc ?_; refine zf0 ?_; refine zsn hS ?_; intro w1 hS; have hS := hS.ns)
         all_goals refine zn ?_)
      | (refine zcf ?_ -- Q3u c0
         all_goals refine zsk ?_)
    all_goals (refine Q3z ?_; exact ⟨_, rfl, rfl, St.back hS hi⟩)
  | true =>
    have hc0 := hc0 rfl
    by_cases h0 : g.1 = 0
    · have e : orF g (mkF (if true = true then c else 0) at') = (c, at') := by rw [if_pos rfl, Qbg hc0]; unfold orF; rw [if_pos ⟨h0, hc0⟩]
      rw [e]
      all_goals refine Q3t ?_
      all_goals (unfold code_judge_fail_lc; refine Q0 ?_; refine Q1 ?_; refine zm ?_; refine zm ?_; (first | refine zgn ?_ | (refine zgy ?_; refine zm ?_)); (first | refine zgn ?_ | (refine zgy ?_; refine znc ?_)); (first | refine zgn ?_ | (refine zgy ?_; refine zf0 ?_)); (first | refine zgn ?_ | (refine zgy ?_; (first | refine zf0 ?_ | refine zfd ?_))); (first | refine zgn ?_ | (refine zgy ?_; refine zl hS ?_)))
      all_goals (first | refine zgn ?_ | (refine zgy ?_; refine Qn ?_))
      all_goals (refine zpt ?_; refine zn ?_)
      all_goals refine zct ?_
      all_goals (refine Q1 ?_; refine zm ?_; refine zm ?_; refine zm ?_; refine znc ?_; refine zf0 ?_; refine zl hS ?_; refine zb2 [_, _] ?_; refine znc ?_; refine zf0 ?_; (first | (refine zsn hS ?_; intro w1 hS; have hS := hS.ns) | (refine zsm hS ?_; intro w1 hS; have hS := hS.ns)); refine zn ?_; refine Q3z ?_; exact ⟨_, rfl, rfl, St.back hS hi⟩)
    · rw [Q6K h0]
      all_goals refine Q3t ?_
      all_goals (unfold code_judge_fail_lc; refine Q0 ?_; refine Q1 ?_; refine zm ?_; refine zm ?_; (first | refine zgn ?_ | (refine zgy ?_; refine zm ?_)); (first | refine zgn ?_ | (refine zgy ?_; refine znc ?_)); (first | refine zgn ?_ | (refine zgy ?_; refine zf0 ?_)); (first | refine zgn ?_ | (refine zgy ?_; (first | refine zf0 ?_ | refine zfd ?_))); (first | refine zgn ?_ | (refine zgy ?_; refine zl hS ?_)))
      all_goals (first | refine zgn ?_ | (refine zgy ?_; (first | (refine Qn ?_) | (refine Qq ?_))))
      all_goals (refine zpt ?_; refine zn ?_)
      all_goals refine zcf ?_
      all_goals (refine zsk ?_; refine Q3z ?_; exact ⟨_, rfl, rfl, St.back hS hi⟩)
theorem uindex_c {s : List UInt8} {c : Nat} {v : Value} (hK : u8R.sl cx v s) (hS : St cx w L) : Rets Tryz.prog Q1N [v, .int .u8 c] w fun u w' => ∃ r : Int, u = .int .i64 r ∧ (0 ≤ r ↔ (s.any fun b => decide (b.toNat = c)) = true) ∧ St cx w' L := by
  have hlen := hK.len
  all_goals refine Q4O ?_
  all_goals (unfold slices_Index_byte_byte_lc; refine Q0 ?_; refine Q1 ?_; refine zm ?_; refine zn ?_; refine Q0 ?_; refine Q0 ?_; refine Q1 ?_; refine zm ?_; refine zL ?_; refine zm ?_; refine zn ?_; refine Qa ?_)
  refine zoL hS [0, 1, 7] (fun A LL ρ' w' => ∃ (j : Nat), Has ρ' A ∧ Has ρ' [(8, .int .i64 j)] ∧ (j ≤ s.length) ∧ ((s.any fun b => decide (b.toNat = c)) = ((s.drop j).any fun b => decide (b.toNat = c))) ∧ St cx w' (LL)) (fun ρ' _ => (s.length - iv (ρ' 8)).toNat) ?_ ?_
  · exact ⟨0, zh, zh, (by omega), by simp, hS.sp⟩
  rintro ρ w1 ⟨j, hA, hρ, hj, hd, hS⟩; obtain ⟨ρ, rfl⟩ := env2 hA hρ
  unfold Q2V
  all_goals (refine Q0 ?_; refine Q1 ?_; refine Q1i rfl rfl ?_; refine zn ?_; refine Q0 ?_)
  refine QM rfl (fun hc => ?_) (fun hc => ?_)
  · skip
    all_goals (refine zsk ?_; refine Q0 ?_; refine Qa ?_; refine Q0 ?_; refine Q1 ?_; refine zm ?_; refine zm ?_; refine zn ?_; refine Q0 ?_; refine Q1 ?_; refine zm ?_; refine zm ?_; refine zm ?_; refine zi ?_; intro b1 o1 cs1 x1 hat1 hx1 he1; (first | (obtain rfl := Qgk he1) | (obtain rfl := u8R_out he1)); (first | (refine zl hS ?_) | (refine zlk hS ?_)))
    all_goals (first | (refine Qn ?_) | (refine Qq ?_) | (refine Qg rfl rfl (fun hc => ?_) (fun hc => ?_)))
    all_goals (refine zn ?_)
    all_goals
      first
      | (refine zct ?_ -- Q1N c1
         all_goals (refine Q0 ?_; refine Q1 ?_; refine zm ?_; refine zm ?_; refine zn ?_; refine zr ?_; refine zf ?_)
         all_goals (exact ⟨_, rfl, j, rfl, by rw [hd, Q4 hx1, List.any_cons, decide_eq_true (by omega), Bool.true_or]; simp, hS.sp⟩))
      | (refine zcf ?_ -- Q1N c1
         all_goals refine zsk ?_)
    all_goals (refine Q1 ?_; refine zad ?_; refine zm ?_; refine zn ?_; exact ⟨⟨j + 1, zh, zh, (by omega), by rw [hd, Q4 hx1, List.any_cons, decide_eq_false (by omega), Bool.false_or], hS.sp⟩, QF (by omega)⟩)
  · skip
    all_goals (refine zex ?_; refine Q0 ?_; refine Q1 ?_; refine zm ?_; refine zn ?_; refine zr ?_; refine zf ?_; (first | (exact ⟨_, rfl, j, rfl, by rw [hd, Q4 hx1, List.any_cons, decide_eq_true (by omega), Bool.true_or]; simp, hS.sp⟩) | (exact ⟨_, rfl, -1, rfl, by rw [hd, List.drop_of_length_le (by omega)]; simp, hS.sp⟩)))
theorem Qpv {s : List UInt8} {c : Nat} {v : Value} (hK : u8R.sl cx v s) (hS : St cx w L) : Rets Tryz.prog Q2W [v, .int .u8 c] w fun u w' => u = .bool (s.any fun b => decide (b.toNat = c)) ∧ St cx w' L := by
  all_goals refine Q46 ?_
  all_goals (unfold slices_Contains_byte_byte_lc; refine Q0 ?_; refine Q1 ?_; refine zm ?_; refine zn ?_; refine Q0 ?_; refine Q1 ?_; refine zm ?_; refine zm ?_; refine zR2 (c := uindex_c hK hS) (h := ?_); rintro v1 w1 ⟨r, rfl, hr, hS⟩)
  all_goals (first | (refine Q5Y ?_) | (refine Q6N ?_) | (refine Q35 rfl rfl (fun hc => ?_) (fun hc => ?_)))
  all_goals (refine zm ?_; refine zn ?_; refine zr ?_; refine zf ?_)
  all_goals (refine ⟨_, rfl, ?_, hS.sp⟩; (cases hb : (s.any fun b => decide (b.toNat = c)) <;> simp_all); done)
theorem Qgo {s : ByteArray} {c : Nat} (hs : s.size ≤ 1000000) (hS : St cx w L) : Rets Tryz.prog QoE [.string s, .int .u8 c] w fun u w' => u = .bool (Q1A s c) ∧ St cx w' L := by
  have hle := St.refl hS
  all_goals refine QoD ?_
  all_goals (unfold code_with_lc; refine Q0 ?_; refine Q1 ?_; refine zm ?_; refine zn ?_; refine Q0 ?_; refine Q1 ?_; refine zm ?_; refine s_bytes (e := 5) (by kernel_rfl) (by kernel_rfl) (by kernel_rfl) hS vw ?_; intro v1 w1 hS; obtain ⟨c1, hle2, hS, hk1⟩ := St.freezeL (r := u8R) hS (u8R_ls _) rfl (by rw [Array.length_toList]; show s.size ≤ 140737488355328; omega); refine zm ?_; refine zR2 (c := Qpv hk1 hS) (h := ?_); rintro v1 w1 ⟨rfl, hS⟩; refine zm ?_; refine zn ?_; refine zr ?_; refine zf ?_; exact ⟨_, rfl, rfl, St.weak hS.sp hle2⟩)
theorem has_c {op : Int} (hS : St cx w L) : Rets Tryz.prog Qs8 [.int .i64 op] w fun u w' => u = .string (hasF op) ∧ St cx w' L := by
  by_cases hb : op < 1 ∨ 14 < op
  · have e : hasF op = ⟨#[]⟩ := by unfold hasF; rw [if_pos hb]
    rw [e]
    all_goals refine Qhi ?_
    all_goals (unfold code_has_lc; refine Q0 ?_; refine Q1 ?_; refine zm ?_; refine zn ?_; refine Q0 ?_; refine Q0 ?_; refine Q1 ?_; refine zm ?_)
    all_goals (first | (refine Q1b ?_) | (refine Q1z ?_) | (refine QH rfl rfl (fun hc => ?_) (fun hc => ?_)))
    all_goals (refine zm ?_; (first | refine zgn ?_ | (refine zgy ?_; refine zm ?_)))
    all_goals (first | refine zgn ?_ | (refine zgy ?_; refine QD ?_))
    all_goals ((first | (refine zpt ?_) | (refine zpf ?_)); refine zn ?_)
    all_goals refine zct ?_
    all_goals (refine Q0 ?_; refine Q1 ?_; refine zm ?_; refine zn ?_; refine zr ?_; refine zf ?_; refine ⟨_, rfl, ?_, hS.sp⟩; (rfl); done)
  · have hu : (hasTab.map Value.string)[op.toNat]? = some (.string (hasF op)) := by
      rcases op_cases (op := op) (by omega) (by omega) with rfl | rfl | rfl | rfl | rfl | rfl | rfl | rfl | rfl | rfl | rfl | rfl | rfl | rfl <;> rfl
    generalize hasF op = s at hu ⊢
    all_goals refine Qhi ?_
    all_goals (unfold code_has_lc; refine Q0 ?_; refine Q1 ?_; refine zm ?_; refine zn ?_; refine Q0 ?_; refine Q0 ?_; refine Q1 ?_; refine zm ?_)
    all_goals (first | (refine Q1b ?_) | (refine Q1z ?_))
    all_goals (refine zm ?_; (first | refine zgn ?_ | (refine zgy ?_; refine zm ?_)))
    all_goals (first | refine zgn ?_ | (refine zgy ?_; (first | (refine QD ?_) | (refine QR ?_))))
    all_goals ((first | (refine zpt ?_) | (refine zpf ?_)); refine zn ?_)
    all_goals refine zcf ?_
    all_goals (refine zsk ?_; refine Q0 ?_; refine Q1 ?_; refine QgU (cs := [_, _, _, _, _, _, _, _, _, _, _, _, _, _, _]) vw vw vw vw vw vw vw vw vw vw vw vw vw vw vw (by rfl) ?_; refine zm ?_; refine Qo4 (n := 15) (e := 9) (by kernel_rfl) (by kernel_rfl) (by kernel_rfl) vw vw (by omega) (by omega) hu ?_; refine zm ?_; refine zn ?_; refine zr ?_; refine zf ?_; refine ⟨_, rfl, ?_, hS.sp⟩; (rfl); done)
theorem Quw (op : Int) : (hasF op).size ≤ 1000000 := by
  by_cases hb : op < 1 ∨ 14 < op
  · unfold hasF; rw [if_pos hb]; decide
  · rcases op_cases (op := op) (by omega) (by omega) with rfl | rfl | rfl | rfl | rfl | rfl | rfl | rfl | rfl | rfl | rfl | rfl | rfl | rfl <;> decide
theorem ins_end {g : Flt} {at' : Int} {n : Nat} {x : Ins} {q : Bool} {c3 : Int} (hq : q = true ↔ (((((((Q1A (hasF x.op) 97 = false ∧ x.a ≠ 0) ∨ (Q1A (hasF x.op) 98 = false ∧ x.b ≠ 0)) ∨ (Q1A (hasF x.op) 99 = false ∧ x.c ≠ 0)) ∨ (Q1A (hasF x.op) 107 = false ∧ x.k ≠ 0)) ∨ (Q1A (hasF x.op) 110 = false ∧ x.n ≠ 0)) ∨ (Q1A (hasF x.op) 103 = false ∧ 0 < x.regs.length)) ∨ (Q1A (hasF x.op) 114 = false ∧ 0 < x.args.length))) (h3 : c3 = Q2w n x) :
    orF (orF (orF g (mkF (if x.op < 1 ∨ 14 < x.op then 3 else 0) at')) (mkF (if q = true then 4 else 0) at')) (mkF c3 at') = orF g (mkF (Q3s n x) at') := by
  rw [Q3n, Q3n]
  congr 2
  subst h3
  unfold Q3s
  by_cases hb : x.op < 1 ∨ 14 < x.op
  · rw [if_pos hb, if_pos hb]; rfl
  · rw [if_neg hb, if_neg hb]
    obtain ⟨h1, h2, h3, h4, h5, h6, h7⟩ := with_all x.op hb
    rw [h1, h2, h3, h4, h5, h6, h7] at hq
    simp only [or_assoc] at hq
    by_cases ho : x.odd
    · rw [if_pos ho, if_pos (hq.2 ho)]; rfl
    · rw [if_neg ho, if_neg fun h => ho (hq.1 h)]; rfl
theorem Q7K {a b : Int} (h : a ≠ 0) : orC a b = a := if_pos h
theorem Q6L (b : Int) : orC 0 b = b := rfl
section
attribute [local irreducible] orF mkF orC Q2w Q3s Q2U Q3Y
set_option maxHeartbeats 1000000 in
theorem ins_c {x : Ins} {n : List Fun} {vf : Value} {g : Flt} {at' : Int} {b : Nat} {cs : List Value} (hx : insR.at cx cs x) (hf : funcR.sl cx vf n) (hS : St cx w L) (hi : nth L i = some (jdg b vf g at')) :
    Rets Tryz.prog QQ [.pointer (some ⟨b, 0, none⟩), .agg ⟨cs⟩] w fun u w' => u = .tuple #[] ∧ St cx w' (L.set i (jdg b vf (orF g (mkF (Q3s n.length x) at')) at')) := by
  have hS := hS.out hi
  obtain ⟨vr, va, rfl, hr, ha⟩ := Q3M hx
  have hlr := hr.len
  have hla := ha.len
  have hln := hf.len
  have hsz := Quw x.op
  all_goals refine Qd5 ?_
  all_goals (unfold code_judge_ins_lc; refine Q0 ?_; refine Q1 ?_; refine zb hS ?_; intro p3 w1 hS; refine zn ?_)
  refine zM [0, 3] (fun A ρ' w' => Has ρ' A ∧ Has ρ' [] ∧ St cx w' (blk p3 54 [.int .i64 x.op, .int .i64 x.a, .int .i64 x.b, .int .i64 x.c, .int .i64 x.k, .int .i64 x.n, vr, va] :: jdg b vf (orF g (mkF (if x.op < 1 ∨ 14 < x.op then 3 else 0) at')) at' :: L.eraseIdx i)) ?_ ?_
  · skip
    all_goals (refine Q1 ?_; refine zm ?_; refine zf0 ?_; refine zl hS ?_)
    all_goals (first | (refine Q1b ?_) | (refine Q1z ?_) | (refine QH rfl rfl (fun hc => ?_) (fun hc => ?_)))
    all_goals (refine zm ?_; (first | refine zgn ?_ | (refine zgy ?_; refine zf0 ?_)); (first | refine zgn ?_ | (refine zgy ?_; refine zl hS ?_)))
    all_goals (first | refine zgn ?_ | (refine zgy ?_; (first | (refine QD ?_) | (refine QR ?_) | (refine Qr rfl rfl (fun hc => ?_) (fun hc => ?_)))))
    all_goals ((first | (refine zpt ?_) | (refine zpf ?_)); refine zR3 (c := Q2H (by intro _; decide) hS fd) (h := ?_); rintro v1 w1 ⟨rfl, hS⟩; simp only [List.set_cons_zero, List.set_cons_succ, if_true, Bool.false_eq_true, if_false] at hS; refine zn ?_; exact ⟨zh, zh, by first | (rw [if_pos (by omega)]; exact hS.sp) | (rw [if_neg (by omega)]; exact hS.sp)⟩)
  rintro ρ w1 ⟨hA, hρ, hS⟩; obtain ⟨ρ, rfl⟩ := env2 hA hρ
  all_goals (refine Q0 ?_; refine Q1 ?_; refine zf0 ?_; refine zl hS ?_; refine zR1 (c := has_c hS) (h := ?_); rintro v1 w1 ⟨rfl, hS⟩; refine zm ?_; refine zn ?_; generalize hh : hasF x.op = h at *; refine Q0 ?_; refine Q1 ?_)
  refine zKL hS 9 [0, 3, 4] (fun A LL ρ' w' => ∃ (q1 : Bool), Has ρ' A ∧ Has ρ' [(18, .pointer (some ⟨b, 0, none⟩)), (26, .bool q1)] ∧ (q1 = true ↔ (Q1A h 97 = false ∧ x.a ≠ 0)) ∧ St cx w' (LL)) ?_ ?_
  · skip
    all_goals (refine zm ?_; refine zm ?_; refine zR2 (c := Qgo hsz hS) (h := ?_); rintro v1 w1 ⟨rfl, hS⟩)
    all_goals (cases ha1 : Q1A h 97)
    all_goals (refine znt ?_; refine zm ?_; (first | refine zgn ?_ | (refine zgy ?_; refine zf0 ?_)); (first | refine zgn ?_ | (refine zgy ?_; refine zl hS ?_)))
    all_goals (first | refine zgn ?_ | (refine zgy ?_; (first | (refine Q1h ?_) | (refine Q1j ?_) | (refine Qv rfl rfl (fun hc => ?_) (fun hc => ?_)))))
    all_goals ((first | (refine zpt ?_) | (refine zpf ?_)); refine Q5B ?_; refine Q2r ?_)
    all_goals (first | (exact ⟨_, zh, zh, by exact ⟨fun _ => ⟨(by first | rfl | assumption), by omega⟩, fun _ => rfl⟩, hS.sp⟩) | (exact ⟨_, zh, zh, by exact ⟨fun h => Bool.noConfusion h, fun h => by obtain ⟨h1, h2⟩ := h; first | (exfalso; omega) | (simp_all; done)⟩, hS.sp⟩))
  rintro ρ w1 ⟨q1, hA, hρ, hq1, hS⟩; obtain ⟨ρ, rfl⟩ := env2 hA hρ
  refine zKL hS 10 [0, 3, 4, 18] (fun A LL ρ' w' => ∃ (q2 : Bool), Has ρ' A ∧ Has ρ' [(36, .bool q2)] ∧ (q2 = true ↔ ((Q1A h 97 = false ∧ x.a ≠ 0) ∨ (Q1A h 98 = false ∧ x.b ≠ 0))) ∧ St cx w' (LL)) ?_ ?_
  · skip
    all_goals (cases q1)
    all_goals (refine zm ?_; (first | refine zgn ?_ | (refine zgy ?_; refine zm ?_)); (first | refine zgn ?_ | (refine zgy ?_; refine zR2 (c := Qgo hsz hS) (h := ?_); rintro v1 w1 ⟨rfl, hS⟩)))
    all_goals (cases ha2 : Q1A h 98)
    all_goals ((first | refine zgn ?_ | (refine zgy ?_; refine znt ?_)); (first | refine zgn ?_ | (refine zgy ?_; refine zm ?_)); (first | refine zgn ?_ | (refine zgy ?_; refine zf0 ?_)); (first | refine zgn ?_ | (refine zgy ?_; refine zl hS ?_)))
    all_goals (first | refine zgn ?_ | (refine zgy ?_; (first | (refine Q1h ?_) | (refine Q1j ?_) | (refine Qv rfl rfl (fun hc => ?_) (fun hc => ?_)))))
    all_goals ((first | refine zgn ?_ | (refine zgy ?_; (first | (refine zpt ?_) | (refine zpf ?_)))); (first | (refine zpt ?_) | (refine zpf ?_)); refine Q5B ?_; refine Q2r ?_)
    all_goals (first | (exact ⟨_, zh, zh, by exact ⟨fun _ => .inl (hq1.1 rfl), fun _ => rfl⟩, hS.sp⟩) | (exact ⟨_, zh, zh, by exact ⟨fun _ => .inr ⟨(by first | rfl | assumption), by omega⟩, fun _ => rfl⟩, hS.sp⟩) | (exact ⟨_, zh, zh, by exact ⟨fun h => Bool.noConfusion h, fun h => h.elim (fun h => hq1.2 h) (fun h => by obtain ⟨h1, h2⟩ := h; first | (exfalso; omega) | (simp_all; done))⟩, hS.sp⟩))
  rintro ρ w1 ⟨q2, hA, hρ, hq2, hS⟩; obtain ⟨ρ, rfl⟩ := env2 hA hρ
  refine zKL hS 10 [0, 3, 4, 18] (fun A LL ρ' w' => ∃ (q3 : Bool), Has ρ' A ∧ Has ρ' [(46, .bool q3)] ∧ (q3 = true ↔ (((Q1A h 97 = false ∧ x.a ≠ 0) ∨ (Q1A h 98 = false ∧ x.b ≠ 0)) ∨ (Q1A h 99 = false ∧ x.c ≠ 0))) ∧ St cx w' (LL)) ?_ ?_
  · skip
    all_goals (cases q2)
    all_goals (refine zm ?_; (first | refine zgn ?_ | (refine zgy ?_; refine zm ?_)); (first | refine zgn ?_ | (refine zgy ?_; refine zR2 (c := Qgo hsz hS) (h := ?_); rintro v1 w1 ⟨rfl, hS⟩)))
    all_goals (cases ha3 : Q1A h 99)
    all_goals ((first | refine zgn ?_ | (refine zgy ?_; refine znt ?_)); (first | refine zgn ?_ | (refine zgy ?_; refine zm ?_)); (first | refine zgn ?_ | (refine zgy ?_; refine zf0 ?_)); (first | refine zgn ?_ | (refine zgy ?_; refine zl hS ?_)))
    all_goals (first | refine zgn ?_ | (refine zgy ?_; (first | (refine Q1h ?_) | (refine Q1j ?_) | (refine Qv rfl rfl (fun hc => ?_) (fun hc => ?_)))))
    all_goals ((first | refine zgn ?_ | (refine zgy ?_; (first | (refine zpt ?_) | (refine zpf ?_)))); (first | (refine zpt ?_) | (refine zpf ?_)); refine Q5B ?_; refine Q2r ?_)
    all_goals (first | (exact ⟨_, zh, zh, by exact ⟨fun _ => .inl (hq2.1 rfl), fun _ => rfl⟩, hS.sp⟩) | (exact ⟨_, zh, zh, by exact ⟨fun _ => .inr ⟨(by first | rfl | assumption), by omega⟩, fun _ => rfl⟩, hS.sp⟩) | (exact ⟨_, zh, zh, by exact ⟨fun h => Bool.noConfusion h, fun h => h.elim (fun h => hq2.2 h) (fun h => by obtain ⟨h1, h2⟩ := h; first | (exfalso; omega) | (simp_all; done))⟩, hS.sp⟩))
  rintro ρ w1 ⟨q3, hA, hρ, hq3, hS⟩; obtain ⟨ρ, rfl⟩ := env2 hA hρ
  refine zKL hS 10 [0, 3, 4, 18] (fun A LL ρ' w' => ∃ (q4 : Bool), Has ρ' A ∧ Has ρ' [(56, .bool q4)] ∧ (q4 = true ↔ ((((Q1A h 97 = false ∧ x.a ≠ 0) ∨ (Q1A h 98 = false ∧ x.b ≠ 0)) ∨ (Q1A h 99 = false ∧ x.c ≠ 0)) ∨ (Q1A h 107 = false ∧ x.k ≠ 0))) ∧ St cx w' (LL)) ?_ ?_
  · skip
    all_goals (cases q3)
    all_goals (refine zm ?_; (first | refine zgn ?_ | (refine zgy ?_; refine zm ?_)); (first | refine zgn ?_ | (refine zgy ?_; refine zR2 (c := Qgo hsz hS) (h := ?_); rintro v1 w1 ⟨rfl, hS⟩)))
    all_goals (cases ha4 : Q1A h 107)
    all_goals ((first | refine zgn ?_ | (refine zgy ?_; refine znt ?_)); (first | refine zgn ?_ | (refine zgy ?_; refine zm ?_)); (first | refine zgn ?_ | (refine zgy ?_; refine zf0 ?_)); (first | refine zgn ?_ | (refine zgy ?_; refine zl hS ?_)))
    all_goals (first | refine zgn ?_ | (refine zgy ?_; (first | (refine Q1h ?_) | (refine Q1j ?_) | (refine Qv rfl rfl (fun hc => ?_) (fun hc => ?_)))))
    all_goals ((first | refine zgn ?_ | (refine zgy ?_; (first | (refine zpt ?_) | (refine zpf ?_)))); (first | (refine zpt ?_) | (refine zpf ?_)); refine Q5B ?_; refine Q2r ?_)
    all_goals (first | (exact ⟨_, zh, zh, by exact ⟨fun _ => .inl (hq3.1 rfl), fun _ => rfl⟩, hS.sp⟩) | (exact ⟨_, zh, zh, by exact ⟨fun _ => .inr ⟨(by first | rfl | assumption), by omega⟩, fun _ => rfl⟩, hS.sp⟩) | (exact ⟨_, zh, zh, by exact ⟨fun h => Bool.noConfusion h, fun h => h.elim (fun h => hq3.2 h) (fun h => by obtain ⟨h1, h2⟩ := h; first | (exfalso; omega) | (simp_all; done))⟩, hS.sp⟩))
  rintro ρ w1 ⟨q4, hA, hρ, hq4, hS⟩; obtain ⟨ρ, rfl⟩ := env2 hA hρ
  refine zKL hS 10 [0, 3, 4, 18] (fun A LL ρ' w' => ∃ (q5 : Bool), Has ρ' A ∧ Has ρ' [(66, .bool q5)] ∧ (q5 = true ↔ (((((Q1A h 97 = false ∧ x.a ≠ 0) ∨ (Q1A h 98 = false ∧ x.b ≠ 0)) ∨ (Q1A h 99 = false ∧ x.c ≠ 0)) ∨ (Q1A h 107 = false ∧ x.k ≠ 0)) ∨ (Q1A h 110 = false ∧ x.n ≠ 0))) ∧ St cx w' (LL)) ?_ ?_
  · skip
    all_goals (cases q4)
    all_goals (refine zm ?_; (first | refine zgn ?_ | (refine zgy ?_; refine zm ?_)); (first | refine zgn ?_ | (refine zgy ?_; refine zR2 (c := Qgo hsz hS) (h := ?_); rintro v1 w1 ⟨rfl, hS⟩)))
    all_goals (cases ha5 : Q1A h 110)
    all_goals ((first | refine zgn ?_ | (refine zgy ?_; refine znt ?_)); (first | refine zgn ?_ | (refine zgy ?_; refine zm ?_)); (first | refine zgn ?_ | (refine zgy ?_; refine zf0 ?_)); (first | refine zgn ?_ | (refine zgy ?_; refine zl hS ?_)))
    all_goals (first | refine zgn ?_ | (refine zgy ?_; (first | (refine Q1h ?_) | (refine Q1j ?_) | (refine Qv rfl rfl (fun hc => ?_) (fun hc => ?_)))))
    all_goals ((first | refine zgn ?_ | (refine zgy ?_; (first | (refine zpt ?_) | (refine zpf ?_)))); (first | (refine zpt ?_) | (refine zpf ?_)); refine Q5B ?_; refine Q2r ?_)
    all_goals (first | (exact ⟨_, zh, zh, by exact ⟨fun _ => .inl (hq4.1 rfl), fun _ => rfl⟩, hS.sp⟩) | (exact ⟨_, zh, zh, by exact ⟨fun _ => .inr ⟨(by first | rfl | assumption), by omega⟩, fun _ => rfl⟩, hS.sp⟩) | (exact ⟨_, zh, zh, by exact ⟨fun h => Bool.noConfusion h, fun h => h.elim (fun h => hq4.2 h) (fun h => by obtain ⟨h1, h2⟩ := h; first | (exfalso; omega) | (simp_all; done))⟩, hS.sp⟩))
  rintro ρ w1 ⟨q5, hA, hρ, hq5, hS⟩; obtain ⟨ρ, rfl⟩ := env2 hA hρ
  refine zKL hS 11 [0, 3, 4, 18] (fun A LL ρ' w' => ∃ (q6 : Bool), Has ρ' A ∧ Has ρ' [(77, .bool q6)] ∧ (q6 = true ↔ ((((((Q1A h 97 = false ∧ x.a ≠ 0) ∨ (Q1A h 98 = false ∧ x.b ≠ 0)) ∨ (Q1A h 99 = false ∧ x.c ≠ 0)) ∨ (Q1A h 107 = false ∧ x.k ≠ 0)) ∨ (Q1A h 110 = false ∧ x.n ≠ 0)) ∨ (Q1A h 103 = false ∧ 0 < x.regs.length))) ∧ St cx w' (LL)) ?_ ?_
  · skip
    all_goals (cases q5)
    all_goals (refine zm ?_; (first | refine zgn ?_ | (refine zgy ?_; refine zm ?_)); (first | refine zgn ?_ | (refine zgy ?_; refine zR2 (c := Qgo hsz hS) (h := ?_); rintro v1 w1 ⟨rfl, hS⟩)))
    all_goals (cases ha6 : Q1A h 103)
    all_goals ((first | refine zgn ?_ | (refine zgy ?_; refine znt ?_)); (first | refine zgn ?_ | (refine zgy ?_; refine zm ?_)); (first | refine zgn ?_ | (refine zgy ?_; refine zf0 ?_)); (first | refine zgn ?_ | (refine zgy ?_; refine zl hS ?_)); (first | refine zgn ?_ | (refine zgy ?_; refine zL ?_)))
    all_goals (first | refine zgn ?_ | (refine zgy ?_; (first | (refine QD ?_) | (refine QR ?_) | (refine Qr rfl rfl (fun hc => ?_) (fun hc => ?_)))))
    all_goals ((first | refine zgn ?_ | (refine zgy ?_; (first | (refine zpt ?_) | (refine zpf ?_)))); (first | (refine zpt ?_) | (refine zpf ?_)); refine Q5B ?_; refine Q2r ?_)
    all_goals (first | (exact ⟨_, zh, zh, by exact ⟨fun _ => .inl (hq5.1 rfl), fun _ => rfl⟩, hS.sp⟩) | (exact ⟨_, zh, zh, by exact ⟨fun _ => .inr ⟨(by first | rfl | assumption), by omega⟩, fun _ => rfl⟩, hS.sp⟩) | (exact ⟨_, zh, zh, by exact ⟨fun h => Bool.noConfusion h, fun h => h.elim (fun h => hq5.2 h) (fun h => by obtain ⟨h1, h2⟩ := h; first | (exfalso; omega) | (simp_all; done))⟩, hS.sp⟩))
  rintro ρ w1 ⟨q6, hA, hρ, hq6, hS⟩; obtain ⟨ρ, rfl⟩ := env2 hA hρ
  refine zKL hS 11 [0, 3, 18] (fun A LL ρ' w' => ∃ (q7 : Bool), Has ρ' A ∧ Has ρ' [(88, .bool q7)] ∧ (q7 = true ↔ (((((((Q1A h 97 = false ∧ x.a ≠ 0) ∨ (Q1A h 98 = false ∧ x.b ≠ 0)) ∨ (Q1A h 99 = false ∧ x.c ≠ 0)) ∨ (Q1A h 107 = false ∧ x.k ≠ 0)) ∨ (Q1A h 110 = false ∧ x.n ≠ 0)) ∨ (Q1A h 103 = false ∧ 0 < x.regs.length)) ∨ (Q1A h 114 = false ∧ 0 < x.args.length))) ∧ St cx w' (LL)) ?_ ?_
  · skip
    all_goals (cases q6)
    all_goals (refine zm ?_; (first | refine zgn ?_ | (refine zgy ?_; refine zm ?_)); (first | refine zgn ?_ | (refine zgy ?_; refine zR2 (c := Qgo hsz hS) (h := ?_); rintro v1 w1 ⟨rfl, hS⟩)))
    all_goals (cases ha7 : Q1A h 114)
    all_goals ((first | refine zgn ?_ | (refine zgy ?_; refine znt ?_)); (first | refine zgn ?_ | (refine zgy ?_; refine zm ?_)); (first | refine zgn ?_ | (refine zgy ?_; refine zf0 ?_)); (first | refine zgn ?_ | (refine zgy ?_; refine zl hS ?_)); (first | refine zgn ?_ | (refine zgy ?_; refine zL ?_)))
    all_goals (first | refine zgn ?_ | (refine zgy ?_; (first | (refine QD ?_) | (refine QR ?_) | (refine Qr rfl rfl (fun hc => ?_) (fun hc => ?_)))))
    all_goals ((first | refine zgn ?_ | (refine zgy ?_; (first | (refine zpt ?_) | (refine zpf ?_)))); (first | (refine zpt ?_) | (refine zpf ?_)); refine Q5B ?_; refine Q2r ?_)
    all_goals (first | (exact ⟨_, zh, zh, by exact ⟨fun _ => .inl (hq6.1 rfl), fun _ => rfl⟩, hS.sp⟩) | (exact ⟨_, zh, zh, by exact ⟨fun _ => .inr ⟨(by first | rfl | assumption), by omega⟩, fun _ => rfl⟩, hS.sp⟩) | (exact ⟨_, zh, zh, by exact ⟨fun h => Bool.noConfusion h, fun h => h.elim (fun h => hq6.2 h) (fun h => by obtain ⟨h1, h2⟩ := h; first | (exfalso; omega) | (simp_all; done))⟩, hS.sp⟩))
  rintro ρ w1 ⟨q7, hA, hρ, hq7, hS⟩; obtain ⟨ρ, rfl⟩ := env2 hA hρ
  all_goals (refine zR3 (c := Q2H (by intro _; decide) hS fd) (h := ?_); rintro v1 w1 ⟨rfl, hS⟩; simp only [List.set_cons_zero, List.set_cons_succ, if_true, Bool.false_eq_true, if_false] at hS; refine zn ?_; refine Q0 ?_; clear hq1 hq2 hq3 hq4 hq5 hq6; have hq := hq7; clear hq7; refine Q1 ?_; refine zf0 ?_; refine zl hS ?_; refine zn ?_; refine Qa ?_; refine Q0 ?_; refine Q1 ?_)
  all_goals (first | (refine Qn ?_) | (refine Qq ?_) | (refine Qg rfl rfl (fun hc => ?_) (fun hc => ?_)))
  all_goals (refine zm ?_; refine zn ?_)
  all_goals
    first
    | (refine zct ?_ -- QQ c0
       all_goals (refine Q1 ?_; refine zm ?_; refine zf0 ?_; refine zl hS ?_)
       all_goals (first | (refine Q1b ?_) | (refine Q1z ?_) | (refine QH rfl rfl (fun hc => ?_) (fun hc => ?_)))
       all_goals (refine zm ?_; (first | refine zgn ?_ | (refine zgy ?_; refine zf0 ?_)); (first | refine zgn ?_ | (refine zgy ?_; refine zl hS ?_)))
       all_goals (first | refine zgn ?_ | (refine zgy ?_; (first | (refine QD ?_) | (refine QR ?_) | (refine Qr rfl rfl (fun hc => ?_) (fun hc => ?_)))))
       all_goals ((first | (refine zpt ?_) | (refine zpf ?_)); refine zR3 (c := Q2H (by intro _; decide) hS fd) (h := ?_); rintro v1 w1 ⟨rfl, hS⟩; simp only [List.set_cons_zero, List.set_cons_succ, if_true, Bool.false_eq_true, if_false] at hS)
       all_goals refine zn ?_)
    | (refine zcf ?_ -- QQ c0
       all_goals (refine Q0 ?_; refine Q1 ?_)
       all_goals (first | (refine Qn ?_) | (refine Qq ?_) | (refine Qg rfl rfl (fun hc => ?_) (fun hc => ?_)))
       all_goals (refine zm ?_; refine zn ?_)
       all_goals
         first
         | (refine zct ?_ -- QQ c1
            all_goals (refine Q1 ?_; refine zm ?_; refine zf0 ?_; refine zl hS ?_; refine zL ?_)
            all_goals (first | (refine QD ?_) | (refine QR ?_) | (refine Qr rfl rfl (fun hc => ?_) (fun hc => ?_)))
            all_goals (refine zR3 (c := Q2H (by intro _; decide) hS fd) (h := ?_); rintro v1 w1 ⟨rfl, hS⟩; simp only [List.set_cons_zero, List.set_cons_succ, if_true, Bool.false_eq_true, if_false] at hS)
            all_goals refine zn ?_)
         | (refine zcf ?_ -- QQ c1
            all_goals (refine Q0 ?_; refine Q0 ?_; refine Q1 ?_)
            all_goals (first | (refine Qn ?_) | (refine Qq ?_) | (refine Qg rfl rfl (fun hc => ?_) (fun hc => ?_)))
            all_goals (refine zm ?_; refine zn ?_)
            all_goals
              first
              | (refine zct ?_ -- QQ c2
                 all_goals refine zsk ?_)
              | (refine zcf ?_ -- QQ c2
                 all_goals (refine Q1 ?_)
                 all_goals (first | (refine Qn ?_) | (refine Qq ?_) | (refine Qg rfl rfl (fun hc => ?_) (fun hc => ?_)))
                 all_goals (refine zm ?_)
                 all_goals refine zn ?_)
            all_goals
              first
              | (refine zct ?_ -- QQ c3
                 all_goals (refine Q1 ?_; refine zm ?_; refine zf0 ?_; refine zl hS ?_)
                 all_goals (first | (refine Q1b ?_) | (refine Q1z ?_) | (refine QH rfl rfl (fun hc => ?_) (fun hc => ?_)))
                 all_goals (refine zm ?_; (first | refine zgn ?_ | (refine zgy ?_; refine zf0 ?_)); (first | refine zgn ?_ | (refine zgy ?_; refine zl hS ?_)))
                 all_goals (first | refine zgn ?_ | (refine zgy ?_; (first | (refine Q5Y ?_) | (refine Q6N ?_) | (refine Q35 rfl rfl (fun hc => ?_) (fun hc => ?_)))))
                 all_goals ((first | (refine zpt ?_) | (refine zpf ?_)); refine zR3 (c := Q2H (by intro _; decide) hS fd) (h := ?_); rintro v1 w1 ⟨rfl, hS⟩; simp only [List.set_cons_zero, List.set_cons_succ, if_true, Bool.false_eq_true, if_false] at hS)
                 all_goals refine zn ?_)
              | (refine zcf ?_ -- QQ c3
                 all_goals (refine Q0 ?_; refine Q1 ?_)
                 all_goals (first | (refine Qn ?_) | (refine Qq ?_) | (refine Qg rfl rfl (fun hc => ?_) (fun hc => ?_)))
                 all_goals (refine zm ?_; refine zn ?_)
                 all_goals
                   first
                   | (refine zct ?_ -- QQ c4
                      all_goals (refine Q0 ?_; refine zD [(0, none), (1, none), (2, none), (3, none), (4, none), (5, none), (6, none), (7, none), (8, none), (9, none), (10, none), (11, none), (12, none), (13, none), (14, none), (15, some none)] ?_; have hS := hS.drew; refine zm ?_; refine zf0 ?_; refine zl hS ?_)
                      all_goals (first | (refine Q1b ?_) | (refine Q1z ?_) | (refine QH rfl rfl (fun hc => ?_) (fun hc => ?_)))
                      all_goals (refine zm ?_; (first | refine zgn ?_ | (refine zgy ?_; refine zf0 ?_)); (first | refine zgn ?_ | (refine zgy ?_; refine zl hS ?_)); (first | refine zgn ?_ | (refine zgy ?_; refine zm ?_)); (first | refine zgn ?_ | (refine zgy ?_; refine znc ?_)); (first | refine zgn ?_ | (refine zgy ?_; refine zf0 ?_)); (first | refine zgn ?_ | (refine zgy ?_; refine zf0 ?_)); (first | refine zgn ?_ | (refine zgy ?_; refine zl hS ?_)); (first | refine zgn ?_ | (refine zgy ?_; refine zL ?_)))
                      all_goals (first | refine zgn ?_ | (refine zgy ?_; (first | (refine Q5Y ?_) | (refine Q6N ?_) | (refine Q35 rfl rfl (fun hc => ?_) (fun hc => ?_)))))
                      all_goals ((first | (refine zpt ?_) | (refine zpf ?_)); refine zR3 (c := Q2H (by intro _; decide) hS fd) (h := ?_); rintro v1 w1 ⟨rfl, hS⟩; simp only [List.set_cons_zero, List.set_cons_succ, if_true, Bool.false_eq_true, if_false] at hS; refine zn ?_; refine Q1 ?_; refine zm ?_; refine zf0 ?_; refine zl hS ?_; refine zL ?_)
                      all_goals (first | (refine QD ?_) | (refine QR ?_) | (refine Qr rfl rfl (fun hc => ?_) (fun hc => ?_)))
                      all_goals (refine zm ?_; (first | refine zgn ?_ | (refine zgy ?_; refine zf0 ?_)); (first | refine zgn ?_ | (refine zgy ?_; refine zl hS ?_)); (first | refine zgn ?_ | (refine zgy ?_; refine zL ?_)))
                      all_goals (first | refine zgn ?_ | (refine zgy ?_; (first | (refine QD ?_) | (refine QR ?_) | (refine Qr rfl rfl (fun hc => ?_) (fun hc => ?_)))))
                      all_goals ((first | (refine zpt ?_) | (refine zpf ?_)); refine zR3 (c := Q2H (by intro _; decide) hS fd) (h := ?_); rintro v1 w1 ⟨rfl, hS⟩; simp only [List.set_cons_zero, List.set_cons_succ, if_true, Bool.false_eq_true, if_false] at hS)
                      all_goals refine zn ?_)
                   | (refine zcf ?_ -- QQ c4
                      all_goals refine zsk ?_))))
  all_goals (refine Q3z ?_; refine ⟨_, rfl, rfl, ?_⟩; subst hh; rw [← ins_end (c3 := Q2w n.length x) hq rfl]; clear hq hx hr ha hf hsz; have hS := hS.drop; refine St.back ?_ hi; first | (rw [show Q2w n.length x = 0 from (by unfold Q2w; (repeat (first | rw [if_pos (by omega)] | rw [if_neg (by omega)])))]; first | (rw [Q2p, Qsw rfl]; exact hS) | exact hS | (rw [Q3n, Q6L] at hS; exact hS)) | (rw [show Q2w n.length x = 1 from (by unfold Q2w; (repeat (first | rw [if_pos (by omega)] | rw [if_neg (by omega)])))]; first | exact hS | (rw [Q3n, Q7K (by decide)] at hS; exact hS)) | (rw [show Q2w n.length x = 2 from (by unfold Q2w; (repeat (first | rw [if_pos (by omega)] | rw [if_neg (by omega)])))]; first | exact hS | (rw [Q3n, Q6L] at hS; exact hS)) | (trace_state; fail "end"))
theorem to_c {x : Fun} {t : To} {is : Bool} {vf : Value} {g : Flt} {at' : Int} {b : Nat} {cs ds : List Value} (hx : funcR.at cx cs x) (ht : toR.at cx ds t) (hS : St cx w L) (hi : nth L i = some (jdg b vf g at')) :
    Rets Tryz.prog Qbm [.pointer (some ⟨b, 0, none⟩), .agg ⟨cs⟩, .agg ⟨ds⟩, .bool is] w fun u w' => u = .tuple #[] ∧ St cx w' (L.set i (jdg b vf (orF g (mkF (Q2U x.blocks.length t is) at')) at')) := by
  have hS := hS.out hi
  obtain ⟨vp, vr, vb, rfl, hp, hr, hb⟩ := Q1L hx
  obtain ⟨v1, v2, rfl, h1, h2⟩ := Q4F ht
  have hlb := hb.len
  have hl1 := h1.len
  have hl2 := h2.len
  cases is with
  | false =>
    all_goals refine Q5U ?_
    all_goals (unfold code_judge_to_lc; refine Q0 ?_; refine Q1 ?_; refine zb hS ?_; intro p5 w1 hS; refine zb hS ?_; intro p6 w1 hS; refine zn ?_; refine Q0 ?_; refine Q0 ?_; refine Q1 ?_; refine zm ?_; refine znt ?_; refine zn ?_)
    all_goals refine zct ?_
    all_goals (refine Q0 ?_; refine Q1 ?_; refine zm ?_; refine zf0 ?_; refine zl hS ?_)
    all_goals (first | (refine Q1h ?_) | (refine Q1j ?_) | (refine Qv rfl rfl (fun hc => ?_) (fun hc => ?_)))
    all_goals (refine zm ?_; (first | refine zgn ?_ | (refine zgy ?_; refine zf0 ?_)); (first | refine zgn ?_ | (refine zgy ?_; refine zl hS ?_)); (first | refine zgn ?_ | (refine zgy ?_; refine zL ?_)))
    all_goals (first | refine zgn ?_ | (refine zgy ?_; (first | (refine QD ?_) | (refine QR ?_) | (refine Qr rfl rfl (fun hc => ?_) (fun hc => ?_)))))
    all_goals ((first | (refine zpt ?_) | (refine zpf ?_)); refine zm ?_; (first | refine zgn ?_ | (refine zgy ?_; refine zf0 ?_)); (first | refine zgn ?_ | (refine zgy ?_; refine zl hS ?_)); (first | refine zgn ?_ | (refine zgy ?_; refine zL ?_)))
    all_goals (first | refine zgn ?_ | (refine zgy ?_; (first | (refine QD ?_) | (refine QR ?_) | (refine Qr rfl rfl (fun hc => ?_) (fun hc => ?_)))))
    all_goals ((first | (refine zpt ?_) | (refine zpf ?_)); refine zR3 (c := Q2H (by intro _; decide) hS fd) (h := ?_); rintro v1 w1 ⟨rfl, hS⟩; simp only [List.set_cons_zero, List.set_cons_succ, if_true, Bool.false_eq_true, if_false] at hS; refine zn ?_; refine zr ?_; refine QtX ?_; refine ⟨_, rfl, rfl, ?_⟩; have hS := hS.drop.drop; refine St.back ?_ hi; first | (rw [show Q2U x.blocks.length t false = 4 from (by unfold Q2U; rw [if_pos rfl, if_pos (by omega)])]; exact hS) | (rw [show Q2U x.blocks.length t false = 0 from (by unfold Q2U; rw [if_pos rfl, if_neg (by omega)])]; exact hS))
  | true =>
    all_goals refine Q5U ?_
    all_goals (unfold code_judge_to_lc; refine Q0 ?_; refine Q1 ?_; refine zb hS ?_; intro p5 w1 hS; refine zb hS ?_; intro p6 w1 hS; refine zn ?_; refine Q0 ?_; refine Q0 ?_; refine Q1 ?_; refine zm ?_; refine znt ?_; refine zn ?_)
    all_goals refine zcf ?_
    all_goals (refine zsk ?_; refine Q0 ?_; refine Q1 ?_; refine zm ?_; refine zf0 ?_; refine zl hS ?_)
    all_goals (first | (refine Q1b ?_) | (refine Q1z ?_) | (refine QH rfl rfl (fun hc => ?_) (fun hc => ?_)))
    all_goals (refine zm ?_; (first | refine zgn ?_ | (refine zgy ?_; refine zf0 ?_)); (first | refine zgn ?_ | (refine zgy ?_; refine zl hS ?_)); (first | refine zgn ?_ | (refine zgy ?_; refine zf0 ?_)); (first | refine zgn ?_ | (refine zgy ?_; refine zl hS ?_)); (first | refine zgn ?_ | (refine zgy ?_; refine zL ?_)))
    all_goals (first | refine zgn ?_ | (refine zgy ?_; (first | (refine Q5Y ?_) | (refine Q6N ?_) | (refine Q35 rfl rfl (fun hc => ?_) (fun hc => ?_)))))
    all_goals ((first | (refine zpt ?_) | (refine zpf ?_)); refine zR3 (c := Q2H (by intro _; decide) hS fd) (h := ?_); rintro v1 w1 ⟨rfl, hS⟩; simp only [List.set_cons_zero, List.set_cons_succ, if_true, Bool.false_eq_true, if_false] at hS; refine zn ?_; refine Q1 ?_; refine zm ?_; refine zf0 ?_; refine zl hS ?_; refine zL ?_)
    all_goals (first | (refine QD ?_) | (refine QR ?_) | (refine Qr rfl rfl (fun hc => ?_) (fun hc => ?_)))
    all_goals (refine zm ?_; (first | refine zgn ?_ | (refine zgy ?_; refine zf0 ?_)); (first | refine zgn ?_ | (refine zgy ?_; refine zl hS ?_)); (first | refine zgn ?_ | (refine zgy ?_; refine zL ?_)))
    all_goals (first | refine zgn ?_ | (refine zgy ?_; (first | (refine QD ?_) | (refine QR ?_) | (refine Qr rfl rfl (fun hc => ?_) (fun hc => ?_)))))
    all_goals ((first | (refine zpt ?_) | (refine zpf ?_)); refine zR3 (c := Q2H (by intro _; decide) hS fd) (h := ?_); rintro v1 w1 ⟨rfl, hS⟩; simp only [List.set_cons_zero, List.set_cons_succ, if_true, Bool.false_eq_true, if_false] at hS; refine zn ?_; refine Q3z ?_; refine ⟨_, rfl, rfl, ?_⟩; have hS := hS.drop.drop; rw [Q3n] at hS; refine St.back ?_ hi; first | (rw [show Q2U x.blocks.length t true = 1 from (by unfold Q2U; rw [if_neg Bool.noConfusion, if_pos (by omega)])]; rw [Q7K (by decide)] at hS; exact hS) | (rw [show Q2U x.blocks.length t true = 2 from (by unfold Q2U; rw [if_neg Bool.noConfusion, if_neg (by omega), if_pos (by omega)])]; rw [Q6L] at hS; exact hS) | (rw [show Q2U x.blocks.length t true = 0 from (by unfold Q2U; rw [if_neg Bool.noConfusion, if_neg (by omega), if_neg (by omega)])]; rw [Q6L] at hS; exact hS))
theorem end_sum {g : Flt} {at' : Int} {n : Nat} {e : Tail} : orF (orF (orF (orF (orF g (mkF (if e.op < 1 ∨ 3 < e.op then 3 else 0) at')) (mkF (if e.op ≠ 2 ∧ e.a ≠ 0 ∨ e.op ≠ 3 ∧ 0 < e.args.length then 4 else 0) at')) (mkF (if 8 < e.args.length then 2 else 0) at')) (mkF (Q2U n e.yes (decide (e.op ≠ 3))) at')) (mkF (Q2U n e.no (decide (e.op = 2))) at') = orF g (mkF (Q3Y n e) at') := by
  rw [Q3n, Q3n, Q3n, Q3n]
  congr 2
  unfold Q3Y
  split
  · simp only [Q7K (show (3 : Int) ≠ 0 by decide)]
  · rw [Q6L]
    split
    · simp only [Q7K (show (4 : Int) ≠ 0 by decide)]
    · rw [Q6L]
      split
      · simp only [Q7K (show (2 : Int) ≠ 0 by decide)]
      · rw [Q6L]
theorem end_c {x : Fun} {e : Tail} {vf : Value} {g : Flt} {at' : Int} {b : Nat} {cs ds : List Value} (hx : funcR.at cx cs x) (he : endR.at cx ds e) (hS : St cx w L) (hi : nth L i = some (jdg b vf g at')) :
    Rets Tryz.prog Q9O [.pointer (some ⟨b, 0, none⟩), .agg ⟨cs⟩, .agg ⟨ds⟩] w fun u w' => u = .tuple #[] ∧ St cx w' (L.set i (jdg b vf (orF g (mkF (Q3Y x.blocks.length e) at')) at')) := by
  have hS := hS.out hi
  obtain ⟨vp, vr, vb, rfl, hp, hr, hb⟩ := Q1L hx
  obtain ⟨v1, v2, v3, v4, v5, rfl, h1, h2, h3, h4, h5⟩ := Qbl he
  have hl5 := h5.len
  all_goals refine Qdc ?_
  all_goals (unfold code_judge_end_lc; refine Q0 ?_; refine Q1 ?_; refine zb hS ?_; intro p4 w1 hS; refine zb hS ?_; intro p5 w1 hS; refine zn ?_)
  refine zM [0, 4, 5] (fun A ρ' w' => Has ρ' A ∧ Has ρ' [] ∧ St cx w' (blk p5 50 [.int .i64 e.op, .int .i64 e.a, .int .i64 e.yes.block, v1, v2, .int .i64 e.no.block, v3, v4, v5] :: blk p4 43 [.int .i64 x.regs, vp, vr, vb] :: jdg b vf (orF g (mkF (if e.op < 1 ∨ 3 < e.op then 3 else 0) at')) at' :: L.eraseIdx i)) ?_ ?_
  · skip
    all_goals (refine Q1 ?_; refine zm ?_; refine zf0 ?_; refine zl hS ?_)
    all_goals (first | (refine Q1b ?_) | (refine Q1z ?_) | (refine QH rfl rfl (fun hc => ?_) (fun hc => ?_)))
    all_goals (refine zm ?_; (first | refine zgn ?_ | (refine zgy ?_; refine zf0 ?_)); (first | refine zgn ?_ | (refine zgy ?_; refine zl hS ?_)))
    all_goals (first | refine zgn ?_ | (refine zgy ?_; (first | (refine QD ?_) | (refine QR ?_) | (refine Qr rfl rfl (fun hc => ?_) (fun hc => ?_)))))
    all_goals ((first | (refine zpt ?_) | (refine zpf ?_)); refine zR3 (c := Q2H (by intro _; decide) hS fd) (h := ?_); rintro v1 w1 ⟨rfl, hS⟩; simp only [List.set_cons_zero, List.set_cons_succ, if_true, Bool.false_eq_true, if_false] at hS; refine zn ?_; exact ⟨zh, zh, by first | (rw [if_pos (by omega)]; exact hS.sp) | (rw [if_neg (by omega)]; exact hS.sp)⟩)
  rintro ρ w1 ⟨hA, hρ, hS⟩; obtain ⟨ρ, rfl⟩ := env2 hA hρ
  refine zM [0, 4, 5] (fun A ρ' w' => Has ρ' A ∧ Has ρ' [] ∧ St cx w' (blk p5 50 [.int .i64 e.op, .int .i64 e.a, .int .i64 e.yes.block, v1, v2, .int .i64 e.no.block, v3, v4, v5] :: blk p4 43 [.int .i64 x.regs, vp, vr, vb] :: jdg b vf (orF (orF g (mkF (if e.op < 1 ∨ 3 < e.op then 3 else 0) at')) (mkF (if e.op ≠ 2 ∧ e.a ≠ 0 ∨ e.op ≠ 3 ∧ 0 < e.args.length then 4 else 0) at')) at' :: L.eraseIdx i)) ?_ ?_
  · skip
    all_goals (refine Q1 ?_; refine zm ?_; refine zf0 ?_; refine zl hS ?_)
    all_goals (first | (refine Q1h ?_) | (refine Q1j ?_) | (refine Qv rfl rfl (fun hc => ?_) (fun hc => ?_)))
    all_goals (refine zm ?_; (first | refine zgn ?_ | (refine zgy ?_; refine zf0 ?_)); (first | refine zgn ?_ | (refine zgy ?_; refine zl hS ?_)))
    all_goals (first | refine zgn ?_ | (refine zgy ?_; (first | (refine Q1h ?_) | (refine Q1j ?_) | (refine Qv rfl rfl (fun hc => ?_) (fun hc => ?_)))))
    all_goals ((first | (refine zpt ?_) | (refine zpf ?_)); refine zm ?_; (first | refine zgn ?_ | (refine zgy ?_; refine zf0 ?_)); (first | refine zgn ?_ | (refine zgy ?_; refine zl hS ?_)))
    all_goals (first | refine zgn ?_ | (refine zgy ?_; (first | (refine Q1h ?_) | (refine Q1j ?_) | (refine Qv rfl rfl (fun hc => ?_) (fun hc => ?_)))))
    all_goals ((first | refine zgn ?_ | (refine zgy ?_; refine zm ?_)); (first | refine zgn ?_ | (refine zgy ?_; refine zf0 ?_)); (first | refine zgn ?_ | (refine zgy ?_; refine zl hS ?_)); (first | refine zgn ?_ | (refine zgy ?_; refine zL ?_)))
    all_goals (first | refine zgn ?_ | (refine zgy ?_; (first | (refine QD ?_) | (refine QR ?_) | (refine Qr rfl rfl (fun hc => ?_) (fun hc => ?_)))))
    all_goals ((first | refine zgn ?_ | (refine zgy ?_; (first | (refine zpt ?_) | (refine zpf ?_)))); (first | (refine zpt ?_) | (refine zpf ?_)); refine zR3 (c := Q2H (by intro _; decide) hS fd) (h := ?_); rintro v1 w1 ⟨rfl, hS⟩; simp only [List.set_cons_zero, List.set_cons_succ, if_true, Bool.false_eq_true, if_false] at hS; refine zn ?_; exact ⟨zh, zh, by first | (rw [if_pos (c := e.op ≠ 2 ∧ e.a ≠ 0 ∨ e.op ≠ 3 ∧ 0 < e.args.length) (by omega)]; exact hS.sp) | (rw [if_neg (c := e.op ≠ 2 ∧ e.a ≠ 0 ∨ e.op ≠ 3 ∧ 0 < e.args.length) (by omega)]; exact hS.sp)⟩)
  rintro ρ w1 ⟨hA, hρ, hS⟩; obtain ⟨ρ, rfl⟩ := env2 hA hρ
  refine zM [0, 4, 5] (fun A ρ' w' => Has ρ' A ∧ Has ρ' [] ∧ St cx w' (blk p5 50 [.int .i64 e.op, .int .i64 e.a, .int .i64 e.yes.block, v1, v2, .int .i64 e.no.block, v3, v4, v5] :: blk p4 43 [.int .i64 x.regs, vp, vr, vb] :: jdg b vf (orF (orF (orF g (mkF (if e.op < 1 ∨ 3 < e.op then 3 else 0) at')) (mkF (if e.op ≠ 2 ∧ e.a ≠ 0 ∨ e.op ≠ 3 ∧ 0 < e.args.length then 4 else 0) at')) (mkF (if 8 < e.args.length then 2 else 0) at')) at' :: L.eraseIdx i)) ?_ ?_
  · skip
    all_goals (refine Q1 ?_; refine zm ?_; refine zf0 ?_; refine zl hS ?_; refine zL ?_)
    all_goals (first | (refine QD ?_) | (refine QR ?_) | (refine Qr rfl rfl (fun hc => ?_) (fun hc => ?_)))
    all_goals (refine zR3 (c := Q2H (by intro _; decide) hS fd) (h := ?_); rintro v1 w1 ⟨rfl, hS⟩; simp only [List.set_cons_zero, List.set_cons_succ, if_true, Bool.false_eq_true, if_false] at hS; refine zn ?_; exact ⟨zh, zh, by first | (rw [if_pos (c := 8 < e.args.length) (by omega)]; exact hS.sp) | (rw [if_neg (c := 8 < e.args.length) (by omega)]; exact hS.sp)⟩)
  rintro ρ w1 ⟨hA, hρ, hS⟩; obtain ⟨ρ, rfl⟩ := env2 hA hρ
  all_goals (refine Q0 ?_; refine Q1 ?_; refine zm ?_; refine zv hS ?_; refine zf0 ?_; refine zv hS ?_; refine zf0 ?_; refine zl hS ?_; refine Q9X rfl rfl ?_; refine zR4 (c := to_c (t := e.yes) hx ⟨_, _, rfl, h1, h2⟩ hS fd) (h := ?_); rintro v1 w1 ⟨rfl, hS⟩; have hS := hS.ns; refine zn ?_; refine Q1 ?_; refine zm ?_; refine zv hS ?_; refine zf0 ?_; refine zv hS ?_; refine zf0 ?_; refine zl hS ?_; refine Qcs rfl rfl ?_; refine zR4 (c := to_c (t := e.no) hx ⟨_, _, rfl, h3, h4⟩ hS fd) (h := ?_); rintro v1 w1 ⟨rfl, hS⟩; have hS := hS.ns; refine zn ?_; refine Q3z ?_; refine ⟨_, rfl, rfl, ?_⟩; rw [end_sum] at hS; exact St.back hS.drop.drop hi)
end
end Go.Proofs.YtjecflbbcnocdaaGreatDoor
namespace Go.Proofs.YtjecflbbcnocdaaGreatDoor
open Go.Lir
set_option maxHeartbeats 1000000
attribute [local irreducible] LC.wp Q2 QA QB retQ Q1e LO.wp Qj Calls
set_option linter.unusedSimpArgs false
set_option linter.unusedVariables false
variable {cx : Cx} {w : World} {L : List Res}
theorem Q77 (f : Nat) (hf : f ≤ 1000000) (hS : St cx w L) : Rets Tryz.prog Qsf [.int .i64 f] w fun u w' => u = .int .i64 (Q3C f) ∧ St cx w' L := by
  unfold Q3C
  all_goals refine Qrv ?_
  all_goals (unfold R_AtFunc_lc; refine Q0 ?_; refine Q1 ?_; refine zm ?_; refine zn ?_; refine Q0 ?_; refine Q1 ?_; refine zm ?_; refine zmu ?_; refine zad ?_; refine zm ?_; refine zn ?_; refine zr ?_; refine zf ?_; refine ⟨_, rfl, ?_, hS.sp⟩; (first | rfl | (congr 1; omega)); done)
theorem Quc (f : Nat) (hf : f ≤ 1000000) (hS : St cx w L) : Rets Tryz.prog Qhk [.int .i64 f] w fun u w' => u = .int .i64 (Q3C f) ∧ St cx w' L := by
  unfold Q3C
  all_goals refine Qjz ?_
  all_goals (unfold code_FuncAt_lc; refine Q0 ?_; refine Q1 ?_; refine zm ?_; refine zn ?_; refine Q0 ?_; refine Q1 ?_; refine zm ?_; refine zmu ?_; refine zad ?_; refine zm ?_; refine zn ?_; refine zr ?_; refine zf ?_; refine ⟨_, rfl, ?_, hS.sp⟩; (rfl); done)
theorem Q84 (f b : Nat) (hf : f ≤ 1000000) (hb : b ≤ 1000000) (hS : St cx w L) : Rets Tryz.prog Qps [.int .i64 f, .int .i64 b] w fun u w' => u = .int .i64 (Q3I f b) ∧ St cx w' L := by
  unfold Q3I
  all_goals refine Qpr ?_
  all_goals (unfold R_AtBlock_lc; refine Q0 ?_; refine Q1 ?_; refine zm ?_; refine zn ?_; refine Q0 ?_; refine Q1 ?_; refine zm ?_; refine zmu ?_; refine zm ?_; refine zmu ?_; refine zad ?_; refine zad ?_; refine zm ?_; refine zn ?_; refine zr ?_; refine zf ?_; refine ⟨_, rfl, ?_, hS.sp⟩; (first | rfl | (congr 1; omega)); done)
theorem Qsv (f b : Nat) (hf : f ≤ 1000000) (hb : b ≤ 1000000) (hS : St cx w L) : Rets Tryz.prog Qf1 [.int .i64 f, .int .i64 b] w fun u w' => u = .int .i64 (Q3I f b) ∧ St cx w' L := by
  unfold Q3I
  all_goals refine Qhq ?_
  all_goals (unfold code_BlockAt_lc; refine Q0 ?_; refine Q1 ?_; refine zm ?_; refine zn ?_; refine Q0 ?_; refine Q1 ?_; refine zm ?_; refine zmu ?_; refine zm ?_; refine zmu ?_; refine zad ?_; refine zad ?_; refine zm ?_; refine zn ?_; refine zr ?_; refine zf ?_; refine ⟨_, rfl, ?_, hS.sp⟩; (rfl); done)
theorem rEndAt_c (f b : Nat) (hf : f ≤ 1000000) (hb : b ≤ 1000000) (hS : St cx w L) : Rets Tryz.prog Qv7 [.int .i64 f, .int .i64 b] w fun u w' => u = .int .i64 (QjM f b) ∧ St cx w' L := by
  unfold QjM
  all_goals refine Qtj ?_
  all_goals (unfold R_AtEnd_lc; refine Q0 ?_; refine Q1 ?_; refine zm ?_; refine zn ?_; refine Q0 ?_; refine Q1 ?_; refine zm ?_; refine zmu ?_; refine zm ?_; refine zmu ?_; refine zad ?_; refine zad ?_; refine zm ?_; refine zn ?_; refine zr ?_; refine zf ?_; refine ⟨_, rfl, ?_, hS.sp⟩; (first | rfl | (congr 1; omega)); done)
theorem pEndAt_c (f b : Nat) (hf : f ≤ 1000000) (hb : b ≤ 1000000) (hS : St cx w L) : Rets Tryz.prog Qlf [.int .i64 f, .int .i64 b] w fun u w' => u = .int .i64 (QjM f b) ∧ St cx w' L := by
  unfold QjM
  all_goals refine QmB ?_
  all_goals (unfold code_EndAt_lc; refine Q0 ?_; refine Q1 ?_; refine zm ?_; refine zn ?_; refine Q0 ?_; refine Q1 ?_; refine zm ?_; refine zmu ?_; refine zm ?_; refine zmu ?_; refine zad ?_; refine zad ?_; refine zm ?_; refine zn ?_; refine zr ?_; refine zf ?_; refine ⟨_, rfl, ?_, hS.sp⟩; (rfl); done)
theorem rInsAt_c (f b i : Nat) (hf : f ≤ 1000000) (hb : b ≤ 1000000) (hi : i ≤ 1000000) (hS : St cx w L) : Rets Tryz.prog Qv6 [.int .i64 f, .int .i64 b, .int .i64 i] w fun u w' => u = .int .i64 (Qhu f b i) ∧ St cx w' L := by
  unfold Qhu
  all_goals refine Qtg ?_
  all_goals (unfold R_AtIns_lc; refine Q0 ?_; refine Q1 ?_; refine zm ?_; refine zn ?_; refine Q0 ?_; refine Q1 ?_; refine zm ?_; refine zmu ?_; refine zm ?_; refine zmu ?_; refine zad ?_; refine zm ?_; refine zad ?_; refine zm ?_; refine zn ?_; refine zr ?_; refine zf ?_; refine ⟨_, rfl, ?_, hS.sp⟩; (first | rfl | (congr 1; omega)); done)
theorem pInsAt_c (f b i : Nat) (hf : f ≤ 1000000) (hb : b ≤ 1000000) (hi : i ≤ 1000000) (hS : St cx w L) : Rets Tryz.prog Qle [.int .i64 f, .int .i64 b, .int .i64 i] w fun u w' => u = .int .i64 (Qhu f b i) ∧ St cx w' L := by
  unfold Qhu
  all_goals refine Qmy ?_
  all_goals (unfold code_InsAt_lc; refine Q0 ?_; refine Q1 ?_; refine zm ?_; refine zn ?_; refine Q0 ?_; refine Q1 ?_; refine zm ?_; refine zmu ?_; refine zm ?_; refine zmu ?_; refine zad ?_; refine zm ?_; refine zad ?_; refine zm ?_; refine zn ?_; refine zr ?_; refine zf ?_; refine ⟨_, rfl, ?_, hS.sp⟩; (rfl); done)
theorem rF_c {c a : Int} (hS : St cx w L) : Rets Tryz.prog R_F [.int .i64 c, .int .i64 a] w fun u w' => u = .agg ⟨[.int .i64 c, .int .i64 a]⟩ ∧ St cx w' L := by
  all_goals refine R_F_in ?_
  all_goals (unfold R_F_lc; refine Q0 ?_; refine Q1 ?_; refine Q9 hS ?_; intro p4 w1 hS; refine zn ?_; refine Q0 ?_; refine Q1 ?_; refine zm ?_; refine zm ?_; refine zb2 [_, _] ?_; refine zsn hS ?_; intro w1 hS; have hS := hS.ns; refine zn ?_; refine zr ?_; refine Q16 vw (Q5 (n := 2) (by kernel_rfl) (by kernel_rfl) (hS.blkAt fd) (by rfl) (by rfl)) ?_; refine ⟨_, rfl, ?_, hS.sp⟩; (rfl); done)
theorem QpD {l : List Ty} {regs : Int} {v : Value} (hl : tyR.sl cx v l) (hS : St cx w L) : Rets Tryz.prog Q4c [v, .int .i64 regs] w fun u w' => u = .int .i64 (Qu l regs) ∧ St cx w' L := by
  have hlen := hl.len
  unfold Qu
  all_goals refine Qn1 ?_
  all_goals (unfold R_listForm_lc; refine Q0 ?_; refine Q1 ?_; refine zm ?_; refine zn ?_; refine Q0 ?_; refine Q0 ?_; refine Q1 ?_; refine zm ?_; refine zL ?_)
  all_goals (first | (refine QD ?_) | (refine QR ?_) | (refine Qr rfl rfl (fun hc => ?_) (fun hc => ?_)))
  all_goals (refine zn ?_)
  all_goals
    first
    | (refine zct ?_ -- Q4c c0
       all_goals (refine Q0 ?_; refine Q1 ?_; refine zm ?_; refine zn ?_; refine zr ?_; refine zf ?_)
       all_goals (refine ⟨_, rfl, ?_, hS.sp⟩; rw [if_pos (by omega)]; done))
    | (refine zcf ?_ -- Q4c c0
       all_goals refine zsk ?_)
  all_goals (refine Q0 ?_; refine Q0 ?_; refine Q1 ?_; refine zm ?_; refine zn ?_; refine Qa ?_)
  refine zoL hS [0, 1] (fun A LL ρ' w' => ∃ (j : Nat), Has ρ' A ∧ Has ρ' [(5, .int .i64 j)] ∧ (j ≤ l.length) ∧ (Q3E regs l = Q3E regs (l.drop j)) ∧ St cx w' (LL)) (fun ρ' _ => (l.length - iv (ρ' 5)).toNat) ?_ ?_
  · exact ⟨0, zh, zh, (by omega), by simp, hS.sp⟩
  rintro ρ w1 ⟨j, hA, hρ, hj, hd, hS⟩; obtain ⟨ρ, rfl⟩ := env2 hA hρ
  unfold Qcd
  all_goals (refine Q0 ?_; refine Q0 ?_; refine Q1 ?_; refine zm ?_; refine zm ?_; refine zL ?_; refine Q1i rfl rfl ?_; refine zn ?_)
  refine QM rfl (fun hc => ?_) (fun hc => ?_)
  · skip
    all_goals (refine zsk ?_; refine Q0 ?_; refine Qa ?_; refine Q0 ?_; refine Q1 ?_; refine zm ?_; refine zm ?_; refine zi ?_; intro b1 o1 cs1 x1 hat1 hx1 he1; obtain ⟨vl1, rfl, hl1⟩ := Q1c he1; (first | (refine zv hS ?_) | (refine zvk hS ?_)); refine zm ?_; refine zR2 (c := QtR (by assumption) hS) (h := ?_); rintro v1 w1 ⟨rfl, hS⟩; refine zm ?_; refine zn ?_; refine Q0 ?_; refine Q1 ?_; refine zm ?_)
    all_goals (first | (refine Q1h ?_) | (refine Q1j ?_) | (refine Qv rfl rfl (fun hc => ?_) (fun hc => ?_)))
    all_goals (refine zn ?_)
    all_goals
      first
      | (refine zct ?_ -- Q4c c2
         all_goals (refine Q0 ?_; refine Q1 ?_; refine zm ?_; refine zm ?_; refine zn ?_; refine zr ?_; refine zf ?_)
         all_goals (first | (refine ⟨_, rfl, ?_, hS.sp⟩; rw [if_pos (by omega)]; done) | (refine ⟨_, rfl, ?_, hS.sp⟩; rw [if_neg (by omega), hd, Q4 hx1, Q3E, Q7K (by assumption)]; done)))
      | (refine zcf ?_ -- Q4c c2
         all_goals refine zsk ?_)
    all_goals (refine Q1 ?_; refine zm ?_; refine zad ?_; refine zm ?_; refine zn ?_; exact ⟨⟨j + 1, zh, zh, (by omega), by rw [hd, Q4 hx1, Q3E, show x1.fault regs = 0 by omega, Q6L], hS.sp⟩, QF (by omega)⟩)
  · skip
    all_goals (refine zex ?_; refine Q0 ?_; refine Q1 ?_; refine zm ?_; refine zn ?_; refine zr ?_; refine zf ?_; (first | (refine ⟨_, rfl, ?_, hS.sp⟩; rw [if_pos (by omega)]; done) | (refine ⟨_, rfl, ?_, hS.sp⟩; rw [if_neg (by omega), hd, Q4 hx1, Q3E, Q7K (by assumption)]; done) | (refine ⟨_, rfl, ?_, hS.sp⟩; rw [if_neg (by omega), hd, List.drop_of_length_le (by omega), Q3E]; done)))
theorem fields_c {op : Int} (hS : St cx w L) : Rets Tryz.prog Qb [.int .i64 op] w fun u w' => u = .tuple #[.agg ⟨[.bool (fA op), .bool (fB op), .bool (fC op), .bool (fK op), .bool (fN op), .bool (fG op), .bool (fR op)]⟩, .bool (decide (1 ≤ op ∧ op ≤ 14))] ∧ St cx w' L := by
  have hbad : (op < 1 ∨ 14 < op) → fA op = false ∧ fB op = false ∧ fC op = false ∧ fK op = false ∧ fN op = false ∧ fG op = false ∧ fR op = false ∧ decide (1 ≤ op ∧ op ≤ 14) = false := by
    intro h
    refine ⟨?_, ?_, ?_, ?_, ?_, ?_, ?_, ?_⟩ <;> (first | unfold fA | unfold fB | unfold fC | unfold fK | unfold fN | unfold fG | unfold fR | skip) <;> rw [decide_eq_false_iff_not] <;> omega
  by_cases hb : op < 1 ∨ 14 < op
  · obtain ⟨h1, h2, h3, h4, h5, h6, h7, h8⟩ := hbad hb
    rw [h1, h2, h3, h4, h5, h6, h7, h8]
    clear hbad h1 h2 h3 h4 h5 h6 h7 h8
    all_goals refine Qcg ?_
    all_goals (unfold R_FieldsOf_lc; refine Q0 ?_; refine Q1 ?_; refine Q9 hS ?_; intro p2 w1 hS; refine zm ?_; refine zn ?_; refine Q0 ?_; refine Q0 ?_; refine Q1 ?_; refine zm ?_; refine zn ?_; refine Qa ?_; refine Q0 ?_; refine Q1 ?_)
    all_goals (first | (refine Qn ?_) | (refine Qq ?_))
    all_goals (refine zm ?_; refine zn ?_)
    all_goals
      first
      | (refine zct ?_ -- Qb c0
         all_goals (refine Q0 ?_; refine Q1 ?_; refine zb1 [_, _, _, _, _, _, _] ?_; refine zsn hS ?_; intro w1 hS; have hS := hS.ns; refine zm ?_; refine zn ?_; refine zr ?_; refine QV vw (Q5 (n := 7) (by kernel_rfl) (by kernel_rfl) (hS.blkAt fd) (by rfl) (by rfl)) vw ?_)
         all_goals (refine ⟨_, rfl, ?_, hS.sp⟩; (rfl); done))
      | (refine zcf ?_ -- Qb c0
         all_goals (refine Q0 ?_; refine Q0 ?_; refine Q1 ?_)
         all_goals (first | (refine Qn ?_) | (refine Qq ?_))
         all_goals (refine zm ?_; refine zn ?_)
         all_goals
           first
           | (refine zct ?_ -- Qb c1
              all_goals refine zsk ?_)
           | (refine zcf ?_ -- Qb c1
              all_goals (refine Q1 ?_)
              all_goals (first | (refine Qn ?_) | (refine Qq ?_))
              all_goals (refine zm ?_)
              all_goals refine zn ?_)
         all_goals
           first
           | (refine zct ?_ -- Qb c2
              all_goals (refine Q0 ?_; refine Q1 ?_; refine zb3 [_, _, _, _, _, _, _] ?_; refine zsn hS ?_; intro w1 hS; have hS := hS.ns; refine zm ?_; refine zn ?_; refine zr ?_; refine QV vw (Q5 (n := 7) (by kernel_rfl) (by kernel_rfl) (hS.blkAt fd) (by rfl) (by rfl)) vw ?_)
              all_goals (refine ⟨_, rfl, ?_, hS.sp⟩; (rfl); done))
           | (refine zcf ?_ -- Qb c2
              all_goals (refine Q0 ?_; refine Q0 ?_; refine Q1 ?_)
              all_goals (first | (refine Qn ?_) | (refine Qq ?_))
              all_goals (refine zm ?_; refine zn ?_)
              all_goals
                first
                | (refine zct ?_ -- Qb c3
                   all_goals refine zsk ?_)
                | (refine zcf ?_ -- Qb c3
                   all_goals (refine Q1 ?_)
                   all_goals (first | (refine Qn ?_) | (refine Qq ?_))
                   all_goals (refine zm ?_)
                   all_goals refine zn ?_)
              all_goals
                first
                | (refine zct ?_ -- Qb c4
                   all_goals (refine Q0 ?_; refine Q1 ?_; refine zb0 [_, _, _, _, _, _, _] ?_; refine zsn hS ?_; intro w1 hS; have hS := hS.ns; refine zm ?_; refine zn ?_; refine zr ?_; refine QV vw (Q5 (n := 7) (by kernel_rfl) (by kernel_rfl) (hS.blkAt fd) (by rfl) (by rfl)) vw ?_)
                   all_goals (refine ⟨_, rfl, ?_, hS.sp⟩; (rfl); done))
                | (refine zcf ?_ -- Qb c4
                   all_goals (refine Q0 ?_; refine Q0 ?_; refine Q1 ?_)
                   all_goals (first | (refine Qn ?_) | (refine Qq ?_))
                   all_goals (refine zm ?_; refine zn ?_)
                   all_goals
                     first
                     | (refine zct ?_ -- Qb c5
                        all_goals refine zsk ?_)
                     | (refine zcf ?_ -- Qb c5
                        all_goals (refine Q0 ?_; refine Q1 ?_)
                        all_goals (first | (refine Qn ?_) | (refine Qq ?_))
                        all_goals (refine zm ?_; refine zn ?_)
                        all_goals
                          first
                          | (refine zct ?_ -- Qb c6
                             all_goals refine zsk ?_)
                          | (refine zcf ?_ -- Qb c6
                             all_goals (refine Q1 ?_)
                             all_goals (first | (refine Qn ?_) | (refine Qq ?_))
                             all_goals (refine zm ?_)
                             all_goals refine zn ?_))
                   all_goals
                     first
                     | (refine zct ?_ -- Qb c7
                        all_goals (refine Q0 ?_; refine Q1 ?_; refine zb1 [_, _, _, _, _, _, _] ?_; refine zsn hS ?_; intro w1 hS; have hS := hS.ns; refine zm ?_; refine zn ?_; refine zr ?_; refine QV vw (Q5 (n := 7) (by kernel_rfl) (by kernel_rfl) (hS.blkAt fd) (by rfl) (by rfl)) vw ?_)
                        all_goals (refine ⟨_, rfl, ?_, hS.sp⟩; (rfl); done))
                     | (refine zcf ?_ -- Qb c7
                        all_goals (refine Q0 ?_; refine Q1 ?_)
                        all_goals (first | (refine Qn ?_) | (refine Qq ?_))
                        all_goals (refine zm ?_; refine zn ?_)
                        all_goals
                          first
                          | (refine zct ?_ -- Qb c8
                             all_goals (refine Q0 ?_; refine Q1 ?_; refine zb2 [_, _, _, _, _, _, _] ?_; refine zsn hS ?_; intro w1 hS; have hS := hS.ns; refine zm ?_; refine zn ?_; refine zr ?_; refine QV vw (Q5 (n := 7) (by kernel_rfl) (by kernel_rfl) (hS.blkAt fd) (by rfl) (by rfl)) vw ?_)
                             all_goals (refine ⟨_, rfl, ?_, hS.sp⟩; (rfl); done))
                          | (refine zcf ?_ -- Qb c8
                             all_goals (refine Q0 ?_; refine Q1 ?_)
                             all_goals (first | (refine Qn ?_) | (refine Qq ?_))
                             all_goals (refine zm ?_; refine zn ?_)
                             all_goals
                               first
                               | (refine zct ?_ -- Qb c9
                                  all_goals (refine Q0 ?_; refine Q1 ?_; refine zb2 [_, _, _, _, _, _, _] ?_; refine zsn hS ?_; intro w1 hS; have hS := hS.ns; refine zm ?_; refine zn ?_; refine zr ?_; refine QV vw (Q5 (n := 7) (by kernel_rfl) (by kernel_rfl) (hS.blkAt fd) (by rfl) (by rfl)) vw ?_)
                                  all_goals (refine ⟨_, rfl, ?_, hS.sp⟩; (rfl); done))
                               | (refine zcf ?_ -- Qb c9
                                  all_goals (refine Q0 ?_; refine Q0 ?_; refine Q1 ?_)
                                  all_goals (first | (refine Qn ?_) | (refine Qq ?_))
                                  all_goals (refine zm ?_; refine zn ?_)
                                  all_goals
                                    first
                                    | (refine zct ?_ -- Qb c10
                                       all_goals refine zsk ?_)
                                    | (refine zcf ?_ -- Qb c10
                                       all_goals (refine Q1 ?_)
                                       all_goals (first | (refine Qn ?_) | (refine Qq ?_))
                                       all_goals (refine zm ?_)
                                       all_goals refine zn ?_)
                                  all_goals
                                    first
                                    | (refine zct ?_ -- Qb c11
                                       all_goals (refine Q0 ?_; refine Q1 ?_; refine zb2 [_, _, _, _, _, _, _] ?_; refine zsn hS ?_; intro w1 hS; have hS := hS.ns; refine zm ?_; refine zn ?_; refine zr ?_; refine QV vw (Q5 (n := 7) (by kernel_rfl) (by kernel_rfl) (hS.blkAt fd) (by rfl) (by rfl)) vw ?_)
                                       all_goals (refine ⟨_, rfl, ?_, hS.sp⟩; (rfl); done))
                                    | (refine zcf ?_ -- Qb c11
                                       all_goals (refine Q0 ?_; refine Q1 ?_)
                                       all_goals (first | (refine Qn ?_) | (refine Qq ?_))
                                       all_goals (refine zm ?_; refine zn ?_)
                                       all_goals
                                         first
                                         | (refine zct ?_ -- Qb c12
                                            all_goals (refine Q0 ?_; refine Q1 ?_; refine zb3 [_, _, _, _, _, _, _] ?_; refine zsn hS ?_; intro w1 hS; have hS := hS.ns; refine zm ?_; refine zn ?_; refine zr ?_; refine QV vw (Q5 (n := 7) (by kernel_rfl) (by kernel_rfl) (hS.blkAt fd) (by rfl) (by rfl)) vw ?_)
                                            all_goals (refine ⟨_, rfl, ?_, hS.sp⟩; (rfl); done))
                                         | (refine zcf ?_ -- Qb c12
                                            all_goals (refine Q0 ?_; refine Q1 ?_)
                                            all_goals (first | (refine Qn ?_) | (refine Qq ?_))
                                            all_goals (refine zm ?_; refine zn ?_)
                                            all_goals
                                              first
                                              | (refine zct ?_ -- Qb c13
                                                 all_goals (refine Q0 ?_; refine Q1 ?_; refine zb3 [_, _, _, _, _, _, _] ?_; refine zsn hS ?_; intro w1 hS; have hS := hS.ns; refine zm ?_; refine zn ?_; refine zr ?_; refine QV vw (Q5 (n := 7) (by kernel_rfl) (by kernel_rfl) (hS.blkAt fd) (by rfl) (by rfl)) vw ?_)
                                                 all_goals (refine ⟨_, rfl, ?_, hS.sp⟩; (rfl); done))
                                              | (refine zcf ?_ -- Qb c13
                                                 all_goals refine zsk ?_)))))))))
    all_goals (refine Q0 ?_; refine Q1 ?_; refine zb0 [_, _, _, _, _, _, _] ?_; refine zsn hS ?_; intro w1 hS; have hS := hS.ns; refine zm ?_; refine zn ?_; refine zr ?_; refine QV vw (Q5 (n := 7) (by kernel_rfl) (by kernel_rfl) (hS.blkAt fd) (by rfl) (by rfl)) vw ?_; refine ⟨_, rfl, ?_, hS.sp⟩; (rfl); done)
  · clear hbad
    rcases op_cases (op := op) (by omega) (by omega) with rfl | rfl | rfl | rfl | rfl | rfl | rfl | rfl | rfl | rfl | rfl | rfl | rfl | rfl
    all_goals clear hb
    all_goals refine Qcg ?_
    all_goals (unfold R_FieldsOf_lc; skip; refine Q0 ?_; refine Q1 ?_; refine Q9 hS ?_; intro p2 w1 hS; refine zm ?_; refine zn ?_; refine Q0 ?_; refine Q0 ?_; refine Q1 ?_; refine zm ?_; refine zn ?_; refine Qa ?_; refine Q0 ?_; refine Q1 ?_)
    all_goals (first | (refine Qn ?_) | (refine Qq ?_))
    all_goals (refine zm ?_; refine zn ?_)
    all_goals
      first
      | (refine zct ?_ -- Qb c0
         all_goals (refine Q0 ?_; refine Q1 ?_; refine zb1 [_, _, _, _, _, _, _] ?_; refine zsn hS ?_; intro w1 hS; have hS := hS.ns; refine zm ?_; refine zn ?_; refine zr ?_; refine QV vw (Q5 (n := 7) (by kernel_rfl) (by kernel_rfl) (hS.blkAt fd) (by rfl) (by rfl)) vw ?_)
         all_goals (refine ⟨_, rfl, ?_, hS.sp⟩; (rfl); done))
      | (refine zcf ?_ -- Qb c0
         all_goals (refine Q0 ?_; refine Q0 ?_; refine Q1 ?_)
         all_goals (first | (refine Qn ?_) | (refine Qq ?_))
         all_goals (refine zm ?_; refine zn ?_)
         all_goals
           first
           | (refine zct ?_ -- Qb c1
              all_goals refine zsk ?_)
           | (refine zcf ?_ -- Qb c1
              all_goals (refine Q1 ?_)
              all_goals (first | (refine Qn ?_) | (refine Qq ?_))
              all_goals (refine zm ?_)
              all_goals refine zn ?_)
         all_goals
           first
           | (refine zct ?_ -- Qb c2
              all_goals (refine Q0 ?_; refine Q1 ?_; refine zb3 [_, _, _, _, _, _, _] ?_; refine zsn hS ?_; intro w1 hS; have hS := hS.ns; refine zm ?_; refine zn ?_; refine zr ?_; refine QV vw (Q5 (n := 7) (by kernel_rfl) (by kernel_rfl) (hS.blkAt fd) (by rfl) (by rfl)) vw ?_)
              all_goals (refine ⟨_, rfl, ?_, hS.sp⟩; (rfl); done))
           | (refine zcf ?_ -- Qb c2
              all_goals (refine Q0 ?_; refine Q0 ?_; refine Q1 ?_)
              all_goals (first | (refine Qn ?_) | (refine Qq ?_))
              all_goals (refine zm ?_; refine zn ?_)
              all_goals
                first
                | (refine zct ?_ -- Qb c3
                   all_goals refine zsk ?_)
                | (refine zcf ?_ -- Qb c3
                   all_goals (refine Q1 ?_)
                   all_goals (first | (refine Qn ?_) | (refine Qq ?_))
                   all_goals (refine zm ?_)
                   all_goals refine zn ?_)
              all_goals
                first
                | (refine zct ?_ -- Qb c4
                   all_goals (refine Q0 ?_; refine Q1 ?_; refine zb0 [_, _, _, _, _, _, _] ?_; refine zsn hS ?_; intro w1 hS; have hS := hS.ns; refine zm ?_; refine zn ?_; refine zr ?_; refine QV vw (Q5 (n := 7) (by kernel_rfl) (by kernel_rfl) (hS.blkAt fd) (by rfl) (by rfl)) vw ?_)
                   all_goals (refine ⟨_, rfl, ?_, hS.sp⟩; (rfl); done))
                | (refine zcf ?_ -- Qb c4
                   all_goals (refine Q0 ?_; refine Q0 ?_; refine Q1 ?_)
                   all_goals (first | (refine Qn ?_) | (refine Qq ?_))
                   all_goals (refine zm ?_; refine zn ?_)
                   all_goals
                     first
                     | (refine zct ?_ -- Qb c5
                        all_goals refine zsk ?_)
                     | (refine zcf ?_ -- Qb c5
                        all_goals (refine Q0 ?_; refine Q1 ?_)
                        all_goals (first | (refine Qn ?_) | (refine Qq ?_))
                        all_goals (refine zm ?_; refine zn ?_)
                        all_goals
                          first
                          | (refine zct ?_ -- Qb c6
                             all_goals refine zsk ?_)
                          | (refine zcf ?_ -- Qb c6
                             all_goals (refine Q1 ?_)
                             all_goals (first | (refine Qn ?_) | (refine Qq ?_))
                             all_goals (refine zm ?_)
                             all_goals refine zn ?_))
                   all_goals
                     first
                     | (refine zct ?_ -- Qb c7
                        all_goals (refine Q0 ?_; refine Q1 ?_; refine zb1 [_, _, _, _, _, _, _] ?_; refine zsn hS ?_; intro w1 hS; have hS := hS.ns; refine zm ?_; refine zn ?_; refine zr ?_; refine QV vw (Q5 (n := 7) (by kernel_rfl) (by kernel_rfl) (hS.blkAt fd) (by rfl) (by rfl)) vw ?_)
                        all_goals (refine ⟨_, rfl, ?_, hS.sp⟩; (rfl); done))
                     | (refine zcf ?_ -- Qb c7
                        all_goals (refine Q0 ?_; refine Q1 ?_)
                        all_goals (first | (refine Qn ?_) | (refine Qq ?_))
                        all_goals (refine zm ?_; refine zn ?_)
                        all_goals
                          first
                          | (refine zct ?_ -- Qb c8
                             all_goals (refine Q0 ?_; refine Q1 ?_; refine zb2 [_, _, _, _, _, _, _] ?_; refine zsn hS ?_; intro w1 hS; have hS := hS.ns; refine zm ?_; refine zn ?_; refine zr ?_; refine QV vw (Q5 (n := 7) (by kernel_rfl) (by kernel_rfl) (hS.blkAt fd) (by rfl) (by rfl)) vw ?_)
                             all_goals (refine ⟨_, rfl, ?_, hS.sp⟩; (rfl); done))
                          | (refine zcf ?_ -- Qb c8
                             all_goals (refine Q0 ?_; refine Q1 ?_)
                             all_goals (first | (refine Qn ?_) | (refine Qq ?_))
                             all_goals (refine zm ?_; refine zn ?_)
                             all_goals
                               first
                               | (refine zct ?_ -- Qb c9
                                  all_goals (refine Q0 ?_; refine Q1 ?_; refine zb2 [_, _, _, _, _, _, _] ?_; refine zsn hS ?_; intro w1 hS; have hS := hS.ns; refine zm ?_; refine zn ?_; refine zr ?_; refine QV vw (Q5 (n := 7) (by kernel_rfl) (by kernel_rfl) (hS.blkAt fd) (by rfl) (by rfl)) vw ?_)
                                  all_goals (refine ⟨_, rfl, ?_, hS.sp⟩; (rfl); done))
                               | (refine zcf ?_ -- Qb c9
                                  all_goals (refine Q0 ?_; refine Q0 ?_; refine Q1 ?_)
                                  all_goals (first | (refine Qn ?_) | (refine Qq ?_))
                                  all_goals (refine zm ?_; refine zn ?_)
                                  all_goals
                                    first
                                    | (refine zct ?_ -- Qb c10
                                       all_goals refine zsk ?_)
                                    | (refine zcf ?_ -- Qb c10
                                       all_goals (refine Q1 ?_)
                                       all_goals (first | (refine Qn ?_) | (refine Qq ?_))
                                       all_goals (refine zm ?_)
                                       all_goals refine zn ?_)
                                  all_goals
                                    first
                                    | (refine zct ?_ -- Qb c11
                                       all_goals (refine Q0 ?_; refine Q1 ?_; refine zb2 [_, _, _, _, _, _, _] ?_; refine zsn hS ?_; intro w1 hS; have hS := hS.ns; refine zm ?_; refine zn ?_; refine zr ?_; refine QV vw (Q5 (n := 7) (by kernel_rfl) (by kernel_rfl) (hS.blkAt fd) (by rfl) (by rfl)) vw ?_)
                                       all_goals (refine ⟨_, rfl, ?_, hS.sp⟩; (rfl); done))
                                    | (refine zcf ?_ -- Qb c11
                                       all_goals (refine Q0 ?_; refine Q1 ?_)
                                       all_goals (first | (refine Qn ?_) | (refine Qq ?_))
                                       all_goals (refine zm ?_; refine zn ?_)
                                       all_goals
                                         first
                                         | (refine zct ?_ -- Qb c12
                                            all_goals (refine Q0 ?_; refine Q1 ?_; refine zb3 [_, _, _, _, _, _, _] ?_; refine zsn hS ?_; intro w1 hS; have hS := hS.ns; refine zm ?_; refine zn ?_; refine zr ?_; refine QV vw (Q5 (n := 7) (by kernel_rfl) (by kernel_rfl) (hS.blkAt fd) (by rfl) (by rfl)) vw ?_)
                                            all_goals (refine ⟨_, rfl, ?_, hS.sp⟩; (rfl); done))
                                         | (refine zcf ?_ -- Qb c12
                                            all_goals (refine Q0 ?_; refine Q1 ?_)
                                            all_goals (refine Qn ?_)
                                            all_goals (refine zm ?_; refine zn ?_)
                                            all_goals
                                              first
                                              | (refine zct ?_ -- Qb c13
                                                 all_goals (refine Q0 ?_; refine Q1 ?_; refine zb3 [_, _, _, _, _, _, _] ?_; refine zsn hS ?_; intro w1 hS; have hS := hS.ns; refine zm ?_; refine zn ?_; refine zr ?_; refine QV vw (Q5 (n := 7) (by kernel_rfl) (by kernel_rfl) (hS.blkAt fd) (by rfl) (by rfl)) vw ?_)
                                                 all_goals (refine ⟨_, rfl, ?_, hS.sp⟩; (rfl); done))))))))))
    all_goals (refine Q0 ?_; refine Q1 ?_; refine zb0 [_, _, _, _, _, _, _] ?_; refine zsn hS ?_; intro w1 hS; have hS := hS.ns; refine zm ?_; refine zn ?_; refine zr ?_; refine QV vw (Q5 (n := 7) (by kernel_rfl) (by kernel_rfl) (hS.blkAt fd) (by rfl) (by rfl)) vw ?_; refine ⟨_, rfl, ?_, hS.sp⟩; (rfl); done)
theorem rins_c {x : Ins} {m : Module} {cs ds : List Value} (hm : modR.at cx cs m) (hx : insR.at cx ds x) (hS : St cx w L) : Rets Tryz.prog QG [.agg ⟨cs⟩, .agg ⟨ds⟩] w fun u w' => u = .int .i64 (Q3s m.funcs.length x) ∧ St cx w' L := by
  obtain ⟨vf, rfl, hf⟩ := Q47 hm
  obtain ⟨vr, va, rfl, hr, ha⟩ := Q3M hx
  have hlr := hr.len
  have hla := ha.len
  have hln := hf.len
  unfold Q3s
  all_goals refine Qpa ?_
  all_goals (unfold R_InsForm_lc; refine Q0 ?_; refine Q1 ?_; refine zb hS ?_; intro p2 w1 hS; refine zb hS ?_; intro p3 w1 hS; refine zm ?_; refine zn ?_; refine Q0 ?_; refine Q1 ?_; refine zf0 ?_; refine zl hS ?_; refine zR1 (c := fields_c hS) (h := ?_); rintro v1 w1 ⟨rfl, hS⟩; refine zm ?_; refine zxt ?_; refine zxt ?_; refine Q9 hS ?_; intro p5 w1 hS; refine zsn hS ?_; intro w1 hS; have hS := hS.ns; refine zm ?_; refine zn ?_)
  refine zML hS [2, 3, 5] (fun A LL ρ' w' => Has ρ' A ∧ Has ρ' [] ∧ (1 ≤ x.op ∧ x.op ≤ 14) ∧ St cx w' (LL)) ?_ ?_
  · skip
    all_goals (refine Q0 ?_)
    all_goals (cases hop : decide (1 ≤ x.op ∧ x.op ≤ 14))
    all_goals (refine Q1 ?_; refine zm ?_; refine znt ?_; refine zn ?_)
    all_goals
      first
      | (refine zct ?_ -- QG c0
         all_goals (refine Q0 ?_; refine Q1 ?_; refine zm ?_; refine zn ?_; refine zr ?_; refine zf ?_)
         all_goals (refine ⟨_, rfl, ?_, hS.sp⟩; rw [if_pos (by have := of_decide_eq_false hop; omega)]; done))
      | (refine zcf ?_ -- QG c0
         all_goals refine zsk ?_)
    all_goals (exact ⟨zh, zh, by exact of_decide_eq_true hop, hS.sp⟩)
  rintro ρ w1 ⟨hA, hρ, hop, hS⟩; obtain ⟨ρ, rfl⟩ := env2 hA hρ; obtain ⟨a1, ha1⟩ : ∃ b, fA x.op = b := ⟨_, rfl⟩; obtain ⟨a2, ha2⟩ : ∃ b, fB x.op = b := ⟨_, rfl⟩; obtain ⟨a3, ha3⟩ : ∃ b, fC x.op = b := ⟨_, rfl⟩; obtain ⟨a4, ha4⟩ : ∃ b, fK x.op = b := ⟨_, rfl⟩; obtain ⟨a5, ha5⟩ : ∃ b, fN x.op = b := ⟨_, rfl⟩; obtain ⟨a6, ha6⟩ : ∃ b, fG x.op = b := ⟨_, rfl⟩; obtain ⟨a7, ha7⟩ : ∃ b, fR x.op = b := ⟨_, rfl⟩; rw [ha1, ha2, ha3, ha4, ha5, ha6, ha7] at hS
  refine zML hS [2, 3] (fun A LL ρ' w' => Has ρ' A ∧ Has ρ' [] ∧ (¬ x.odd) ∧ St cx w' (LL)) ?_ ?_
  · skip
    all_goals (refine Q0 ?_; refine Q1 ?_)
    refine zKL hS 8 [2, 3, 5] (fun A LL ρ' w' => ∃ (q1 : Bool), Has ρ' A ∧ Has ρ' [(22, .bool q1)] ∧ (q1 = true ↔ (fA x.op = false ∧ x.a ≠ 0)) ∧ St cx w' (LL)) ?_ ?_
    · skip
      all_goals (refine zf0 ?_; refine zl hS ?_)
      all_goals (cases a1)
      all_goals (refine znt ?_; refine zm ?_; (first | refine zgn ?_ | (refine zgy ?_; refine zf0 ?_)); (first | refine zgn ?_ | (refine zgy ?_; refine zl hS ?_)))
      all_goals (first | refine zgn ?_ | (refine zgy ?_; (first | (refine Q1h ?_) | (refine Q1j ?_) | (refine Qv rfl rfl (fun hc => ?_) (fun hc => ?_)))))
      all_goals ((first | (refine zpt ?_) | (refine zpf ?_)); refine Q5B ?_; refine Q2r ?_)
      all_goals (first | (exact ⟨_, zh, zh, by exact ⟨fun _ => ⟨(by first | rfl | assumption), by omega⟩, fun _ => rfl⟩, hS.sp⟩) | (exact ⟨_, zh, zh, by exact ⟨fun h => Bool.noConfusion h, fun h => by obtain ⟨h1, h2⟩ := h; first | (exfalso; omega) | (simp_all; done)⟩, hS.sp⟩))
    rintro ρ w1 ⟨q1, hA, hρ, hq1, hS⟩; obtain ⟨ρ, rfl⟩ := env2 hA hρ
    refine zKL hS 10 [2, 3, 5] (fun A LL ρ' w' => ∃ (q2 : Bool), Has ρ' A ∧ Has ρ' [(32, .bool q2)] ∧ (q2 = true ↔ ((fA x.op = false ∧ x.a ≠ 0) ∨ (fB x.op = false ∧ x.b ≠ 0))) ∧ St cx w' (LL)) ?_ ?_
    · skip
      all_goals (cases q1)
      all_goals (refine zm ?_; (first | refine zgn ?_ | (refine zgy ?_; refine zf0 ?_)); (first | refine zgn ?_ | (refine zgy ?_; refine zl hS ?_)))
      all_goals (cases a2)
      all_goals ((first | refine zgn ?_ | (refine zgy ?_; refine znt ?_)); (first | refine zgn ?_ | (refine zgy ?_; refine zm ?_)); (first | refine zgn ?_ | (refine zgy ?_; refine zf0 ?_)); (first | refine zgn ?_ | (refine zgy ?_; refine zl hS ?_)))
      all_goals (first | refine zgn ?_ | (refine zgy ?_; (first | (refine Q1h ?_) | (refine Q1j ?_) | (refine Qv rfl rfl (fun hc => ?_) (fun hc => ?_)))))
      all_goals ((first | refine zgn ?_ | (refine zgy ?_; (first | (refine zpt ?_) | (refine zpf ?_)))); (first | (refine zpt ?_) | (refine zpf ?_)); refine Q5B ?_; refine Q2r ?_)
      all_goals (first | (exact ⟨_, zh, zh, by exact ⟨fun _ => .inl (hq1.1 rfl), fun _ => rfl⟩, hS.sp⟩) | (exact ⟨_, zh, zh, by exact ⟨fun _ => .inr ⟨(by first | rfl | assumption), by omega⟩, fun _ => rfl⟩, hS.sp⟩) | (exact ⟨_, zh, zh, by exact ⟨fun h => Bool.noConfusion h, fun h => h.elim (fun h => hq1.2 h) (fun h => by obtain ⟨h1, h2⟩ := h; first | (exfalso; omega) | (simp_all; done))⟩, hS.sp⟩))
    rintro ρ w1 ⟨q2, hA, hρ, hq2, hS⟩; obtain ⟨ρ, rfl⟩ := env2 hA hρ
    refine zKL hS 10 [2, 3, 5] (fun A LL ρ' w' => ∃ (q3 : Bool), Has ρ' A ∧ Has ρ' [(42, .bool q3)] ∧ (q3 = true ↔ (((fA x.op = false ∧ x.a ≠ 0) ∨ (fB x.op = false ∧ x.b ≠ 0)) ∨ (fC x.op = false ∧ x.c ≠ 0))) ∧ St cx w' (LL)) ?_ ?_
    · skip
      all_goals (cases q2)
      all_goals (refine zm ?_; (first | refine zgn ?_ | (refine zgy ?_; refine zf0 ?_)); (first | refine zgn ?_ | (refine zgy ?_; refine zl hS ?_)))
      all_goals (cases a3)
      all_goals ((first | refine zgn ?_ | (refine zgy ?_; refine znt ?_)); (first | refine zgn ?_ | (refine zgy ?_; refine zm ?_)); (first | refine zgn ?_ | (refine zgy ?_; refine zf0 ?_)); (first | refine zgn ?_ | (refine zgy ?_; refine zl hS ?_)))
      all_goals (first | refine zgn ?_ | (refine zgy ?_; (first | (refine Q1h ?_) | (refine Q1j ?_) | (refine Qv rfl rfl (fun hc => ?_) (fun hc => ?_)))))
      all_goals ((first | refine zgn ?_ | (refine zgy ?_; (first | (refine zpt ?_) | (refine zpf ?_)))); (first | (refine zpt ?_) | (refine zpf ?_)); refine Q5B ?_; refine Q2r ?_)
      all_goals (first | (exact ⟨_, zh, zh, by exact ⟨fun _ => .inl (hq2.1 rfl), fun _ => rfl⟩, hS.sp⟩) | (exact ⟨_, zh, zh, by exact ⟨fun _ => .inr ⟨(by first | rfl | assumption), by omega⟩, fun _ => rfl⟩, hS.sp⟩) | (exact ⟨_, zh, zh, by exact ⟨fun h => Bool.noConfusion h, fun h => h.elim (fun h => hq2.2 h) (fun h => by obtain ⟨h1, h2⟩ := h; first | (exfalso; omega) | (simp_all; done))⟩, hS.sp⟩))
    rintro ρ w1 ⟨q3, hA, hρ, hq3, hS⟩; obtain ⟨ρ, rfl⟩ := env2 hA hρ
    refine zKL hS 10 [2, 3, 5] (fun A LL ρ' w' => ∃ (q4 : Bool), Has ρ' A ∧ Has ρ' [(52, .bool q4)] ∧ (q4 = true ↔ ((((fA x.op = false ∧ x.a ≠ 0) ∨ (fB x.op = false ∧ x.b ≠ 0)) ∨ (fC x.op = false ∧ x.c ≠ 0)) ∨ (fK x.op = false ∧ x.k ≠ 0))) ∧ St cx w' (LL)) ?_ ?_
    · skip
      all_goals (cases q3)
      all_goals (refine zm ?_; (first | refine zgn ?_ | (refine zgy ?_; refine zf0 ?_)); (first | refine zgn ?_ | (refine zgy ?_; refine zl hS ?_)))
      all_goals (cases a4)
      all_goals ((first | refine zgn ?_ | (refine zgy ?_; refine znt ?_)); (first | refine zgn ?_ | (refine zgy ?_; refine zm ?_)); (first | refine zgn ?_ | (refine zgy ?_; refine zf0 ?_)); (first | refine zgn ?_ | (refine zgy ?_; refine zl hS ?_)))
      all_goals (first | refine zgn ?_ | (refine zgy ?_; (first | (refine Q1h ?_) | (refine Q1j ?_) | (refine Qv rfl rfl (fun hc => ?_) (fun hc => ?_)))))
      all_goals ((first | refine zgn ?_ | (refine zgy ?_; (first | (refine zpt ?_) | (refine zpf ?_)))); (first | (refine zpt ?_) | (refine zpf ?_)); refine Q5B ?_; refine Q2r ?_)
      all_goals (first | (exact ⟨_, zh, zh, by exact ⟨fun _ => .inl (hq3.1 rfl), fun _ => rfl⟩, hS.sp⟩) | (exact ⟨_, zh, zh, by exact ⟨fun _ => .inr ⟨(by first | rfl | assumption), by omega⟩, fun _ => rfl⟩, hS.sp⟩) | (exact ⟨_, zh, zh, by exact ⟨fun h => Bool.noConfusion h, fun h => h.elim (fun h => hq3.2 h) (fun h => by obtain ⟨h1, h2⟩ := h; first | (exfalso; omega) | (simp_all; done))⟩, hS.sp⟩))
    rintro ρ w1 ⟨q4, hA, hρ, hq4, hS⟩; obtain ⟨ρ, rfl⟩ := env2 hA hρ
    refine zKL hS 10 [2, 3, 5] (fun A LL ρ' w' => ∃ (q5 : Bool), Has ρ' A ∧ Has ρ' [(62, .bool q5)] ∧ (q5 = true ↔ (((((fA x.op = false ∧ x.a ≠ 0) ∨ (fB x.op = false ∧ x.b ≠ 0)) ∨ (fC x.op = false ∧ x.c ≠ 0)) ∨ (fK x.op = false ∧ x.k ≠ 0)) ∨ (fN x.op = false ∧ x.n ≠ 0))) ∧ St cx w' (LL)) ?_ ?_
    · skip
      all_goals (cases q4)
      all_goals (refine zm ?_; (first | refine zgn ?_ | (refine zgy ?_; refine zf0 ?_)); (first | refine zgn ?_ | (refine zgy ?_; refine zl hS ?_)))
      all_goals (cases a5)
      all_goals ((first | refine zgn ?_ | (refine zgy ?_; refine znt ?_)); (first | refine zgn ?_ | (refine zgy ?_; refine zm ?_)); (first | refine zgn ?_ | (refine zgy ?_; refine zf0 ?_)); (first | refine zgn ?_ | (refine zgy ?_; refine zl hS ?_)))
      all_goals (first | refine zgn ?_ | (refine zgy ?_; (first | (refine Q1h ?_) | (refine Q1j ?_) | (refine Qv rfl rfl (fun hc => ?_) (fun hc => ?_)))))
      all_goals ((first | refine zgn ?_ | (refine zgy ?_; (first | (refine zpt ?_) | (refine zpf ?_)))); (first | (refine zpt ?_) | (refine zpf ?_)); refine Q5B ?_; refine Q2r ?_)
      all_goals (first | (exact ⟨_, zh, zh, by exact ⟨fun _ => .inl (hq4.1 rfl), fun _ => rfl⟩, hS.sp⟩) | (exact ⟨_, zh, zh, by exact ⟨fun _ => .inr ⟨(by first | rfl | assumption), by omega⟩, fun _ => rfl⟩, hS.sp⟩) | (exact ⟨_, zh, zh, by exact ⟨fun h => Bool.noConfusion h, fun h => h.elim (fun h => hq4.2 h) (fun h => by obtain ⟨h1, h2⟩ := h; first | (exfalso; omega) | (simp_all; done))⟩, hS.sp⟩))
    rintro ρ w1 ⟨q5, hA, hρ, hq5, hS⟩; obtain ⟨ρ, rfl⟩ := env2 hA hρ
    refine zKL hS 11 [2, 3, 5] (fun A LL ρ' w' => ∃ (q6 : Bool), Has ρ' A ∧ Has ρ' [(73, .bool q6)] ∧ (q6 = true ↔ ((((((fA x.op = false ∧ x.a ≠ 0) ∨ (fB x.op = false ∧ x.b ≠ 0)) ∨ (fC x.op = false ∧ x.c ≠ 0)) ∨ (fK x.op = false ∧ x.k ≠ 0)) ∨ (fN x.op = false ∧ x.n ≠ 0)) ∨ (fG x.op = false ∧ 0 < x.regs.length))) ∧ St cx w' (LL)) ?_ ?_
    · skip
      all_goals (cases q5)
      all_goals (refine zm ?_; (first | refine zgn ?_ | (refine zgy ?_; refine zf0 ?_)); (first | refine zgn ?_ | (refine zgy ?_; refine zl hS ?_)))
      all_goals (cases a6)
      all_goals ((first | refine zgn ?_ | (refine zgy ?_; refine znt ?_)); (first | refine zgn ?_ | (refine zgy ?_; refine zm ?_)); (first | refine zgn ?_ | (refine zgy ?_; refine zf0 ?_)); (first | refine zgn ?_ | (refine zgy ?_; refine zl hS ?_)); (first | refine zgn ?_ | (refine zgy ?_; refine zL ?_)))
      all_goals (first | refine zgn ?_ | (refine zgy ?_; (first | (refine QD ?_) | (refine QR ?_) | (refine Qr rfl rfl (fun hc => ?_) (fun hc => ?_)))))
      all_goals ((first | refine zgn ?_ | (refine zgy ?_; (first | (refine zpt ?_) | (refine zpf ?_)))); (first | (refine zpt ?_) | (refine zpf ?_)); refine Q5B ?_; refine Q2r ?_)
      all_goals (first | (exact ⟨_, zh, zh, by exact ⟨fun _ => .inl (hq5.1 rfl), fun _ => rfl⟩, hS.sp⟩) | (exact ⟨_, zh, zh, by exact ⟨fun _ => .inr ⟨(by first | rfl | assumption), by omega⟩, fun _ => rfl⟩, hS.sp⟩) | (exact ⟨_, zh, zh, by exact ⟨fun h => Bool.noConfusion h, fun h => h.elim (fun h => hq5.2 h) (fun h => by obtain ⟨h1, h2⟩ := h; first | (exfalso; omega) | (simp_all; done))⟩, hS.sp⟩))
    rintro ρ w1 ⟨q6, hA, hρ, hq6, hS⟩; obtain ⟨ρ, rfl⟩ := env2 hA hρ
    all_goals (cases q6)
    all_goals (refine zm ?_; (first | refine zgn ?_ | (refine zgy ?_; refine zf0 ?_)); (first | refine zgn ?_ | (refine zgy ?_; refine zl hS ?_)))
    all_goals (cases a7)
    all_goals ((first | refine zgn ?_ | (refine zgy ?_; refine znt ?_)); (first | refine zgn ?_ | (refine zgy ?_; refine zm ?_)); (first | refine zgn ?_ | (refine zgy ?_; refine zf0 ?_)); (first | refine zgn ?_ | (refine zgy ?_; refine zl hS ?_)); (first | refine zgn ?_ | (refine zgy ?_; refine zL ?_)))
    all_goals (first | refine zgn ?_ | (refine zgy ?_; (first | (refine QD ?_) | (refine QR ?_) | (refine Qr rfl rfl (fun hc => ?_) (fun hc => ?_)))))
    all_goals ((first | refine zgn ?_ | (refine zgy ?_; (first | (refine zpt ?_) | (refine zpf ?_)))); (first | (refine zpt ?_) | (refine zpf ?_)); refine zn ?_)
    all_goals
      first
      | (refine zct ?_ -- QG c1
         all_goals (refine Q0 ?_; refine Q1 ?_; refine zm ?_; refine zn ?_; refine zr ?_; refine zf ?_)
         all_goals (first | (refine ⟨_, rfl, ?_, hS.sp⟩; rw [if_pos (by have := of_decide_eq_false hop; omega)]; done) | (refine ⟨_, rfl, ?_, hS.sp⟩; have ho : x.odd := (by unfold Ins.odd; simp only [← or_assoc]; first | exact .inl (hq6.1 rfl) | exact .inr ⟨(by first | rfl | assumption), by omega⟩); rw [if_neg (by omega), if_pos ho]; done)))
      | (refine zcf ?_ -- QG c1
         all_goals refine zsk ?_)
    all_goals (exact ⟨zh, zh, by intro h; unfold Ins.odd at h; simp only [← or_assoc] at h; exact h.elim (fun h => Bool.noConfusion (hq6.2 h)) (fun h => by obtain ⟨h1, h2⟩ := h; first | (exfalso; omega) | (simp_all; done)), hS.sp⟩)
  rintro ρ w1 ⟨hA, hρ, hodd, hS⟩; obtain ⟨ρ, rfl⟩ := env2 hA hρ
  all_goals (refine Q0 ?_; refine Q0 ?_; clear hm hx; refine Q1 ?_; refine zf0 ?_; refine zl hS ?_; refine zn ?_; refine Qa ?_; refine Q0 ?_; refine Q1 ?_)
  all_goals (first | (refine Qn ?_) | (refine Qq ?_) | (refine Qg rfl rfl (fun hc => ?_) (fun hc => ?_)))
  all_goals (refine zm ?_; refine zn ?_)
  all_goals
    first
    | (refine zct ?_ -- QG c2
       all_goals (refine Q0 ?_; refine Q1 ?_; refine zf0 ?_; refine zl hS ?_)
       all_goals (first | (refine Q1b ?_) | (refine Q1z ?_) | (refine QH rfl rfl (fun hc => ?_) (fun hc => ?_)))
       all_goals (refine zm ?_; (first | refine zgn ?_ | (refine zgy ?_; refine zf0 ?_)); (first | refine zgn ?_ | (refine zgy ?_; refine zl hS ?_)))
       all_goals (first | refine zgn ?_ | (refine zgy ?_; (first | (refine QD ?_) | (refine QR ?_) | (refine Qr rfl rfl (fun hc => ?_) (fun hc => ?_)))))
       all_goals ((first | (refine zpt ?_) | (refine zpf ?_)); refine zn ?_)
       all_goals
         first
         | (refine zct ?_ -- QG c3
            all_goals (refine Q0 ?_; refine Q1 ?_; refine zm ?_; refine zn ?_; refine zr ?_; refine zf ?_)
            all_goals (first | (refine ⟨_, rfl, ?_, hS.sp⟩; rw [if_pos (by have := of_decide_eq_false hop; omega)]; done) | (refine ⟨_, rfl, ?_, hS.sp⟩; have ho : x.odd := (by unfold Ins.odd; simp only [← or_assoc]; first | exact .inl (hq6.1 rfl) | exact .inr ⟨(by first | rfl | assumption), by omega⟩); rw [if_neg (by omega), if_pos ho]; done) | (refine ⟨_, rfl, ?_, hS.sp⟩; rw [if_neg (by omega), if_neg hodd]; unfold Q2w; (repeat (first | rw [if_pos (by omega)] | rw [if_neg (by omega)])); done)))
         | (refine zcf ?_ -- QG c3
            all_goals refine zsk ?_))
    | (refine zcf ?_ -- QG c2
       all_goals (refine Q0 ?_; refine Q1 ?_)
       all_goals (first | (refine Qn ?_) | (refine Qq ?_) | (refine Qg rfl rfl (fun hc => ?_) (fun hc => ?_)))
       all_goals (refine zm ?_; refine zn ?_)
       all_goals
         first
         | (refine zct ?_ -- QG c4
            all_goals (refine Q0 ?_; refine Q1 ?_; refine zf0 ?_; refine zl hS ?_; refine zL ?_)
            all_goals (first | (refine QD ?_) | (refine QR ?_) | (refine Qr rfl rfl (fun hc => ?_) (fun hc => ?_)))
            all_goals (refine zn ?_)
            all_goals
              first
              | (refine zct ?_ -- QG c5
                 all_goals (refine Q0 ?_; refine Q1 ?_; refine zm ?_; refine zn ?_; refine zr ?_; refine zf ?_)
                 all_goals (first | (refine ⟨_, rfl, ?_, hS.sp⟩; rw [if_pos (by have := of_decide_eq_false hop; omega)]; done) | (refine ⟨_, rfl, ?_, hS.sp⟩; have ho : x.odd := (by unfold Ins.odd; simp only [← or_assoc]; first | exact .inl (hq6.1 rfl) | exact .inr ⟨(by first | rfl | assumption), by omega⟩); rw [if_neg (by omega), if_pos ho]; done) | (refine ⟨_, rfl, ?_, hS.sp⟩; rw [if_neg (by omega), if_neg hodd]; unfold Q2w; (repeat (first | rw [if_pos (by omega)] | rw [if_neg (by omega)])); done)))
              | (refine zcf ?_ -- QG c5
                 all_goals refine zsk ?_))
         | (refine zcf ?_ -- QG c4
            all_goals (refine Q0 ?_; refine Q0 ?_; refine Q1 ?_)
            all_goals (first | (refine Qn ?_) | (refine Qq ?_) | (refine Qg rfl rfl (fun hc => ?_) (fun hc => ?_)))
            all_goals (refine zm ?_; refine zn ?_)
            all_goals
              first
              | (refine zct ?_ -- QG c6
                 all_goals refine zsk ?_)
              | (refine zcf ?_ -- QG c6
                 all_goals (refine Q1 ?_)
                 all_goals (first | (refine Qn ?_) | (refine Qq ?_) | (refine Qg rfl rfl (fun hc => ?_) (fun hc => ?_)))
                 all_goals (refine zm ?_)
                 all_goals refine zn ?_)
            all_goals
              first
              | (refine zct ?_ -- QG c7
                 all_goals (refine Q0 ?_; refine Q1 ?_; refine zf0 ?_; refine zl hS ?_)
                 all_goals (first | (refine Q1b ?_) | (refine Q1z ?_) | (refine QH rfl rfl (fun hc => ?_) (fun hc => ?_)))
                 all_goals (refine zm ?_; (first | refine zgn ?_ | (refine zgy ?_; refine zf0 ?_)); (first | refine zgn ?_ | (refine zgy ?_; refine zl hS ?_)))
                 all_goals (first | refine zgn ?_ | (refine zgy ?_; (first | (refine QD ?_) | (refine QR ?_) | (refine Qr rfl rfl (fun hc => ?_) (fun hc => ?_)))))
                 all_goals ((first | (refine zpt ?_) | (refine zpf ?_)); refine zn ?_)
                 all_goals
                   first
                   | (refine zct ?_ -- QG c8
                      all_goals (refine Q0 ?_; refine Q1 ?_; refine zm ?_; refine zn ?_; refine zr ?_; refine zf ?_)
                      all_goals (first | (refine ⟨_, rfl, ?_, hS.sp⟩; rw [if_pos (by have := of_decide_eq_false hop; omega)]; done) | (refine ⟨_, rfl, ?_, hS.sp⟩; have ho : x.odd := (by unfold Ins.odd; simp only [← or_assoc]; first | exact .inl (hq6.1 rfl) | exact .inr ⟨(by first | rfl | assumption), by omega⟩); rw [if_neg (by omega), if_pos ho]; done) | (refine ⟨_, rfl, ?_, hS.sp⟩; rw [if_neg (by omega), if_neg hodd]; unfold Q2w; (repeat (first | rw [if_pos (by omega)] | rw [if_neg (by omega)])); done)))
                   | (refine zcf ?_ -- QG c8
                      all_goals refine zsk ?_))
              | (refine zcf ?_ -- QG c7
                 all_goals (refine Q0 ?_; refine Q1 ?_)
                 all_goals (first | (refine Qn ?_) | (refine Qq ?_) | (refine Qg rfl rfl (fun hc => ?_) (fun hc => ?_)))
                 all_goals (refine zm ?_; refine zn ?_)
                 all_goals
                   first
                   | (refine zct ?_ -- QG c9
                      all_goals (refine Q0 ?_; refine Q0 ?_; refine Q1 ?_; refine zf0 ?_; refine zl hS ?_)
                      all_goals (first | (refine Q1b ?_) | (refine Q1z ?_) | (refine QH rfl rfl (fun hc => ?_) (fun hc => ?_)))
                      all_goals (refine zm ?_; (first | refine zgn ?_ | (refine zgy ?_; refine zf0 ?_)); (first | refine zgn ?_ | (refine zgy ?_; refine zl hS ?_)); (first | refine zgn ?_ | (refine zgy ?_; refine zf0 ?_)); (first | refine zgn ?_ | (refine zgy ?_; refine zl hS ?_)); (first | refine zgn ?_ | (refine zgy ?_; refine zL ?_)))
                      all_goals (first | refine zgn ?_ | (refine zgy ?_; (first | (refine Q5Y ?_) | (refine Q6N ?_) | (refine Q35 rfl rfl (fun hc => ?_) (fun hc => ?_)))))
                      all_goals ((first | (refine zpt ?_) | (refine zpf ?_)); refine zn ?_)
                      all_goals
                        first
                        | (refine zct ?_ -- QG c10
                           all_goals (refine Q0 ?_; refine Q1 ?_; refine zm ?_; refine zn ?_; refine zr ?_; refine zf ?_)
                           all_goals (first | (refine ⟨_, rfl, ?_, hS.sp⟩; rw [if_pos (by have := of_decide_eq_false hop; omega)]; done) | (refine ⟨_, rfl, ?_, hS.sp⟩; have ho : x.odd := (by unfold Ins.odd; simp only [← or_assoc]; first | exact .inl (hq6.1 rfl) | exact .inr ⟨(by first | rfl | assumption), by omega⟩); rw [if_neg (by omega), if_pos ho]; done) | (refine ⟨_, rfl, ?_, hS.sp⟩; rw [if_neg (by omega), if_neg hodd]; unfold Q2w; (repeat (first | rw [if_pos (by omega)] | rw [if_neg (by omega)])); done)))
                        | (refine zcf ?_ -- QG c10
                           all_goals refine zsk ?_)
                      all_goals (refine Q0 ?_; refine Q1 ?_; refine zf0 ?_; refine zl hS ?_; refine zL ?_)
                      all_goals (first | (refine QD ?_) | (refine QR ?_) | (refine Qr rfl rfl (fun hc => ?_) (fun hc => ?_)))
                      all_goals (refine zm ?_; (first | refine zgn ?_ | (refine zgy ?_; refine zf0 ?_)); (first | refine zgn ?_ | (refine zgy ?_; refine zl hS ?_)); (first | refine zgn ?_ | (refine zgy ?_; refine zL ?_)))
                      all_goals (first | refine zgn ?_ | (refine zgy ?_; (first | (refine QD ?_) | (refine QR ?_) | (refine Qr rfl rfl (fun hc => ?_) (fun hc => ?_)))))
                      all_goals ((first | (refine zpt ?_) | (refine zpf ?_)); refine zn ?_)
                      all_goals
                        first
                        | (refine zct ?_ -- QG c11
                           all_goals (refine Q0 ?_; refine Q1 ?_; refine zm ?_; refine zn ?_; refine zr ?_; refine zf ?_)
                           all_goals (first | (refine ⟨_, rfl, ?_, hS.sp⟩; rw [if_pos (by have := of_decide_eq_false hop; omega)]; done) | (refine ⟨_, rfl, ?_, hS.sp⟩; have ho : x.odd := (by unfold Ins.odd; simp only [← or_assoc]; first | exact .inl (hq6.1 rfl) | exact .inr ⟨(by first | rfl | assumption), by omega⟩); rw [if_neg (by omega), if_pos ho]; done) | (refine ⟨_, rfl, ?_, hS.sp⟩; rw [if_neg (by omega), if_neg hodd]; unfold Q2w; (repeat (first | rw [if_pos (by omega)] | rw [if_neg (by omega)])); done)))
                        | (refine zcf ?_ -- QG c11
                           all_goals refine zsk ?_))
                   | (refine zcf ?_ -- QG c9
                      all_goals refine zsk ?_))))
  all_goals (refine Q0 ?_; refine Q1 ?_; refine zm ?_; refine zn ?_; refine zr ?_; refine zf ?_; (first | (refine ⟨_, rfl, ?_, hS.sp⟩; rw [if_pos (by have := of_decide_eq_false hop; omega)]; done) | (refine ⟨_, rfl, ?_, hS.sp⟩; have ho : x.odd := (by unfold Ins.odd; simp only [← or_assoc]; first | exact .inl (hq6.1 rfl) | exact .inr ⟨(by first | rfl | assumption), by omega⟩); rw [if_neg (by omega), if_pos ho]; done) | (refine ⟨_, rfl, ?_, hS.sp⟩; rw [if_neg (by omega), if_neg hodd]; unfold Q2w; (repeat (first | rw [if_pos (by omega)] | rw [if_neg (by omega)])); done)))
end Go.Proofs.YtjecflbbcnocdaaGreatDoor
namespace Go.Proofs.YtjecflbbcnocdaaGreatDoor
open Go.Lir
set_option maxHeartbeats 1000000
attribute [local irreducible] LC.wp Q2 QA QB retQ Q1e LO.wp Qj Calls
set_option linter.unusedSimpArgs false
set_option linter.unusedVariables false
attribute [local irreducible] orF mkF orC Q2w Q3s Q2U Q3Y Qu Qt Qy Q3C Q3I QjM Qhu
variable {cx : Cx} {w : World} {L : List Res} {i : Nat}
theorem fault_if (c : Int) : (if decide (c ≠ 0) = true then c else 0) = c := by by_cases h : c = 0 <;> simp [h]
theorem rto_c {x : Fun} {t : To} {is : Bool} {cs ds : List Value} (hx : funcR.at cx cs x) (ht : toR.at cx ds t) (hS : St cx w L) :
    Rets Tryz.prog Q4B [.agg ⟨cs⟩, .agg ⟨ds⟩, .bool is] w fun u w' => u = .int .i64 (Q2U x.blocks.length t is) ∧ St cx w' L := by
  obtain ⟨vp, vr, vb, rfl, hp, hr, hb⟩ := Q1L hx
  obtain ⟨v1, v2, rfl, h1, h2⟩ := Q4F ht
  have hlb := hb.len
  have hb1 := h1.len
  have hb2 := h2.len
  unfold Q2U
  cases is with
  | false =>
    all_goals refine QhC ?_
    all_goals (unfold R_toForm_lc; refine Q0 ?_; refine Q1 ?_; refine zb hS ?_; intro p3 w1 hS; refine zb hS ?_; intro p4 w1 hS; refine zm ?_; refine zn ?_; refine Q0 ?_; refine Q0 ?_; refine Q1 ?_; refine zm ?_; refine znt ?_; refine zn ?_)
    all_goals refine zct ?_
    all_goals (refine Q0 ?_; refine Q0 ?_; refine Q1 ?_; refine zf0 ?_; refine zl hS ?_)
    all_goals (first | (refine Q1h ?_) | (refine Q1j ?_) | (refine Qv rfl rfl (fun hc => ?_) (fun hc => ?_)))
    all_goals (refine zm ?_; (first | refine zgn ?_ | (refine zgy ?_; refine zf0 ?_)); (first | refine zgn ?_ | (refine zgy ?_; refine zl hS ?_)); (first | refine zgn ?_ | (refine zgy ?_; refine zL ?_)); (first | refine zgn ?_ | (refine zgy ?_; refine zf0 ?_)); (first | refine zgn ?_ | (refine zgy ?_; refine zl hS ?_)); (first | refine zgn ?_ | (refine zgy ?_; refine zL ?_)); (first | refine zgn ?_ | (refine zgy ?_; refine zad ?_)))
    all_goals (first | refine zgn ?_ | (refine zgy ?_; (first | (refine QD ?_) | (refine QR ?_) | (refine Qr rfl rfl (fun hc => ?_) (fun hc => ?_)))))
    all_goals ((first | (refine zpt ?_) | (refine zpf ?_)); refine zn ?_)
    all_goals
      first
      | (refine zct ?_ -- Q4B c1
         all_goals (refine Q0 ?_; refine Q1 ?_; refine zm ?_; refine zn ?_; refine zr ?_; refine zf ?_)
         all_goals (refine ⟨_, rfl, ?_, hS.sp⟩; (rw [if_pos rfl]; first | rw [if_pos (by omega)] | rw [if_neg (by omega)]); done))
      | (refine zcf ?_ -- Q4B c1
         all_goals refine zsk ?_)
    all_goals (refine Q0 ?_; refine Q1 ?_; refine zm ?_; refine zn ?_; refine zr ?_; refine zf ?_; refine ⟨_, rfl, ?_, hS.sp⟩; (rw [if_pos rfl]; first | rw [if_pos (by omega)] | rw [if_neg (by omega)]); done)
  | true =>
    all_goals refine QhC ?_
    all_goals (unfold R_toForm_lc; refine Q0 ?_; refine Q1 ?_; refine zb hS ?_; intro p3 w1 hS; refine zb hS ?_; intro p4 w1 hS; refine zm ?_; refine zn ?_; refine Q0 ?_; refine Q0 ?_; refine Q1 ?_; refine zm ?_; refine znt ?_; refine zn ?_)
    all_goals refine zcf ?_
    all_goals (refine zsk ?_; refine Q0 ?_; refine Q0 ?_; refine Q1 ?_; refine zf0 ?_; refine zl hS ?_)
    all_goals (first | (refine Q1b ?_) | (refine Q1z ?_) | (refine QH rfl rfl (fun hc => ?_) (fun hc => ?_)))
    all_goals (refine zm ?_; (first | refine zgn ?_ | (refine zgy ?_; refine zf0 ?_)); (first | refine zgn ?_ | (refine zgy ?_; refine zl hS ?_)); (first | refine zgn ?_ | (refine zgy ?_; refine zf0 ?_)); (first | refine zgn ?_ | (refine zgy ?_; refine zl hS ?_)); (first | refine zgn ?_ | (refine zgy ?_; refine zL ?_)))
    all_goals (first | refine zgn ?_ | (refine zgy ?_; (first | (refine Q5Y ?_) | (refine Q6N ?_) | (refine Q35 rfl rfl (fun hc => ?_) (fun hc => ?_)))))
    all_goals ((first | (refine zpt ?_) | (refine zpf ?_)); refine zn ?_)
    all_goals
      first
      | (refine zct ?_ -- Q4B c2
         all_goals (refine Q0 ?_; refine Q1 ?_; refine zm ?_; refine zn ?_; refine zr ?_; refine zf ?_)
         all_goals (refine ⟨_, rfl, ?_, hS.sp⟩; rw [if_neg Bool.noConfusion]; (repeat (first | rw [if_pos (by omega)] | rw [if_neg (by omega)])); done))
      | (refine zcf ?_ -- Q4B c2
         all_goals refine zsk ?_)
    all_goals (refine Q0 ?_; refine Q0 ?_; refine Q1 ?_; refine zf0 ?_; refine zl hS ?_; refine zL ?_)
    all_goals (first | (refine QD ?_) | (refine QR ?_) | (refine Qr rfl rfl (fun hc => ?_) (fun hc => ?_)))
    all_goals (refine zm ?_; (first | refine zgn ?_ | (refine zgy ?_; refine zf0 ?_)); (first | refine zgn ?_ | (refine zgy ?_; refine zl hS ?_)); (first | refine zgn ?_ | (refine zgy ?_; refine zL ?_)))
    all_goals (first | refine zgn ?_ | (refine zgy ?_; (first | (refine QD ?_) | (refine QR ?_) | (refine Qr rfl rfl (fun hc => ?_) (fun hc => ?_)))))
    all_goals ((first | (refine zpt ?_) | (refine zpf ?_)); refine zn ?_)
    all_goals
      first
      | (refine zct ?_ -- Q4B c3
         all_goals (refine Q0 ?_; refine Q1 ?_; refine zm ?_; refine zn ?_; refine zr ?_; refine zf ?_)
         all_goals (refine ⟨_, rfl, ?_, hS.sp⟩; rw [if_neg Bool.noConfusion]; (repeat (first | rw [if_pos (by omega)] | rw [if_neg (by omega)])); done))
      | (refine zcf ?_ -- Q4B c3
         all_goals refine zsk ?_)
    all_goals (refine Q0 ?_; refine Q1 ?_; refine zm ?_; refine zn ?_; refine zr ?_; refine zf ?_; refine ⟨_, rfl, ?_, hS.sp⟩; rw [if_neg Bool.noConfusion]; (repeat (first | rw [if_pos (by omega)] | rw [if_neg (by omega)])); done)
theorem rend_c {x : Fun} {e : Tail} {cs ds : List Value} (hx : funcR.at cx cs x) (he : endR.at cx ds e) (hS : St cx w L) :
    Rets Tryz.prog Q2Z [.agg ⟨cs⟩, .agg ⟨ds⟩] w fun u w' => u = .int .i64 (Q3Y x.blocks.length e) ∧ St cx w' L := by
  obtain ⟨vp, vr, vb, rfl, hp, hr, hb⟩ := Q1L hx
  obtain ⟨v1, v2, v3, v4, v5, rfl, h1, h2, h3, h4, h5⟩ := Qbl he
  have s5 := h5.len
  unfold Q3Y
  all_goals refine Qpl ?_
  all_goals (unfold R_EndForm_lc; refine Q0 ?_; refine Q1 ?_; refine zb hS ?_; intro p2 w1 hS; refine zb hS ?_; intro p3 w1 hS; refine zm ?_; refine zn ?_; refine Q0 ?_; refine Q0 ?_; refine Q1 ?_; refine zf0 ?_; refine zl hS ?_)
  all_goals (first | (refine Q1b ?_) | (refine Q1z ?_) | (refine QH rfl rfl (fun hc => ?_) (fun hc => ?_)))
  all_goals (refine zm ?_; (first | refine zgn ?_ | (refine zgy ?_; refine zf0 ?_)); (first | refine zgn ?_ | (refine zgy ?_; refine zl hS ?_)))
  all_goals (first | refine zgn ?_ | (refine zgy ?_; (first | (refine QD ?_) | (refine QR ?_) | (refine Qr rfl rfl (fun hc => ?_) (fun hc => ?_)))))
  all_goals ((first | (refine zpt ?_) | (refine zpf ?_)); refine zn ?_)
  all_goals
    first
    | (refine zct ?_ -- Q2Z c0
       all_goals (refine Q0 ?_; refine Q1 ?_; refine zm ?_; refine zn ?_; refine zr ?_; refine zf ?_)
       all_goals (refine ⟨_, rfl, ?_, hS.sp⟩; rw [if_pos (by omega)]; done))
    | (refine zcf ?_ -- Q2Z c0
       all_goals refine zsk ?_)
  refine zML hS [2, 3] (fun A LL ρ' w' => Has ρ' A ∧ Has ρ' [] ∧ (¬ (e.op < 1 ∨ 3 < e.op)) ∧ (¬ (e.op ≠ 2 ∧ e.a ≠ 0 ∨ e.op ≠ 3 ∧ 0 < e.args.length)) ∧ St cx w' (LL)) ?_ ?_
  · skip
    all_goals (refine Q0 ?_; refine Q1 ?_; refine zf0 ?_; refine zl hS ?_)
    all_goals (first | (refine Q1h ?_) | (refine Q1j ?_) | (refine Qv rfl rfl (fun hc => ?_) (fun hc => ?_)))
    all_goals (refine zm ?_; (first | refine zgn ?_ | (refine zgy ?_; refine zf0 ?_)); (first | refine zgn ?_ | (refine zgy ?_; refine zl hS ?_)))
    all_goals (first | refine zgn ?_ | (refine zgy ?_; (first | (refine Q1h ?_) | (refine Q1j ?_) | (refine Qv rfl rfl (fun hc => ?_) (fun hc => ?_)))))
    all_goals ((first | (refine zpt ?_) | (refine zpf ?_)); refine zm ?_; (first | refine zgn ?_ | (refine zgy ?_; refine zf0 ?_)); (first | refine zgn ?_ | (refine zgy ?_; refine zl hS ?_)); (first | refine zgn ?_ | (refine zgy ?_; refine zL ?_)))
    all_goals (first | refine zgn ?_ | (refine zgy ?_; (first | (refine QD ?_) | (refine QR ?_) | (refine Qr rfl rfl (fun hc => ?_) (fun hc => ?_)))))
    all_goals ((first | refine zgn ?_ | (refine zgy ?_; refine zm ?_)); (first | refine zgn ?_ | (refine zgy ?_; refine zf0 ?_)); (first | refine zgn ?_ | (refine zgy ?_; refine zl hS ?_)))
    all_goals (first | refine zgn ?_ | (refine zgy ?_; (first | (refine Q1h ?_) | (refine Q1j ?_) | (refine Qv rfl rfl (fun hc => ?_) (fun hc => ?_)))))
    all_goals ((first | refine zgn ?_ | (refine zgy ?_; (first | (refine zpt ?_) | (refine zpf ?_)))); (first | (refine zpt ?_) | (refine zpf ?_)); refine zn ?_)
    all_goals
      first
      | (refine zct ?_ -- Q2Z c1
         all_goals (refine Q0 ?_; refine Q1 ?_; refine zm ?_; refine zn ?_; refine zr ?_; refine zf ?_)
         all_goals (first | (refine ⟨_, rfl, ?_, hS.sp⟩; rw [if_pos (by omega)]; done) | (refine ⟨_, rfl, ?_, hS.sp⟩; rw [if_neg (by omega), if_pos (by omega)]; done)))
      | (refine zcf ?_ -- Q2Z c1
         all_goals refine zsk ?_)
    all_goals (exact ⟨zh, zh, by omega, by omega, hS.sp⟩)
  rintro ρ w1 ⟨hA, hρ, k1, k2, hS⟩; obtain ⟨ρ, rfl⟩ := env2 hA hρ
  all_goals (refine Q0 ?_; refine Q0 ?_; refine Q1 ?_; refine zf0 ?_; refine zl hS ?_; refine zL ?_)
  all_goals (first | (refine QD ?_) | (refine QR ?_) | (refine Qr rfl rfl (fun hc => ?_) (fun hc => ?_)))
  all_goals (refine zn ?_)
  all_goals
    first
    | (refine zct ?_ -- Q2Z c2
       all_goals (refine Q0 ?_; refine Q1 ?_; refine zm ?_; refine zn ?_; refine zr ?_; refine zf ?_)
       all_goals (first | (refine ⟨_, rfl, ?_, hS.sp⟩; rw [if_pos (by omega)]; done) | (refine ⟨_, rfl, ?_, hS.sp⟩; rw [if_neg (by omega), if_pos (by omega)]; done) | (refine ⟨_, rfl, ?_, hS.sp⟩; rw [if_neg k1, if_neg k2, if_pos (by omega)]; done)))
    | (refine zcf ?_ -- Q2Z c2
       all_goals refine zsk ?_)
  all_goals (refine Q0 ?_; refine Q0 ?_; refine Q1 ?_; refine zv hS ?_; refine zf0 ?_; refine zv hS ?_; refine zf0 ?_; refine zl hS ?_; refine Q9X rfl rfl ?_; refine zR3 (c := rto_c (t := e.yes) hx ⟨_, _, rfl, h1, h2⟩ hS) (h := ?_); rintro v1 w1 ⟨rfl, hS⟩; refine zm ?_; refine zn ?_; refine Q0 ?_; refine Q1 ?_; refine zm ?_)
  all_goals (first | (refine Q1h ?_) | (refine Q1j ?_) | (refine Qv rfl rfl (fun hc => ?_) (fun hc => ?_)))
  all_goals (refine zn ?_)
  all_goals
    first
    | (refine zct ?_ -- Q2Z c3
       all_goals (refine Q0 ?_; refine Q1 ?_; refine zm ?_; refine zm ?_; refine zn ?_; refine zr ?_; refine zf ?_)
       all_goals (first | (refine ⟨_, rfl, ?_, hS.sp⟩; rw [if_pos (by omega)]; done) | (refine ⟨_, rfl, ?_, hS.sp⟩; rw [if_neg (by omega), if_pos (by omega)]; done) | (refine ⟨_, rfl, ?_, hS.sp⟩; rw [if_neg k1, if_neg k2, if_pos (by omega)]; done) | (refine ⟨_, rfl, ?_, hS.sp⟩; (rw [if_neg k1, if_neg k2, if_neg (by omega)]; first | rw [Q7K (by assumption)] | (rw [Classical.not_not.1 (by assumption : ¬ Q2U x.blocks.length e.yes (decide (e.op ≠ 3)) ≠ 0), Q6L])); done)))
    | (refine zcf ?_ -- Q2Z c3
       all_goals refine zsk ?_)
  all_goals (refine Q0 ?_; refine Q1 ?_; refine zv hS ?_; refine zf0 ?_; refine zv hS ?_; refine zf0 ?_; refine zl hS ?_; refine Qcs rfl rfl ?_; refine zR3 (c := rto_c (t := e.no) hx ⟨_, _, rfl, h3, h4⟩ hS) (h := ?_); rintro v1 w1 ⟨rfl, hS⟩; refine zm ?_; refine zn ?_; refine zr ?_; refine zf ?_; (first | (refine ⟨_, rfl, ?_, hS.sp⟩; rw [if_pos (by omega)]; done) | (refine ⟨_, rfl, ?_, hS.sp⟩; rw [if_neg (by omega), if_pos (by omega)]; done) | (refine ⟨_, rfl, ?_, hS.sp⟩; rw [if_neg k1, if_neg k2, if_pos (by omega)]; done) | (refine ⟨_, rfl, ?_, hS.sp⟩; (rw [if_neg k1, if_neg k2, if_neg (by omega)]; first | rw [Q7K (by assumption)] | (rw [Classical.not_not.1 (by assumption : ¬ Q2U x.blocks.length e.yes (decide (e.op ≠ 3)) ≠ 0), Q6L])); done)))
theorem QpM {l : List Ty} {regs : Int} {v vf : Value} {g : Flt} {at' : Int} {b : Nat} (hl : tyR.sl cx v l) (hS : St cx w L) (hi : nth L i = some (jdg b vf g at')) :
    Rets Tryz.prog Q7Q [.pointer (some ⟨b, 0, none⟩), v, .int .i64 regs] w fun u w' => u = .tuple #[] ∧ St cx w' (L.set i (jdg b vf (orF g (mkF (Qu l regs) at')) at')) := by
  have hS := hS.out hi
  have hlen := hl.len
  have e0 : orF g (mkF (Qu l regs) at') = orF g (mkF (orC (if 8 < l.length then 2 else 0) (Q3E regs l)) at') := by
    congr 2
    unfold Qu
    split
    · rw [Q7K (by decide)]
    · rw [Q6L]
  rw [e0]
  all_goals refine Qbu ?_
  all_goals (unfold code_judge_list_lc)
  refine zM [0, 1, 2] (fun A ρ' w' => Has ρ' A ∧ Has ρ' [] ∧ St cx w' (jdg b vf (orF g (mkF (if 8 < l.length then 2 else 0) at')) at' :: L.eraseIdx i)) ?_ ?_
  · skip
    all_goals (refine Q1 ?_; refine zm ?_; refine zm ?_; refine zL ?_)
    all_goals (first | (refine QD ?_) | (refine QR ?_) | (refine Qr rfl rfl (fun hc => ?_) (fun hc => ?_)))
    all_goals (refine zR3 (c := Q2H (by intro _; decide) hS fd) (h := ?_); rintro v1 w1 ⟨rfl, hS⟩; simp only [List.set_cons_zero, List.set_cons_succ, if_true, Bool.false_eq_true, if_false] at hS; refine zn ?_; exact ⟨zh, zh, by first | (rw [if_pos (by omega)]; exact hS.sp) | (rw [if_neg (by omega)]; exact hS.sp)⟩)
  rintro ρ w1 ⟨hA, hρ, hS⟩; obtain ⟨ρ, rfl⟩ := env2 hA hρ
  all_goals (refine Q0 ?_; refine Q1 ?_; refine zm ?_; refine zL ?_; refine zm ?_; refine zn ?_; refine Qa ?_)
  refine zo [0, 2, 14, 15] (fun A ρ' w' => ∃ (j : Nat) (h : Flt), Has ρ' A ∧ Has ρ' [(16, .int .i64 j)] ∧ (j ≤ l.length) ∧ (orF g (mkF (orC (if 8 < l.length then 2 else 0) (Q3E regs l)) at') = orF h (mkF (Q3E regs (l.drop j)) at')) ∧ St cx w' (jdg b vf h at' :: L.eraseIdx i)) (fun ρ' _ => (l.length - iv (ρ' 16)).toNat) ?_ ?_
  · exact ⟨0, _, zh, zh, (by omega), by rw [List.drop_zero, Q3n], hS.sp⟩
  rintro ρ w1 ⟨j, h, hA, hρ, hj, hd, hS⟩; obtain ⟨ρ, rfl⟩ := env2 hA hρ
  unfold Q4z
  all_goals (refine Q0 ?_; refine Q1 ?_; refine Q1i rfl rfl ?_; refine zn ?_; refine Q0 ?_)
  refine QM rfl (fun hc => ?_) (fun hc => ?_)
  · skip
    all_goals (refine zsk ?_; refine Q0 ?_; refine Qa ?_; refine Q0 ?_; refine Q1 ?_; refine zi ?_; intro b1 o1 cs1 x1 hat1 hx1 he1; obtain ⟨vl1, rfl, hl1⟩ := Q1c he1; (first | (refine zv hS ?_) | (refine zvk hS ?_)); refine Q9 hS ?_; intro p7 w1 hS; refine zsn hS ?_; intro w1 hS; have hS := hS.ns; refine zn ?_; refine Q0 ?_; refine Q1 ?_; refine zv hS ?_; refine zm ?_; refine zR2 (c := tcheck_c (by assumption) hS) (h := ?_); rintro v1 w1 ⟨rfl, hS⟩; refine zm ?_; refine zn ?_; refine Q1 ?_; refine zm ?_; refine zm ?_; refine Q9X rfl rfl ?_; refine zm ?_; refine zR3 (c := Q2H (by intro h; exact of_decide_eq_true h) hS fd) (h := ?_); rintro v1 w1 ⟨rfl, hS⟩; simp only [List.set_cons_zero, List.set_cons_succ, fault_if] at hS; refine zn ?_; refine Q1 ?_; refine zad ?_; refine zm ?_; refine zn ?_; exact ⟨⟨j + 1, _, zh, zh, (by omega), by rw [hd, Q4 hx1, Q3E, ← Q3n], hS.sp⟩, QF (by omega)⟩)
  · skip
    all_goals (refine zex ?_; refine Q3z ?_; refine ⟨_, rfl, rfl, ?_⟩; rw [hd, List.drop_of_length_le (by omega), Q3E, Q2p, Qsw rfl]; exact St.back hS hi)
def fltV (g : Flt) : Value := .agg ⟨[.int .i64 g.1, .int .i64 g.2]⟩
theorem rblock_c {m : Module} {f b : Nat} {x : Fun} {y : Block} (hxf : m.funcs[f]? = some x) (hyb : x.blocks[b]? = some y) (hf0 : f ≤ 1000000) (hb0 : b ≤ 1000000) (hlc : y.code.length ≤ 100000) {cs : List Value} (hm : modR.at cx cs m) (hS : St cx w L) :
    Rets Tryz.prog QX [.agg ⟨cs⟩, .int .i64 f, .int .i64 b] w fun u w' => u = fltV (QP m.funcs.length f x b y) ∧ St cx w' L := by
  have hm' := hm
  obtain ⟨vf, rfl, hf⟩ := Q47 hm
  have hflt := (List.getElem?_eq_some_iff.1 hxf).1
  have hblt := (List.getElem?_eq_some_iff.1 hyb).1
  all_goals refine Qi1 ?_
  all_goals (unfold R_blockFault_lc; refine Q0 ?_; refine Q1 ?_; refine zb hS ?_; intro p3 w1 hS; refine Q9 hS ?_; intro p6 w1 hS; refine zn ?_; refine Q0 ?_; refine Q1 ?_; refine zf0 ?_; refine zl hS ?_; refine zm ?_; refine zi ?_; intro b1 o1 cs1 x1 hat1 hx1 he1; obtain ⟨vp1, vr1, vb1, rfl, hp1, hr1, hb1⟩ := Q1L he1; (first | (refine zv hS ?_) | (refine zvk hS ?_)); refine Q9 hS ?_; intro p7 w1 hS; refine zsn hS ?_; intro w1 hS; have hS := hS.ns; refine zn ?_; have e1 : x = x1 := Option.some.inj (hxf.symm.trans hx1); subst e1; refine Q0 ?_; refine Q1 ?_; refine zf0 ?_; refine zl hS ?_; refine zm ?_; refine zi ?_; intro b2 o2 cs2 x2 hat2 hx2 he2; obtain ⟨vp2, vc2, ve21, ve22, ve23, ve24, ve25, rfl, hp2, hc2, he21, he22, he23, he24, he25⟩ := Q29 he2; (first | (refine zv hS ?_) | (refine zvk hS ?_)); refine Q9 hS ?_; intro p8 w1 hS; refine zsn hS ?_; intro w1 hS; have hS := hS.ns; refine zn ?_; have e2 : y = x2 := Option.some.inj (hyb.symm.trans hx2); subst e2)
  all_goals (refine Q0 ?_; refine Q0 ?_; refine Q1 ?_; refine zf0 ?_; refine zl hS ?_; refine zf0 ?_; refine zl hS ?_)
  all_goals (first | (refine Q1b ?_) | (refine Q1z ?_) | (refine QH rfl rfl (fun hc => ?_) (fun hc => ?_)))
  all_goals (refine zm ?_; (first | refine zgn ?_ | (refine zgy ?_; refine zf0 ?_)); (first | refine zgn ?_ | (refine zgy ?_; refine zl hS ?_)))
  all_goals (first | refine zgn ?_ | (refine zgy ?_; (first | (refine QD ?_) | (refine QR ?_) | (refine Qr rfl rfl (fun hc => ?_) (fun hc => ?_)))))
  all_goals ((first | (refine zpt ?_) | (refine zpf ?_)); refine zn ?_)
  all_goals
    first
    | (refine zct ?_ -- QX c0
       all_goals (refine Q0 ?_; refine Q1 ?_; refine zm ?_; refine zm ?_; refine zR2 (c := Q84 f b hf0 hb0 hS) (h := ?_); rintro v1 w1 ⟨rfl, hS⟩; refine zR2 (c := rF_c hS) (h := ?_); rintro v1 w1 ⟨rfl, hS⟩; refine zsn hS ?_; intro w1 hS; have hS := hS.ns; refine zn ?_; refine zr ?_; refine Q16 vw (Q5 (n := 2) (by kernel_rfl) (by kernel_rfl) (hS.blkAt fd) (by rfl) (by rfl)) ?_)
       all_goals (refine ⟨_, rfl, ?_, hS.sp⟩; rw [Q1R (c := 1) (by unfold Qt; rw [if_pos (by omega)]) (by decide)]; rfl; done))
    | (refine zcf ?_ -- QX c0
       all_goals refine zsk ?_)
  all_goals (refine Q0 ?_; refine Q0 ?_; refine Q1 ?_; refine zf0 ?_; refine zl hS ?_; refine zf0 ?_; refine zl hS ?_; refine zR2 (c := QpD (by assumption) hS) (h := ?_); rintro v1 w1 ⟨rfl, hS⟩; refine zm ?_; refine zn ?_; refine Q0 ?_; refine Q1 ?_; refine zm ?_)
  all_goals (first | (refine Q1h ?_) | (refine Q1j ?_) | (refine Qv rfl rfl (fun hc => ?_) (fun hc => ?_)))
  all_goals (refine zn ?_)
  all_goals
    first
    | (refine zct ?_ -- QX c1
       all_goals (refine Q0 ?_; refine Q1 ?_; refine zm ?_; refine zm ?_; refine zm ?_; refine zR2 (c := Q84 f b hf0 hb0 hS) (h := ?_); rintro v1 w1 ⟨rfl, hS⟩; refine zR2 (c := rF_c hS) (h := ?_); rintro v1 w1 ⟨rfl, hS⟩; refine zsn hS ?_; intro w1 hS; have hS := hS.ns; refine zn ?_; refine zr ?_; refine Q16 vw (Q5 (n := 2) (by kernel_rfl) (by kernel_rfl) (hS.blkAt fd) (by rfl) (by rfl)) ?_)
       all_goals (first | (refine ⟨_, rfl, ?_, hS.sp⟩; rw [Q1R (c := 1) (by unfold Qt; rw [if_pos (by omega)]) (by decide)]; rfl; done) | (refine ⟨_, rfl, ?_, hS.sp⟩; rw [Q1R (c := Qu y.params y.regs) (by unfold Qt; rw [if_neg (by omega), if_pos (by assumption)]) (by assumption)]; rfl; done)))
    | (refine zcf ?_ -- QX c1
       all_goals refine zsk ?_)
  all_goals (refine Q0 ?_; refine Q0 ?_; refine Q1 ?_)
  refine zKL hS 17 [1, 2, 3, 6, 7, 8] (fun A LL ρ' w' => ∃ (q : Bool), Has ρ' A ∧ Has ρ' [(65, .bool q)] ∧ (q = true ↔ (b = 0 ∧ (y.regs ≠ x.regs ∨ y.params ≠ x.params))) ∧ St cx w' (LL)) ?_ ?_
  · skip
    all_goals (refine zm ?_)
    all_goals (first | (refine Qn ?_) | (refine Qq ?_) | (refine Qg rfl rfl (fun hc => ?_) (fun hc => ?_)))
    all_goals (refine zm ?_; (first | refine zgn ?_ | (refine zgy ?_; refine zf0 ?_)); (first | refine zgn ?_ | (refine zgy ?_; refine zl hS ?_)); (first | refine zgn ?_ | (refine zgy ?_; refine zf0 ?_)); (first | refine zgn ?_ | (refine zgy ?_; refine zl hS ?_)))
    all_goals (first | refine zgn ?_ | (refine zgy ?_; (first | (refine Q1h ?_) | (refine Q1j ?_) | (refine Qv rfl rfl (fun hc => ?_) (fun hc => ?_)))))
    all_goals ((first | refine zgn ?_ | (refine zgy ?_; refine zm ?_)); (first | refine zgn ?_ | (refine zgy ?_; refine zf0 ?_)); (first | refine zgn ?_ | (refine zgy ?_; refine zl hS ?_)); (first | refine zgn ?_ | (refine zgy ?_; refine zf0 ?_)); (first | refine zgn ?_ | (refine zgy ?_; refine zl hS ?_)))
    all_goals (first | refine zgn ?_ | (refine zgy ?_; refine zR2 (c := Q82 hp2 hp1 hS) (h := ?_); rintro v1 w1 ⟨rfl, hS⟩; (cases hdec : decide (y.params = x.params)); have hg := of_decide_eq_false hdec; rotate_left; have hg := of_decide_eq_true hdec; all_goals skip))
    all_goals ((first | refine zgn ?_ | (refine zgy ?_; refine znt ?_)); (first | refine zgn ?_ | (refine zgy ?_; (first | (refine zpt ?_) | (refine zpf ?_)))); (first | (refine zpt ?_) | (refine zpf ?_)); refine Q5B ?_; refine Q2r ?_)
    all_goals (first | (exact ⟨_, zh, zh, by exact ⟨fun _ => ⟨by omega, .inl (by assumption)⟩, fun _ => rfl⟩, hS.sp⟩) | (exact ⟨_, zh, zh, by exact ⟨fun _ => ⟨by omega, .inr (by assumption)⟩, fun _ => rfl⟩, hS.sp⟩) | (exact ⟨_, zh, zh, by exact ⟨fun h => Bool.noConfusion h, fun h => absurd h.1 (by omega)⟩, hS.sp⟩) | (exact ⟨_, zh, zh, by exact ⟨fun h => Bool.noConfusion h, fun h => h.2.elim (fun h => absurd h (by assumption)) (fun h => absurd (by assumption) h)⟩, hS.sp⟩))
  rintro ρ w1 ⟨q, hA, hρ, hq, hS⟩; obtain ⟨ρ, rfl⟩ := env2 hA hρ
  all_goals (refine zn ?_)
  all_goals (cases q)
  all_goals
    first
    | (refine zct ?_ -- QX c2
       all_goals (refine Q0 ?_; refine Q1 ?_; refine zm ?_; refine zm ?_; refine zR2 (c := Q84 f b hf0 hb0 hS) (h := ?_); rintro v1 w1 ⟨rfl, hS⟩; refine zR2 (c := rF_c hS) (h := ?_); rintro v1 w1 ⟨rfl, hS⟩; refine zsn hS ?_; intro w1 hS; have hS := hS.ns; refine zn ?_; refine zr ?_; refine Q16 vw (Q5 (n := 2) (by kernel_rfl) (by kernel_rfl) (hS.blkAt fd) (by rfl) (by rfl)) ?_)
       all_goals (first | (refine ⟨_, rfl, ?_, hS.sp⟩; rw [Q1R (c := 1) (by unfold Qt; rw [if_pos (by omega)]) (by decide)]; rfl; done) | (refine ⟨_, rfl, ?_, hS.sp⟩; rw [Q1R (c := Qu y.params y.regs) (by unfold Qt; rw [if_neg (by omega), if_pos (by assumption)]) (by assumption)]; rfl; done) | (refine ⟨_, rfl, ?_, hS.sp⟩; rw [Q1R (c := 9) (by unfold Qt; rw [if_neg (by omega), if_neg (by omega), if_pos (hq.1 rfl)]) (by decide)]; rfl; done)))
    | (refine zcf ?_ -- QX c2
       all_goals refine zsk ?_)
  refine zML hS [1, 2, 3, 6, 7, 8] (fun A LL ρ' w' => Has ρ' A ∧ Has ρ' [] ∧ (Qt x b y = 0) ∧ St cx w' (LL)) ?_ ?_
  · skip
    all_goals (refine Q0 ?_; refine Q1 ?_; refine zf0 ?_; refine zl hS ?_; refine zL ?_)
    all_goals (first | (refine QD ?_) | (refine QR ?_) | (refine Qr rfl rfl (fun hc => ?_) (fun hc => ?_)))
    all_goals (refine zn ?_)
    all_goals
      first
      | (refine zct ?_ -- QX c3
         all_goals (refine Q0 ?_; refine Q1 ?_; refine zm ?_; refine zm ?_; refine zR2 (c := Q84 f b hf0 hb0 hS) (h := ?_); rintro v1 w1 ⟨rfl, hS⟩; refine zR2 (c := rF_c hS) (h := ?_); rintro v1 w1 ⟨rfl, hS⟩; refine zsn hS ?_; intro w1 hS; have hS := hS.ns; refine zn ?_; refine zr ?_; refine Q16 vw (Q5 (n := 2) (by kernel_rfl) (by kernel_rfl) (hS.blkAt fd) (by rfl) (by rfl)) ?_)
         all_goals (first | (refine ⟨_, rfl, ?_, hS.sp⟩; rw [Q1R (c := 1) (by unfold Qt; rw [if_pos (by omega)]) (by decide)]; rfl; done) | (refine ⟨_, rfl, ?_, hS.sp⟩; rw [Q1R (c := Qu y.params y.regs) (by unfold Qt; rw [if_neg (by omega), if_pos (by assumption)]) (by assumption)]; rfl; done) | (refine ⟨_, rfl, ?_, hS.sp⟩; rw [Q1R (c := 9) (by unfold Qt; rw [if_neg (by omega), if_neg (by omega), if_pos (hq.1 rfl)]) (by decide)]; rfl; done) | (refine ⟨_, rfl, ?_, hS.sp⟩; rw [Q1R (c := 2) (by unfold Qt; rw [if_neg (by omega), if_neg (by omega), if_neg (fun h => Bool.noConfusion (hq.2 h)), if_pos (by omega)]) (by decide)]; rfl; done)))
      | (refine zcf ?_ -- QX c3
         all_goals refine zsk ?_)
    all_goals (exact ⟨zh, zh, by unfold Qt; rw [if_neg (by omega), if_neg (by omega), if_neg (fun h => Bool.noConfusion (hq.2 h)), if_neg (by omega)], hS.sp⟩)
  rintro ρ w1 ⟨hA, hρ, hh, hS⟩; obtain ⟨ρ, rfl⟩ := env2 hA hρ
  all_goals (refine Q0 ?_; refine Q0 ?_; refine Q1 ?_; refine zm ?_; refine zn ?_; refine Qa ?_)
  refine zoL hS [1, 2, 3, 6, 7, 8] (fun A LL ρ' w' => ∃ (j : Nat), Has ρ' A ∧ Has ρ' [(10, .int .i64 j)] ∧ (j ≤ y.code.length) ∧ (Q19 m.funcs.length f b 0 y.code = Q19 m.funcs.length f b j (y.code.drop j)) ∧ St cx w' (LL)) (fun ρ' _ => (y.code.length - iv (ρ' 10)).toNat) ?_ ?_
  · exact ⟨0, zh, zh, (by omega), by simp, hS.sp⟩
  rintro ρ w1 ⟨j, hA, hρ, hj, hd, hS⟩; obtain ⟨ρ, rfl⟩ := env2 hA hρ
  unfold Q5X
  all_goals (refine Q0 ?_; refine Q0 ?_; refine Q1 ?_; refine zm ?_; refine zf0 ?_; refine zl hS ?_; refine zL ?_; refine Q1i rfl rfl ?_; refine zn ?_)
  refine QM rfl (fun hc => ?_) (fun hc => ?_)
  · skip
    all_goals (refine zsk ?_; refine Q0 ?_; refine Qa ?_; refine Q0 ?_; refine zD [(0, none), (1, none), (2, none), (3, none), (4, none), (5, none), (6, some none), (7, some none)] ?_; have hS := hS.drew; refine zv hS ?_; refine zf0 ?_; refine zl hS ?_; refine zm ?_; refine zi ?_; intro b3 o3 cs3 x3 hat3 hx3 he3; obtain ⟨vr3, va3, rfl, hr3, ha3⟩ := Q3M he3; (first | (refine zv hS ?_) | (refine zvk hS ?_)); refine zR2 (c := rins_c hm' (by assumption) hS) (h := ?_); rintro v1 w1 ⟨rfl, hS⟩; refine zm ?_; refine zn ?_; refine Q0 ?_; refine Q1 ?_; refine zm ?_)
    all_goals (first | (refine Q1h ?_) | (refine Q1j ?_) | (refine Qv rfl rfl (fun hc => ?_) (fun hc => ?_)))
    all_goals (refine zn ?_)
    all_goals
      first
      | (refine zct ?_ -- QX c5
         all_goals (refine Q0 ?_; refine Q1 ?_; refine zm ?_; refine zm ?_; refine zm ?_; refine zm ?_; refine zR3 (c := rInsAt_c f b j hf0 hb0 (by omega) hS) (h := ?_); rintro v1 w1 ⟨rfl, hS⟩; refine zR2 (c := rF_c hS) (h := ?_); rintro v1 w1 ⟨rfl, hS⟩; refine zsn hS ?_; intro w1 hS; have hS := hS.ns; refine zn ?_; refine zr ?_; refine Q16 vw (Q5 (n := 2) (by kernel_rfl) (by kernel_rfl) (hS.blkAt fd) (by rfl) (by rfl)) ?_)
         all_goals (first | (refine ⟨_, rfl, ?_, hS.sp⟩; rw [Q1R (c := 1) (by unfold Qt; rw [if_pos (by omega)]) (by decide)]; rfl; done) | (refine ⟨_, rfl, ?_, hS.sp⟩; rw [Q1R (c := Qu y.params y.regs) (by unfold Qt; rw [if_neg (by omega), if_pos (by assumption)]) (by assumption)]; rfl; done) | (refine ⟨_, rfl, ?_, hS.sp⟩; rw [Q1R (c := 9) (by unfold Qt; rw [if_neg (by omega), if_neg (by omega), if_pos (hq.1 rfl)]) (by decide)]; rfl; done) | (refine ⟨_, rfl, ?_, hS.sp⟩; rw [Q1R (c := 2) (by unfold Qt; rw [if_neg (by omega), if_neg (by omega), if_neg (fun h => Bool.noConfusion (hq.2 h)), if_pos (by omega)]) (by decide)]; rfl; done) | (refine ⟨_, rfl, ?_, hS.sp⟩; rw [Qqc (F := (Q3s m.funcs.length x3, Qhu f b j)) hh (by rw [hd, Q4 hx3, Q4Y (by assumption)]) (by assumption)]; rfl; done)))
      | (refine zcf ?_ -- QX c5
         all_goals refine zsk ?_)
    all_goals (refine Q1 ?_; refine zm ?_; refine zad ?_; refine zm ?_; refine zn ?_; exact ⟨⟨j + 1, zh, zh, (by omega), by rw [hd, Q4 hx3, QjK (by omega)], hS.sp⟩, QF (by omega)⟩)
  · skip
    all_goals (refine zex ?_; refine Q0 ?_; refine Q0 ?_; refine Q1 ?_; refine zv hS ?_; refine zf0 ?_; refine zv hS ?_; refine zR2 (c := rend_c (e := y.fin) he1 ⟨_, _, _, _, _, rfl, he21, he22, he23, he24, he25⟩ hS) (h := ?_); rintro v1 w1 ⟨rfl, hS⟩; refine zm ?_; refine zn ?_; refine Q0 ?_; refine Q1 ?_; refine zm ?_)
    all_goals (first | (refine Q1h ?_) | (refine Q1j ?_) | (refine Qv rfl rfl (fun hc => ?_) (fun hc => ?_)))
    all_goals (refine zn ?_)
    all_goals
      first
      | (refine zct ?_ -- QX c6
         all_goals (refine Q0 ?_; refine Q1 ?_; refine zm ?_; refine zm ?_; refine zm ?_; refine zR2 (c := rEndAt_c f b hf0 hb0 hS) (h := ?_); rintro v1 w1 ⟨rfl, hS⟩; refine zR2 (c := rF_c hS) (h := ?_); rintro v1 w1 ⟨rfl, hS⟩; refine zsn hS ?_; intro w1 hS; have hS := hS.ns; refine zn ?_; refine zr ?_; refine Q16 vw (Q5 (n := 2) (by kernel_rfl) (by kernel_rfl) (hS.blkAt fd) (by rfl) (by rfl)) ?_)
         all_goals (first | (refine ⟨_, rfl, ?_, hS.sp⟩; rw [Q1R (c := 1) (by unfold Qt; rw [if_pos (by omega)]) (by decide)]; rfl; done) | (refine ⟨_, rfl, ?_, hS.sp⟩; rw [Q1R (c := Qu y.params y.regs) (by unfold Qt; rw [if_neg (by omega), if_pos (by assumption)]) (by assumption)]; rfl; done) | (refine ⟨_, rfl, ?_, hS.sp⟩; rw [Q1R (c := 9) (by unfold Qt; rw [if_neg (by omega), if_neg (by omega), if_pos (hq.1 rfl)]) (by decide)]; rfl; done) | (refine ⟨_, rfl, ?_, hS.sp⟩; rw [Q1R (c := 2) (by unfold Qt; rw [if_neg (by omega), if_neg (by omega), if_neg (fun h => Bool.noConfusion (hq.2 h)), if_pos (by omega)]) (by decide)]; rfl; done) | (refine ⟨_, rfl, ?_, hS.sp⟩; rw [Qqc (F := (Q3s m.funcs.length x3, Qhu f b j)) hh (by rw [hd, Q4 hx3, Q4Y (by assumption)]) (by assumption)]; rfl; done) | (refine ⟨_, rfl, ?_, hS.sp⟩; (rw [bf_end hh (by rw [hd, List.drop_of_length_le (by omega), Q19])]; first | (rw [Qbg (by assumption)]; rfl) | (rw [show Q3Y x.blocks.length y.fin = 0 by omega, Q2p]; rfl)); done)))
      | (refine zcf ?_ -- QX c6
         all_goals refine zsk ?_)
    all_goals (refine Q0 ?_; refine Q1 ?_; refine zb0 [_, _] ?_; refine zsn hS ?_; intro w1 hS; have hS := hS.ns; refine zn ?_; refine zr ?_; refine Q16 vw (Q5 (n := 2) (by kernel_rfl) (by kernel_rfl) (hS.blkAt fd) (by rfl) (by rfl)) ?_)
    all_goals (first | (refine ⟨_, rfl, ?_, hS.sp⟩; rw [Q1R (c := 1) (by unfold Qt; rw [if_pos (by omega)]) (by decide)]; rfl; done) | (refine ⟨_, rfl, ?_, hS.sp⟩; rw [Q1R (c := Qu y.params y.regs) (by unfold Qt; rw [if_neg (by omega), if_pos (by assumption)]) (by assumption)]; rfl; done) | (refine ⟨_, rfl, ?_, hS.sp⟩; rw [Q1R (c := 9) (by unfold Qt; rw [if_neg (by omega), if_neg (by omega), if_pos (hq.1 rfl)]) (by decide)]; rfl; done) | (refine ⟨_, rfl, ?_, hS.sp⟩; rw [Q1R (c := 2) (by unfold Qt; rw [if_neg (by omega), if_neg (by omega), if_neg (fun h => Bool.noConfusion (hq.2 h)), if_pos (by omega)]) (by decide)]; rfl; done) | (refine ⟨_, rfl, ?_, hS.sp⟩; rw [Qqc (F := (Q3s m.funcs.length x3, Qhu f b j)) hh (by rw [hd, Q4 hx3, Q4Y (by assumption)]) (by assumption)]; rfl; done) | (refine ⟨_, rfl, ?_, hS.sp⟩; (rw [bf_end hh (by rw [hd, List.drop_of_length_le (by omega), Q19])]; first | (rw [Qbg (by assumption)]; rfl) | (rw [show Q3Y x.blocks.length y.fin = 0 by omega, Q2p]; rfl)); done))
theorem rcheck_c {m : Module} (hsh : m.Short) {cs : List Value} (hm : modR.at cx cs m) (hS : St cx w L) :
    Rets Tryz.prog QO [.agg ⟨cs⟩] w fun u w' => u = fltV m.fault ∧ St cx w' L := by
  have hm' := hm
  obtain ⟨vf, rfl, hf⟩ := Q47 hm
  have hlf := hf.len
  have hsf := hsh.2
  unfold Module.fault
  all_goals refine QkV ?_
  all_goals (unfold R_CodeFault_lc; refine Q0 ?_; refine Q1 ?_; refine zb hS ?_; intro p1 w1 hS; refine Q9 hS ?_; intro p2 w1 hS; refine zn ?_)
  refine zML hS [1, 2] (fun A LL ρ' w' => Has ρ' A ∧ Has ρ' [] ∧ (1 ≤ m.funcs.length ∧ m.funcs.length ≤ 8) ∧ St cx w' (LL)) ?_ ?_
  · skip
    all_goals (refine Q0 ?_; refine Q1 ?_; refine zf0 ?_; refine zl hS ?_; refine zL ?_)
    all_goals (first | (refine Q1b ?_) | (refine Q1z ?_) | (refine QH rfl rfl (fun hc => ?_) (fun hc => ?_)))
    all_goals (refine zm ?_; (first | refine zgn ?_ | (refine zgy ?_; refine zf0 ?_)); (first | refine zgn ?_ | (refine zgy ?_; refine zl hS ?_)); (first | refine zgn ?_ | (refine zgy ?_; refine zL ?_)))
    all_goals (first | refine zgn ?_ | (refine zgy ?_; (first | (refine QD ?_) | (refine QR ?_) | (refine Qr rfl rfl (fun hc => ?_) (fun hc => ?_)))))
    all_goals ((first | (refine zpt ?_) | (refine zpf ?_)); refine zn ?_)
    all_goals
      first
      | (refine zct ?_ -- QO c0
         all_goals (refine Q0 ?_; refine Q1 ?_; refine zR2 (c := rF_c hS) (h := ?_); rintro v1 w1 ⟨rfl, hS⟩; refine zsn hS ?_; intro w1 hS; have hS := hS.ns; refine zn ?_; refine zr ?_; refine Q16 vw (Q5 (n := 2) (by kernel_rfl) (by kernel_rfl) (hS.blkAt fd) (by rfl) (by rfl)) ?_)
         all_goals (refine ⟨_, rfl, ?_, hS.sp⟩; rw [if_pos (by omega), Q6K (by rw [Q3X]; decide), Qbg (by decide)]; rfl; done))
      | (refine zcf ?_ -- QO c0
         all_goals refine zsk ?_)
    all_goals (exact ⟨zh, zh, by omega, hS.sp⟩)
  rintro ρ w1 ⟨hA, hρ, hl8, hS⟩; obtain ⟨ρ, rfl⟩ := env2 hA hρ
  all_goals (refine Q0 ?_; refine Q0 ?_; refine Q1 ?_; refine zm ?_; refine zn ?_; refine Qa ?_)
  refine zoL hS [1, 2] (fun A LL ρ' w' => ∃ (f : Nat), Has ρ' A ∧ Has ρ' [(3, .int .i64 f)] ∧ (f ≤ m.funcs.length) ∧ (Q1K m.funcs.length 0 m.funcs = Q1K m.funcs.length f (m.funcs.drop f)) ∧ St cx w' (LL)) (fun ρ' _ => (m.funcs.length - iv (ρ' 3)).toNat) ?_ ?_
  · exact ⟨0, zh, zh, (by omega), by simp, hS.sp⟩
  rintro ρ w1 ⟨f, hA, hρ, hj, hd, hS⟩; obtain ⟨ρ, rfl⟩ := env2 hA hρ
  unfold Q9V
  all_goals (refine Q0 ?_; refine Q0 ?_; refine Q1 ?_; refine zm ?_; refine zf0 ?_; refine zl hS ?_; refine zL ?_; refine Q1i rfl rfl ?_; refine zn ?_)
  refine QM rfl (fun hc => ?_) (fun hc => ?_)
  · skip
    all_goals (refine zsk ?_; refine Q0 ?_; refine Qa ?_; refine Q0 ?_; refine Q1 ?_; refine zf0 ?_; refine zl hS ?_; refine zm ?_; refine zi ?_; intro b1 o1 cs1 x1 hat1 hx1 he1; obtain ⟨vp1, vr1, vb1, rfl, hp1, hr1, hb1⟩ := Q1L he1; (first | (refine zv hS ?_) | (refine zvk hS ?_)); refine Q9 hS ?_; intro p4 w1 hS; refine zsn hS ?_; intro w1 hS; have hS := hS.ns; refine zn ?_; have hsx := hsf x1 (List.mem_of_getElem? hx1); have hlb := hb1.len; have hlr := hr1.len; refine Q0 ?_; refine Q0 ?_; refine Q1 ?_; refine zf0 ?_; refine zl hS ?_)
    all_goals (first | (refine Q1b ?_) | (refine Q1z ?_) | (refine QH rfl rfl (fun hc => ?_) (fun hc => ?_)))
    all_goals (refine zm ?_; (first | refine zgn ?_ | (refine zgy ?_; refine zf0 ?_)); (first | refine zgn ?_ | (refine zgy ?_; refine zl hS ?_)))
    all_goals (first | refine zgn ?_ | (refine zgy ?_; (first | (refine QD ?_) | (refine QR ?_) | (refine Qr rfl rfl (fun hc => ?_) (fun hc => ?_)))))
    all_goals ((first | (refine zpt ?_) | (refine zpf ?_)); refine zn ?_)
    all_goals
      first
      | (refine zct ?_ -- QO c2
         all_goals (refine Q0 ?_; refine Q1 ?_; refine zm ?_; refine zR1 (c := Q77 f (by omega) hS) (h := ?_); rintro v1 w1 ⟨rfl, hS⟩; refine zR2 (c := rF_c hS) (h := ?_); rintro v1 w1 ⟨rfl, hS⟩; refine zsn hS ?_; intro w1 hS; have hS := hS.ns; refine zn ?_; refine zr ?_; refine Q16 vw (Q5 (n := 2) (by kernel_rfl) (by kernel_rfl) (hS.blkAt fd) (by rfl) (by rfl)) ?_)
         all_goals (first | (refine ⟨_, rfl, ?_, hS.sp⟩; rw [if_pos (by omega), Q6K (by rw [Q3X]; decide), Qbg (by decide)]; rfl; done) | (refine ⟨_, rfl, ?_, hS.sp⟩; rw [if_neg (by omega), Q2p, Q2o Qm, hd, Q4 hx1]; rw [Qi (by rw [QZ (c := 1) (by unfold Qy; rw [if_pos (by omega)]) (by decide)]; simp), QZ (c := 1) (by unfold Qy; rw [if_pos (by omega)]) (by decide)]; rfl; done)))
      | (refine zcf ?_ -- QO c2
         all_goals refine zsk ?_)
    all_goals (refine Q0 ?_; refine Q0 ?_; refine Q1 ?_; refine zf0 ?_; refine zl hS ?_; refine zf0 ?_; refine zl hS ?_; refine zR2 (c := QpD hp1 hS) (h := ?_); rintro v1 w1 ⟨rfl, hS⟩; refine zm ?_; refine zn ?_; refine Q0 ?_; refine Q1 ?_; refine zm ?_)
    all_goals (first | (refine Q1h ?_) | (refine Q1j ?_) | (refine Qv rfl rfl (fun hc => ?_) (fun hc => ?_)))
    all_goals (refine zn ?_)
    all_goals
      first
      | (refine zct ?_ -- QO c3
         all_goals (refine Q0 ?_; refine Q1 ?_; refine zm ?_; refine zm ?_; refine zR1 (c := Q77 f (by omega) hS) (h := ?_); rintro v1 w1 ⟨rfl, hS⟩; refine zR2 (c := rF_c hS) (h := ?_); rintro v1 w1 ⟨rfl, hS⟩; refine zsn hS ?_; intro w1 hS; have hS := hS.ns; refine zn ?_; refine zr ?_; refine Q16 vw (Q5 (n := 2) (by kernel_rfl) (by kernel_rfl) (hS.blkAt fd) (by rfl) (by rfl)) ?_)
         all_goals (first | (refine ⟨_, rfl, ?_, hS.sp⟩; rw [if_pos (by omega), Q6K (by rw [Q3X]; decide), Qbg (by decide)]; rfl; done) | (refine ⟨_, rfl, ?_, hS.sp⟩; rw [if_neg (by omega), Q2p, Q2o Qm, hd, Q4 hx1]; rw [Qi (by rw [QZ (c := 1) (by unfold Qy; rw [if_pos (by omega)]) (by decide)]; simp), QZ (c := 1) (by unfold Qy; rw [if_pos (by omega)]) (by decide)]; rfl; done) | (refine ⟨_, rfl, ?_, hS.sp⟩; have e := QZ (n := m.funcs.length) (f := f) (x := x1) (c := Qu x1.params x1.regs) (by unfold Qy; rw [if_neg (by omega), if_pos (by assumption)]) (by assumption); rw [if_neg (by omega), Q2p, Q2o Qm, hd, Q4 hx1, Qi (by rw [e]; assumption), e]; rfl; done)))
      | (refine zcf ?_ -- QO c3
         all_goals refine zsk ?_)
    all_goals (refine Q0 ?_; refine Q0 ?_; refine Q1 ?_; refine zf0 ?_; refine zl hS ?_; refine zf0 ?_; refine zl hS ?_; refine zR2 (c := QpD hr1 hS) (h := ?_); rintro v1 w1 ⟨rfl, hS⟩; refine zm ?_; refine zn ?_; refine Q0 ?_; refine Q1 ?_; refine zm ?_)
    all_goals (first | (refine Q1h ?_) | (refine Q1j ?_) | (refine Qv rfl rfl (fun hc => ?_) (fun hc => ?_)))
    all_goals (refine zn ?_)
    all_goals
      first
      | (refine zct ?_ -- QO c4
         all_goals (refine Q0 ?_; refine Q1 ?_; refine zm ?_; refine zm ?_; refine zR1 (c := Q77 f (by omega) hS) (h := ?_); rintro v1 w1 ⟨rfl, hS⟩; refine zR2 (c := rF_c hS) (h := ?_); rintro v1 w1 ⟨rfl, hS⟩; refine zsn hS ?_; intro w1 hS; have hS := hS.ns; refine zn ?_; refine zr ?_; refine Q16 vw (Q5 (n := 2) (by kernel_rfl) (by kernel_rfl) (hS.blkAt fd) (by rfl) (by rfl)) ?_)
         all_goals (first | (refine ⟨_, rfl, ?_, hS.sp⟩; rw [if_pos (by omega), Q6K (by rw [Q3X]; decide), Qbg (by decide)]; rfl; done) | (refine ⟨_, rfl, ?_, hS.sp⟩; rw [if_neg (by omega), Q2p, Q2o Qm, hd, Q4 hx1]; rw [Qi (by rw [QZ (c := 1) (by unfold Qy; rw [if_pos (by omega)]) (by decide)]; simp), QZ (c := 1) (by unfold Qy; rw [if_pos (by omega)]) (by decide)]; rfl; done) | (refine ⟨_, rfl, ?_, hS.sp⟩; have e := QZ (n := m.funcs.length) (f := f) (x := x1) (c := Qu x1.params x1.regs) (by unfold Qy; rw [if_neg (by omega), if_pos (by assumption)]) (by assumption); rw [if_neg (by omega), Q2p, Q2o Qm, hd, Q4 hx1, Qi (by rw [e]; assumption), e]; rfl; done) | (refine ⟨_, rfl, ?_, hS.sp⟩; have e := QZ (n := m.funcs.length) (f := f) (x := x1) (c := Qu x1.results x1.regs) (by unfold Qy; rw [if_neg (by omega), if_neg (by assumption), if_pos (by assumption)]) (by assumption); rw [if_neg (by omega), Q2p, Q2o Qm, hd, Q4 hx1, Qi (by rw [e]; assumption), e]; rfl; done)))
      | (refine zcf ?_ -- QO c4
         all_goals refine zsk ?_)
    refine zML hS [1, 2, 3, 4] (fun A LL ρ' w' => Has ρ' A ∧ Has ρ' [] ∧ (¬ (x1.regs < 0 ∨ 6 < x1.regs)) ∧ (¬ Qu x1.params x1.regs ≠ 0) ∧ (¬ Qu x1.results x1.regs ≠ 0) ∧ (¬ (x1.blocks.length < 1 ∨ 12 < x1.blocks.length)) ∧ St cx w' (LL)) ?_ ?_
    · skip
      all_goals (refine Q0 ?_; refine Q1 ?_; refine zf0 ?_; refine zl hS ?_; refine zL ?_)
      all_goals (first | (refine Q1b ?_) | (refine Q1z ?_) | (refine QH rfl rfl (fun hc => ?_) (fun hc => ?_)))
      all_goals (refine zm ?_; (first | refine zgn ?_ | (refine zgy ?_; refine zf0 ?_)); (first | refine zgn ?_ | (refine zgy ?_; refine zl hS ?_)); (first | refine zgn ?_ | (refine zgy ?_; refine zL ?_)))
      all_goals (first | refine zgn ?_ | (refine zgy ?_; (first | (refine QD ?_) | (refine QR ?_) | (refine Qr rfl rfl (fun hc => ?_) (fun hc => ?_)))))
      all_goals ((first | (refine zpt ?_) | (refine zpf ?_)); refine zn ?_)
      all_goals
        first
        | (refine zct ?_ -- QO c5
           all_goals (refine Q0 ?_; refine Q1 ?_; refine zm ?_; refine zR1 (c := Q77 f (by omega) hS) (h := ?_); rintro v1 w1 ⟨rfl, hS⟩; refine zR2 (c := rF_c hS) (h := ?_); rintro v1 w1 ⟨rfl, hS⟩; refine zsn hS ?_; intro w1 hS; have hS := hS.ns; refine zn ?_; refine zr ?_; refine Q16 vw (Q5 (n := 2) (by kernel_rfl) (by kernel_rfl) (hS.blkAt fd) (by rfl) (by rfl)) ?_)
           all_goals (first | (refine ⟨_, rfl, ?_, hS.sp⟩; rw [if_pos (by omega), Q6K (by rw [Q3X]; decide), Qbg (by decide)]; rfl; done) | (refine ⟨_, rfl, ?_, hS.sp⟩; rw [if_neg (by omega), Q2p, Q2o Qm, hd, Q4 hx1]; rw [Qi (by rw [QZ (c := 1) (by unfold Qy; rw [if_pos (by omega)]) (by decide)]; simp), QZ (c := 1) (by unfold Qy; rw [if_pos (by omega)]) (by decide)]; rfl; done) | (refine ⟨_, rfl, ?_, hS.sp⟩; have e := QZ (n := m.funcs.length) (f := f) (x := x1) (c := Qu x1.params x1.regs) (by unfold Qy; rw [if_neg (by omega), if_pos (by assumption)]) (by assumption); rw [if_neg (by omega), Q2p, Q2o Qm, hd, Q4 hx1, Qi (by rw [e]; assumption), e]; rfl; done) | (refine ⟨_, rfl, ?_, hS.sp⟩; have e := QZ (n := m.funcs.length) (f := f) (x := x1) (c := Qu x1.results x1.regs) (by unfold Qy; rw [if_neg (by omega), if_neg (by assumption), if_pos (by assumption)]) (by assumption); rw [if_neg (by omega), Q2p, Q2o Qm, hd, Q4 hx1, Qi (by rw [e]; assumption), e]; rfl; done) | (refine ⟨_, rfl, ?_, hS.sp⟩; have e := QZ (n := m.funcs.length) (f := f) (x := x1) (c := 2) (by unfold Qy; rw [if_neg (by omega), if_neg (by assumption), if_neg (by assumption), if_pos (by omega)]) (by decide); rw [if_neg (by omega), Q2p, Q2o Qm, hd, Q4 hx1, Qi (by rw [e]; simp), e]; rfl; done)))
        | (refine zcf ?_ -- QO c5
           all_goals refine zsk ?_)
      all_goals (exact ⟨zh, zh, by omega, by assumption, by assumption, by omega, hS.sp⟩)
    rintro ρ w1 ⟨hA, hρ, k1, k2, k3, k4, hS⟩; obtain ⟨ρ, rfl⟩ := env2 hA hρ
    refine zML hS [1, 2, 3, 4] (fun A LL ρ' w' => Has ρ' A ∧ Has ρ' [] ∧ (Qy f x1 = 0) ∧ St cx w' (LL)) ?_ ?_
    · skip
      all_goals (refine Q0 ?_; refine Q1 ?_; refine zm ?_)
      all_goals (first | (refine Qn ?_) | (refine Qq ?_) | (refine Qg rfl rfl (fun hc => ?_) (fun hc => ?_)))
      all_goals (refine zn ?_)
      all_goals
        first
        | (refine zct ?_ -- QO c6
           all_goals (refine Q0 ?_; refine Q1 ?_)
           refine zKL hS 9 [1, 2, 3, 4] (fun A LL ρ' w' => ∃ (q : Bool), Has ρ' A ∧ Has ρ' [(90, .bool q)] ∧ (q = true ↔ (x1.regs = 0 ∧ x1.params.length = 0)) ∧ St cx w' (LL)) ?_ ?_
           · skip
             all_goals (refine zf0 ?_; refine zl hS ?_)
             all_goals (first | (refine Qn ?_) | (refine Qq ?_) | (refine Qg rfl rfl (fun hc => ?_) (fun hc => ?_)))
             all_goals (refine zm ?_; (first | refine zgn ?_ | (refine zgy ?_; refine zf0 ?_)); (first | refine zgn ?_ | (refine zgy ?_; refine zl hS ?_)); (first | refine zgn ?_ | (refine zgy ?_; refine zL ?_)))
             all_goals (first | refine zgn ?_ | (refine zgy ?_; (first | (refine Qn ?_) | (refine Qq ?_) | (refine Qg rfl rfl (fun hc => ?_) (fun hc => ?_)))))
             all_goals ((first | (refine zpt ?_) | (refine zpf ?_)); refine Q5B ?_; refine Q2r ?_)
             all_goals (first | (exact ⟨_, zh, zh, by exact ⟨fun _ => ⟨by omega, by omega⟩, fun _ => rfl⟩, hS.sp⟩) | (exact ⟨_, zh, zh, by exact ⟨fun h => Bool.noConfusion h, fun h => by omega⟩, hS.sp⟩))
           rintro ρ w1 ⟨q, hA, hρ, hq, hS⟩; obtain ⟨ρ, rfl⟩ := env2 hA hρ
           all_goals (refine zm ?_; refine zn ?_; refine Q0 ?_; refine Q0 ?_; refine Q1 ?_; refine zm ?_; refine zn ?_; refine Qa ?_)
           refine zoL hS [1, 2, 3, 4] (fun A LL ρ' w' => ∃ (i : Nat) (q : Bool), Has ρ' A ∧ Has ρ' [(7, .bool q), (8, .int .i64 i)] ∧ (i ≤ x1.results.length) ∧ (q = true ↔ (x1.regs = 0 ∧ x1.params.length = 0 ∧ ∀ t ∈ x1.results.take i, t.kind = 1)) ∧ (f = 0) ∧ St cx w' (LL)) (fun ρ' _ => (x1.results.length - iv (ρ' 8)).toNat) ?_ ?_
           · exact ⟨0, q, zh, zh, (by omega), by rw [hq]; simp, by omega, hS.sp⟩
           rintro ρ w1 ⟨i, q, hA, hρ, hi, hq2, hf0, hS⟩; obtain ⟨ρ, rfl⟩ := env2 hA hρ
           unfold Q7Y
           all_goals (refine Q0 ?_; refine Q0 ?_; refine Q1 ?_; refine zm ?_; refine zf0 ?_; refine zl hS ?_; refine zL ?_; refine Q1i rfl rfl ?_; refine zn ?_)
           refine QM rfl (fun hc => ?_) (fun hc => ?_)
           · skip
             all_goals (refine zsk ?_; refine Q0 ?_; refine Qa ?_)
             all_goals (cases q)
             all_goals (refine Q1 ?_; refine zm ?_; refine zm ?_; (first | refine zgn ?_ | (refine zgy ?_; refine zf0 ?_)); (first | refine zgn ?_ | (refine zgy ?_; refine zl hS ?_)); (first | refine zgn ?_ | (refine zgy ?_; refine zm ?_)); (first | refine zgn ?_ | (refine zgy ?_; refine zi ?_; intro b2 o2 cs2 x2 hat2 hx2 he2; obtain ⟨vl2, rfl, hl2⟩ := Q1c he2)); (first | refine zgn ?_ | (refine zgy ?_; (first | refine zf0 ?_ | refine zfd ?_))); (first | refine zgn ?_ | (refine zgy ?_; (first | (refine zl hS ?_) | (refine zlk hS ?_)))))
             all_goals (first | refine zgn ?_ | (refine zgy ?_; (first | (refine Qn ?_) | (refine Qq ?_) | (refine Qg rfl rfl (fun hc => ?_) (fun hc => ?_)))))
             all_goals ((first | (refine zpt ?_) | (refine zpf ?_)); refine zm ?_; refine zn ?_; refine Q1 ?_; refine zm ?_; refine zad ?_; refine zm ?_; refine zn ?_)
             all_goals (first | (exact ⟨⟨i + 1, false, zh, zh, (by omega), by exact ⟨fun h => Bool.noConfusion h, fun h => hq2.2 ⟨h.1, h.2.1, fun t ht => h.2.2 t (List.mem_of_mem_take (i := i) (by rw [List.take_take, Nat.min_eq_left (by omega)]; exact ht))⟩⟩, hf0, hS.sp⟩, QF (by omega)⟩) | (exact ⟨⟨i + 1, true, zh, zh, (by omega), by exact ⟨fun _ => ⟨(hq2.1 rfl).1, (hq2.1 rfl).2.1, QmO (hq2.1 rfl).2.2 hx2 (by assumption)⟩, fun _ => rfl⟩, hf0, hS.sp⟩, QF (by omega)⟩) | (exact ⟨⟨i + 1, false, zh, zh, (by omega), by exact ⟨fun h => Bool.noConfusion h, fun h => absurd (h.2.2 x2 (by rw [QnV hx2]; simp)) (by assumption)⟩, hf0, hS.sp⟩, QF (by omega)⟩))
           · skip
             all_goals (refine zex ?_; refine Q0 ?_)
             all_goals (cases q)
             all_goals (refine Q1 ?_; refine zm ?_; refine znt ?_; refine zn ?_)
             all_goals
               first
               | (refine zct ?_ -- QO c8
                  all_goals (refine Q0 ?_; refine Q1 ?_; refine zm ?_; refine zR1 (c := Q77 f (by omega) hS) (h := ?_); rintro v1 w1 ⟨rfl, hS⟩; refine zR2 (c := rF_c hS) (h := ?_); rintro v1 w1 ⟨rfl, hS⟩; refine zsn hS ?_; intro w1 hS; have hS := hS.ns; refine zn ?_; refine zr ?_; refine Q16 vw (Q5 (n := 2) (by kernel_rfl) (by kernel_rfl) (hS.blkAt fd) (by rfl) (by rfl)) ?_)
                  all_goals (first | (refine ⟨_, rfl, ?_, hS.sp⟩; rw [if_pos (by omega), Q6K (by rw [Q3X]; decide), Qbg (by decide)]; rfl; done) | (refine ⟨_, rfl, ?_, hS.sp⟩; rw [if_neg (by omega), Q2p, Q2o Qm, hd, Q4 hx1]; rw [Qi (by rw [QZ (c := 1) (by unfold Qy; rw [if_pos (by omega)]) (by decide)]; simp), QZ (c := 1) (by unfold Qy; rw [if_pos (by omega)]) (by decide)]; rfl; done) | (refine ⟨_, rfl, ?_, hS.sp⟩; have e := QZ (n := m.funcs.length) (f := f) (x := x1) (c := Qu x1.params x1.regs) (by unfold Qy; rw [if_neg (by omega), if_pos (by assumption)]) (by assumption); rw [if_neg (by omega), Q2p, Q2o Qm, hd, Q4 hx1, Qi (by rw [e]; assumption), e]; rfl; done) | (refine ⟨_, rfl, ?_, hS.sp⟩; have e := QZ (n := m.funcs.length) (f := f) (x := x1) (c := Qu x1.results x1.regs) (by unfold Qy; rw [if_neg (by omega), if_neg (by assumption), if_pos (by assumption)]) (by assumption); rw [if_neg (by omega), Q2p, Q2o Qm, hd, Q4 hx1, Qi (by rw [e]; assumption), e]; rfl; done) | (refine ⟨_, rfl, ?_, hS.sp⟩; have e := QZ (n := m.funcs.length) (f := f) (x := x1) (c := 2) (by unfold Qy; rw [if_neg (by omega), if_neg (by assumption), if_neg (by assumption), if_pos (by omega)]) (by decide); rw [if_neg (by omega), Q2p, Q2o Qm, hd, Q4 hx1, Qi (by rw [e]; simp), e]; rfl; done) | (refine ⟨_, rfl, ?_, hS.sp⟩; have e := QZ (n := m.funcs.length) (f := f) (x := x1) (c := 18) (by unfold Qy; rw [if_neg k1, if_neg k2, if_neg k3, if_neg k4, if_pos]; refine ⟨hf0, ?_⟩; rw [List.take_of_length_le (by omega)] at hq2; refine Classical.byContradiction fun h => ?_; have := hq2.2 ⟨by omega, by omega, fun t ht => Classical.byContradiction fun hk => h (.inr (.inr ⟨t, ht, hk⟩))⟩; cases this) (by decide); rw [if_neg (by omega), Q2p, Q2o Qm, hd, Q4 hx1, Qi (by rw [e]; simp), e]; rfl; done)))
               | (refine zcf ?_ -- QO c8
                  all_goals refine zsk ?_)
             all_goals (first | (exact ⟨zh, zh, by unfold Qy; rw [if_neg k1, if_neg k2, if_neg k3, if_neg k4, if_neg (fun h => absurd h.1 (by omega))], hS.sp⟩) | (exact ⟨zh, zh, by unfold Qy; rw [if_neg k1, if_neg k2, if_neg k3, if_neg k4, if_neg]; rintro ⟨_, h⟩; obtain ⟨a1, a2, a3⟩ := hq2.1 rfl; rw [List.take_of_length_le (by omega)] at a3; rcases h with h | h | ⟨t, ht, hk⟩ <;> first | (exfalso; omega) | exact hk (a3 t ht), hS.sp⟩)))
        | (refine zcf ?_ -- QO c6
           all_goals (refine zsk ?_)
           all_goals (exact ⟨zh, zh, by unfold Qy; rw [if_neg k1, if_neg k2, if_neg k3, if_neg k4, if_neg (fun h => absurd h.1 (by omega))], hS.sp⟩))
    rintro ρ w1 ⟨hA, hρ, hh, hS⟩; obtain ⟨ρ, rfl⟩ := env2 hA hρ
    all_goals (refine Q0 ?_; refine Q1 ?_; refine zm ?_; refine zn ?_; refine Qa ?_)
    refine zoL hS [1, 2, 3, 4] (fun A LL ρ' w' => ∃ (b : Nat), Has ρ' A ∧ Has ρ' [(9, .int .i64 b)] ∧ (b ≤ x1.blocks.length) ∧ (QW m.funcs.length f x1 0 x1.blocks = QW m.funcs.length f x1 b (x1.blocks.drop b)) ∧ St cx w' (LL)) (fun ρ' _ => (x1.blocks.length - iv (ρ' 9)).toNat) ?_ ?_
    · exact ⟨0, zh, zh, (by omega), by simp, hS.sp⟩
    rintro ρ w1 ⟨b, hA, hρ, hb, hd2, hS⟩; obtain ⟨ρ, rfl⟩ := env2 hA hρ
    unfold Q7X
    all_goals (refine Q0 ?_; refine Q0 ?_; refine Q1 ?_; refine zm ?_; refine zf0 ?_; refine zl hS ?_; refine zL ?_; refine Q1i rfl rfl ?_; refine zn ?_)
    refine QM rfl (fun hc => ?_) (fun hc => ?_)
    · skip
      all_goals (refine zsk ?_; refine Q0 ?_; refine Qa ?_; refine Q0 ?_; obtain ⟨y, hy⟩ : ∃ y, x1.blocks[b]? = some y := ⟨_, List.getElem?_eq_getElem (by omega)⟩; have hsy := hsx.2.2.2 y (List.mem_of_getElem? hy); refine Q1 ?_; refine zv hS ?_; refine zm ?_; refine zm ?_; refine zR3 (c := rblock_c hx1 hy (by omega) (by omega) hsy.2.1 hm' hS) (h := ?_); rintro v1 w1 ⟨rfl, hS⟩; unfold fltV; refine Q9 hS ?_; intro p10 w1 hS; refine zsn hS ?_; intro w1 hS; have hS := hS.ns; refine zn ?_; refine Q0 ?_; refine Q1 ?_; refine zf0 ?_; refine zl hS ?_)
      all_goals (first | (refine Q1h ?_) | (refine Q1j ?_) | (refine Qv rfl rfl (fun hc => ?_) (fun hc => ?_)))
      all_goals (refine zn ?_)
      all_goals
        first
        | (refine zct ?_ -- QO c10
           all_goals (refine Q0 ?_; refine Q1 ?_; refine zv hS ?_; refine zsn hS ?_; intro w1 hS; have hS := hS.ns; refine zn ?_; refine zr ?_; refine Q16 vw (Q5 (n := 2) (by kernel_rfl) (by kernel_rfl) (hS.blkAt fd) (by rfl) (by rfl)) ?_)
           all_goals (first | (refine ⟨_, rfl, ?_, hS.sp⟩; rw [if_pos (by omega), Q6K (by rw [Q3X]; decide), Qbg (by decide)]; rfl; done) | (refine ⟨_, rfl, ?_, hS.sp⟩; rw [if_neg (by omega), Q2p, Q2o Qm, hd, Q4 hx1]; rw [Qi (by rw [QZ (c := 1) (by unfold Qy; rw [if_pos (by omega)]) (by decide)]; simp), QZ (c := 1) (by unfold Qy; rw [if_pos (by omega)]) (by decide)]; rfl; done) | (refine ⟨_, rfl, ?_, hS.sp⟩; have e := QZ (n := m.funcs.length) (f := f) (x := x1) (c := Qu x1.params x1.regs) (by unfold Qy; rw [if_neg (by omega), if_pos (by assumption)]) (by assumption); rw [if_neg (by omega), Q2p, Q2o Qm, hd, Q4 hx1, Qi (by rw [e]; assumption), e]; rfl; done) | (refine ⟨_, rfl, ?_, hS.sp⟩; have e := QZ (n := m.funcs.length) (f := f) (x := x1) (c := Qu x1.results x1.regs) (by unfold Qy; rw [if_neg (by omega), if_neg (by assumption), if_pos (by assumption)]) (by assumption); rw [if_neg (by omega), Q2p, Q2o Qm, hd, Q4 hx1, Qi (by rw [e]; assumption), e]; rfl; done) | (refine ⟨_, rfl, ?_, hS.sp⟩; have e := QZ (n := m.funcs.length) (f := f) (x := x1) (c := 2) (by unfold Qy; rw [if_neg (by omega), if_neg (by assumption), if_neg (by assumption), if_pos (by omega)]) (by decide); rw [if_neg (by omega), Q2p, Q2o Qm, hd, Q4 hx1, Qi (by rw [e]; simp), e]; rfl; done) | (refine ⟨_, rfl, ?_, hS.sp⟩; have e := QZ (n := m.funcs.length) (f := f) (x := x1) (c := 18) (by unfold Qy; rw [if_neg k1, if_neg k2, if_neg k3, if_neg k4, if_pos]; refine ⟨hf0, ?_⟩; rw [List.take_of_length_le (by omega)] at hq2; refine Classical.byContradiction fun h => ?_; have := hq2.2 ⟨by omega, by omega, fun t ht => Classical.byContradiction fun hk => h (.inr (.inr ⟨t, ht, hk⟩))⟩; cases this) (by decide); rw [if_neg (by omega), Q2p, Q2o Qm, hd, Q4 hx1, Qi (by rw [e]; simp), e]; rfl; done) | (refine ⟨_, rfl, ?_, hS.sp⟩; have e : (QP m.funcs.length f x1 b y).1 ≠ 0 := (by assumption); have e2 : Q2i m.funcs.length f x1 = QP m.funcs.length f x1 b y := (by rw [Qhf hh, hd2, Q4 hy, Q5V e]); rw [if_neg (by omega), Q2p, Q2o Qm, hd, Q4 hx1, Qi (by rw [e2]; exact e), e2]; rfl; done)))
        | (refine zcf ?_ -- QO c10
           all_goals refine zsk ?_)
      all_goals (refine Q1 ?_; refine zm ?_; refine zad ?_; refine zm ?_; refine zn ?_; exact ⟨⟨b + 1, zh, zh, (by omega), by rw [hd2, Q4 hy, Qfq (by omega)], hS.sp⟩, QF (by omega)⟩)
    · skip
      all_goals (refine zex ?_; refine Q1 ?_; refine zm ?_; refine zad ?_; refine zm ?_; refine zn ?_; exact ⟨⟨f + 1, zh, zh, (by omega), by rw [hd, Q4 hx1, Qjv]; rw [Qhf hh, hd2, List.drop_of_length_le (by omega)]; rfl, hS.sp⟩, QF (by omega)⟩)
  · skip
    all_goals (refine zex ?_; refine Q0 ?_; refine Q1 ?_; refine zb0 [_, _] ?_; refine zsn hS ?_; intro w1 hS; have hS := hS.ns; refine zn ?_; refine zr ?_; refine Q16 vw (Q5 (n := 2) (by kernel_rfl) (by kernel_rfl) (hS.blkAt fd) (by rfl) (by rfl)) ?_)
    all_goals (first | (refine ⟨_, rfl, ?_, hS.sp⟩; rw [if_pos (by omega), Q6K (by rw [Q3X]; decide), Qbg (by decide)]; rfl; done) | (refine ⟨_, rfl, ?_, hS.sp⟩; rw [if_neg (by omega), Q2p, Q2o Qm, hd, Q4 hx1]; rw [Qi (by rw [QZ (c := 1) (by unfold Qy; rw [if_pos (by omega)]) (by decide)]; simp), QZ (c := 1) (by unfold Qy; rw [if_pos (by omega)]) (by decide)]; rfl; done) | (refine ⟨_, rfl, ?_, hS.sp⟩; have e := QZ (n := m.funcs.length) (f := f) (x := x1) (c := Qu x1.params x1.regs) (by unfold Qy; rw [if_neg (by omega), if_pos (by assumption)]) (by assumption); rw [if_neg (by omega), Q2p, Q2o Qm, hd, Q4 hx1, Qi (by rw [e]; assumption), e]; rfl; done) | (refine ⟨_, rfl, ?_, hS.sp⟩; have e := QZ (n := m.funcs.length) (f := f) (x := x1) (c := Qu x1.results x1.regs) (by unfold Qy; rw [if_neg (by omega), if_neg (by assumption), if_pos (by assumption)]) (by assumption); rw [if_neg (by omega), Q2p, Q2o Qm, hd, Q4 hx1, Qi (by rw [e]; assumption), e]; rfl; done) | (refine ⟨_, rfl, ?_, hS.sp⟩; have e := QZ (n := m.funcs.length) (f := f) (x := x1) (c := 2) (by unfold Qy; rw [if_neg (by omega), if_neg (by assumption), if_neg (by assumption), if_pos (by omega)]) (by decide); rw [if_neg (by omega), Q2p, Q2o Qm, hd, Q4 hx1, Qi (by rw [e]; simp), e]; rfl; done) | (refine ⟨_, rfl, ?_, hS.sp⟩; have e := QZ (n := m.funcs.length) (f := f) (x := x1) (c := 18) (by unfold Qy; rw [if_neg k1, if_neg k2, if_neg k3, if_neg k4, if_pos]; refine ⟨hf0, ?_⟩; rw [List.take_of_length_le (by omega)] at hq2; refine Classical.byContradiction fun h => ?_; have := hq2.2 ⟨by omega, by omega, fun t ht => Classical.byContradiction fun hk => h (.inr (.inr ⟨t, ht, hk⟩))⟩; cases this) (by decide); rw [if_neg (by omega), Q2p, Q2o Qm, hd, Q4 hx1, Qi (by rw [e]; simp), e]; rfl; done) | (refine ⟨_, rfl, ?_, hS.sp⟩; have e : (QP m.funcs.length f x1 b y).1 ≠ 0 := (by assumption); have e2 : Q2i m.funcs.length f x1 = QP m.funcs.length f x1 b y := (by rw [Qhf hh, hd2, Q4 hy, Q5V e]); rw [if_neg (by omega), Q2p, Q2o Qm, hd, Q4 hx1, Qi (by rw [e2]; exact e), e2]; rfl; done) | (refine ⟨_, rfl, ?_, hS.sp⟩; rw [if_neg (by omega), Q2p, Q2o Qm, hd, List.drop_of_length_le (l := m.funcs) (by omega), Q1K]; rfl; done))
theorem kindne_c {t : Ty} {cs : List Value} (ht : tyR.at cx cs t) (hS : St cx w L) : Rets Tryz.prog Q4A [.agg ⟨cs⟩] w fun u w' => u = .bool (decide (t.kind ≠ 1)) ∧ St cx w' L := by
  obtain ⟨v, rfl, hl⟩ := Q1c ht
  all_goals refine Qhn ?_
  all_goals (unfold code_Check_1_lc; refine Q0 ?_; refine Q1 ?_; refine zb hS ?_; intro p1 w1 hS; refine zm ?_; refine zn ?_; refine Q0 ?_; refine Q1 ?_; refine zf0 ?_; refine zl hS ?_; refine Q9X rfl rfl ?_; refine zm ?_; refine zn ?_; refine zr ?_; refine zf ?_; refine ⟨_, rfl, ?_, hS.sp⟩; (rfl); done)
theorem pcont_c {l : List Ty} {v : Value} (hl : tyR.sl cx v l) (hS : St cx w L) : Rets Tryz.prog Q1C [v, .func (.func Q4A) #[] #[]] w fun u w' => ∃ q, u = .bool q ∧ (q = true ↔ ∃ t ∈ l, t.kind ≠ 1) ∧ St cx w' L := by
  have hlen := hl.len
  have hidx : ∀ {w : World} {L : List Res}, St cx w L → Rets Tryz.prog QL [v, .func (.func Q4A) #[] #[]] w fun u w' => ∃ r : Int, u = .int .i64 r ∧ (0 ≤ r ↔ ∃ t ∈ l, t.kind ≠ 1) ∧ St cx w' L := by
    intro w L hS
    all_goals refine Q2Q ?_
    all_goals (unfold slices_IndexFunc_api_Type_api_Type_lc; refine Q0 ?_; refine Q1 ?_; refine zm ?_; refine zn ?_; refine Q0 ?_; refine Q0 ?_; refine Q1 ?_; refine zm ?_; refine zL ?_; refine zm ?_; refine zn ?_; refine Qa ?_)
    refine zoL hS [0, 1, 7] (fun A LL ρ' w' => ∃ (j : Nat), Has ρ' A ∧ Has ρ' [(8, .int .i64 j)] ∧ (j ≤ l.length) ∧ (∀ t ∈ l.take j, t.kind = 1) ∧ St cx w' (LL)) (fun ρ' _ => (l.length - iv (ρ' 8)).toNat) ?_ ?_
    · exact ⟨0, zh, zh, (by omega), by simp, hS.sp⟩
    rintro ρ w1 ⟨j, hA, hρ, hj, hd, hS⟩; obtain ⟨ρ, rfl⟩ := env2 hA hρ
    unfold Q1B
    all_goals (refine Q0 ?_; refine Q1 ?_; refine Q1i rfl rfl ?_; refine zn ?_; refine Q0 ?_)
    refine QM rfl (fun hc => ?_) (fun hc => ?_)
    · skip
      all_goals (refine zsk ?_; refine Q0 ?_; refine Qa ?_; refine Q0 ?_; refine Q1 ?_; refine zm ?_; refine zm ?_; refine zn ?_; refine Q0 ?_; refine Q1 ?_; refine zm ?_; refine zm ?_; refine zm ?_; refine zi ?_; intro b1 o1 cs1 x1 hat1 hx1 he1; obtain ⟨vl1, rfl, hl1⟩ := Q1c he1; (first | (refine zv hS ?_) | (refine zvk hS ?_)))
      all_goals (refine QtB rfl (by kernel_rfl) (by rfl) (kindne_c he1 hS) ?_; rintro v1 w1 ⟨rfl, hS⟩; (cases hdec : decide (x1.kind ≠ 1)); have hg := of_decide_eq_false hdec; rotate_left; have hg := of_decide_eq_true hdec; all_goals skip)
      all_goals (refine zn ?_)
      all_goals
        first
        | (refine zct ?_ -- QL c1
           all_goals (refine Q0 ?_; refine Q1 ?_; refine zm ?_; refine zm ?_; refine zn ?_; refine zr ?_; refine zf ?_)
           all_goals (exact ⟨_, rfl, j, rfl, ⟨fun _ => ⟨x1, List.mem_of_getElem? hx1, hg⟩, fun _ => by omega⟩, hS.sp⟩))
        | (refine zcf ?_ -- QL c1
           all_goals refine zsk ?_)
      all_goals (refine Q1 ?_; refine zad ?_; refine zm ?_; refine zn ?_; exact ⟨⟨j + 1, zh, zh, (by omega), QmO hd hx1 (Classical.not_not.1 hg), hS.sp⟩, QF (by omega)⟩)
    · skip
      all_goals (refine zex ?_; refine Q0 ?_; refine Q1 ?_; refine zm ?_; refine zn ?_; refine zr ?_; refine zf ?_)
      all_goals (first | (exact ⟨_, rfl, j, rfl, ⟨fun _ => ⟨x1, List.mem_of_getElem? hx1, hg⟩, fun _ => by omega⟩, hS.sp⟩) | (exact ⟨_, rfl, -1, rfl, ⟨fun h => by omega, fun ⟨t, ht, hk⟩ => absurd (all_take hd (by omega) t ht) hk⟩, hS.sp⟩))
  all_goals refine Q2n ?_
  all_goals (unfold slices_ContainsFunc_api_Type_api_Type_lc; refine Q0 ?_; refine Q1 ?_; refine zm ?_; refine zn ?_; refine Q0 ?_; refine Q1 ?_; refine zm ?_; refine zm ?_; refine zR2 (c := hidx hS) (h := ?_); rintro v1 w1 ⟨r, rfl, hr, hS⟩)
  all_goals (first | (refine Q5Y ?_) | (refine Q6N ?_) | (refine Q35 rfl rfl (fun hc => ?_) (fun hc => ?_)))
  all_goals (refine zm ?_; refine zn ?_; refine zr ?_; refine zf ?_)
  all_goals (first | (exact ⟨_, rfl, _, rfl, ⟨fun _ => hr.1 (by omega), fun _ => rfl⟩, hS.sp⟩) | (exact ⟨_, rfl, _, rfl, ⟨fun h => Bool.noConfusion h, fun h => by have := hr.2 h; omega⟩, hS.sp⟩))
theorem QuP {g : Flt} {a : Int} {x : Fun} {b : Nat} {y : Block} {q : Bool} (hq : q = true ↔ (b = 0 ∧ (y.regs ≠ x.regs ∨ y.params ≠ x.params))) :
    orF (orF (orF (orF g (mkF (if y.regs < x.regs ∨ 16 < y.regs then 1 else 0) a)) (mkF (Qu y.params y.regs) a)) (mkF (if q = true then 9 else 0) a)) (mkF (if 40 < y.code.length then 2 else 0) a) = orF g (mkF (Qt x b y) a) := by
  rw [Q3n, Q3n, Q3n]
  congr 2
  unfold Qt
  by_cases h0 : y.regs < x.regs ∨ 16 < y.regs
  · rw [if_pos h0, if_pos h0]; simp only [Q7K (show (1 : Int) ≠ 0 by decide)]
  · rw [if_neg h0, if_neg h0, Q6L]
    by_cases h : Qu y.params y.regs ≠ 0
    · rw [if_pos h]; simp only [Q7K h]
    · rw [if_neg h, Classical.not_not.1 h, Q6L]
      by_cases hb : b = 0 ∧ (y.regs ≠ x.regs ∨ y.params ≠ x.params)
      · rw [if_pos hb, if_pos (hq.2 hb)]; simp only [Q7K (show (9 : Int) ≠ 0 by decide)]
      · rw [if_neg hb, if_neg (fun h => hb (hq.1 h)), Q6L]
theorem pblock_c {fs : List Fun} {f b : Nat} {x : Fun} {y : Block} {vf : Value} {g : Flt} {a : Int} {p : Nat} (hxf : fs[f]? = some x) (hyb : x.blocks[b]? = some y) (hf0 : f ≤ 1000000) (hb0 : b ≤ 1000000) (hlc : y.code.length ≤ 100000) (hf : funcR.sl cx vf fs) (hS : St cx w L) (hi : nth L i = some (jdg p vf g a)) :
    Rets Tryz.prog Q32 [.pointer (some ⟨p, 0, none⟩), .int .i64 f, .int .i64 b] w fun u w' => u = .tuple #[] ∧ ∃ a', St cx w' (L.set i (jdg p vf (orF g (QP fs.length f x b y)) a')) := by
  have hflt := (List.getElem?_eq_some_iff.1 hxf).1
  have hblt := (List.getElem?_eq_some_iff.1 hyb).1
  have hS := hS.out hi
  all_goals refine QaK ?_
  all_goals (unfold code_judge_block_lc; refine Q0 ?_; refine Q1 ?_; refine zm ?_; refine znc ?_; refine zf0 ?_; refine zf0 ?_; refine zl hS ?_; refine zm ?_; refine zi ?_; intro b1 o1 cs1 x1 hat1 hx1 he1; obtain ⟨vp1, vr1, vb1, rfl, hp1, hr1, hb1⟩ := Q1L he1; (first | (refine zv hS ?_) | (refine zvk hS ?_)); refine Q9 hS ?_; intro p6 w1 hS; refine zsn hS ?_; intro w1 hS; have hS := hS.ns; refine zn ?_; have e1 : x = x1 := Option.some.inj (hxf.symm.trans hx1); subst e1; refine Q0 ?_; refine Q1 ?_; refine zf0 ?_; refine zl hS ?_; refine zm ?_; refine zi ?_; intro b2 o2 cs2 x2 hat2 hx2 he2; obtain ⟨vp2, vc2, ve21, ve22, ve23, ve24, ve25, rfl, hp2, hc2, he21, he22, he23, he24, he25⟩ := Q29 he2; (first | (refine zv hS ?_) | (refine zvk hS ?_)); refine Q9 hS ?_; intro p7 w1 hS; refine zsn hS ?_; intro w1 hS; have hS := hS.ns; refine zn ?_; have e2 : y = x2 := Option.some.inj (hyb.symm.trans hx2); subst e2)
  refine zM [0, 1, 2, 6, 7] (fun A ρ' w' => Has ρ' A ∧ Has ρ' [] ∧ St cx w' (blk p7 52 [.int .i64 y.regs, vp2, vc2, .int .i64 y.fin.op, .int .i64 y.fin.a, .int .i64 y.fin.yes.block, ve21, ve22, .int .i64 y.fin.no.block, ve23, ve24, ve25] :: blk p6 43 [.int .i64 x.regs, vp1, vr1, vb1] :: jdg p vf g (Q3I f b) :: L.eraseIdx i)) ?_ ?_
  · skip
    all_goals (refine Q1 ?_; refine zm ?_; refine zm ?_; refine zm ?_; refine zR2 (c := Qsv f b hf0 hb0 hS) (h := ?_); rintro v1 w1 ⟨rfl, hS⟩; refine znc ?_; refine zf0 ?_; refine zst hS ?_; intro w1 hS; have hS := hS.ns; refine zn ?_; exact ⟨zh, zh, hS.sp⟩)
  rintro ρ w1 ⟨hA, hρ, hS⟩; obtain ⟨ρ, rfl⟩ := env2 hA hρ
  refine zM [0, 1, 2, 6, 7] (fun A ρ' w' => Has ρ' A ∧ Has ρ' [] ∧ St cx w' (blk p7 52 [.int .i64 y.regs, vp2, vc2, .int .i64 y.fin.op, .int .i64 y.fin.a, .int .i64 y.fin.yes.block, ve21, ve22, .int .i64 y.fin.no.block, ve23, ve24, ve25] :: blk p6 43 [.int .i64 x.regs, vp1, vr1, vb1] :: jdg p vf (orF g (mkF (if y.regs < x.regs ∨ 16 < y.regs then 1 else 0) (Q3I f b))) (Q3I f b) :: L.eraseIdx i)) ?_ ?_
  · skip
    all_goals (refine Q1 ?_; refine zm ?_; refine zf0 ?_; refine zl hS ?_; refine zf0 ?_; refine zl hS ?_)
    all_goals (first | (refine Q1b ?_) | (refine Q1z ?_) | (refine QH rfl rfl (fun hc => ?_) (fun hc => ?_)))
    all_goals (refine zm ?_; (first | refine zgn ?_ | (refine zgy ?_; refine zf0 ?_)); (first | refine zgn ?_ | (refine zgy ?_; refine zl hS ?_)))
    all_goals (first | refine zgn ?_ | (refine zgy ?_; (first | (refine QD ?_) | (refine QR ?_) | (refine Qr rfl rfl (fun hc => ?_) (fun hc => ?_)))))
    all_goals ((first | (refine zpt ?_) | (refine zpf ?_)); refine zR3 (c := Q2H (g := _) (by intro _; decide) hS fd) (h := ?_); rintro v1 w1 ⟨rfl, hS⟩; simp only [List.set_cons_zero, List.set_cons_succ, if_true, Bool.false_eq_true, if_false] at hS; refine zn ?_; exact ⟨zh, zh, by first | (rw [if_pos (by omega)]; exact hS.sp) | (rw [if_neg (by omega)]; exact hS.sp)⟩)
  rintro ρ w1 ⟨hA, hρ, hS⟩; obtain ⟨ρ, rfl⟩ := env2 hA hρ
  all_goals (refine Q0 ?_; refine Q1 ?_; refine zm ?_; refine zf0 ?_; refine zl hS ?_; refine zf0 ?_; refine zl hS ?_; refine zR3 (c := QpM hp2 hS fd) (h := ?_); rintro v1 w1 ⟨rfl, hS⟩; have hS := hS.ns; refine zn ?_; refine Q0 ?_; refine Q1 ?_)
  refine zKL hS 18 [0, 1, 2, 6, 7] (fun A LL ρ' w' => ∃ (q : Bool), Has ρ' A ∧ Has ρ' [(46, .pointer (some ⟨p, 0, none⟩)), (63, .bool q)] ∧ (q = true ↔ (b = 0 ∧ (y.regs ≠ x.regs ∨ y.params ≠ x.params))) ∧ St cx w' (LL)) ?_ ?_
  · skip
    all_goals (refine zm ?_; refine zm ?_)
    all_goals (first | (refine Qn ?_) | (refine Qq ?_) | (refine Qg rfl rfl (fun hc => ?_) (fun hc => ?_)))
    all_goals (refine zm ?_; (first | refine zgn ?_ | (refine zgy ?_; refine zf0 ?_)); (first | refine zgn ?_ | (refine zgy ?_; refine zl hS ?_)); (first | refine zgn ?_ | (refine zgy ?_; refine zf0 ?_)); (first | refine zgn ?_ | (refine zgy ?_; refine zl hS ?_)))
    all_goals (first | refine zgn ?_ | (refine zgy ?_; (first | (refine Q1h ?_) | (refine Q1j ?_) | (refine Qv rfl rfl (fun hc => ?_) (fun hc => ?_)))))
    all_goals ((first | refine zgn ?_ | (refine zgy ?_; refine zm ?_)); (first | refine zgn ?_ | (refine zgy ?_; refine zf0 ?_)); (first | refine zgn ?_ | (refine zgy ?_; refine zl hS ?_)); (first | refine zgn ?_ | (refine zgy ?_; refine zf0 ?_)); (first | refine zgn ?_ | (refine zgy ?_; refine zl hS ?_)))
    all_goals (first | refine zgn ?_ | (refine zgy ?_; refine zR3 (c := eqfT_c (by kernel_rfl) (fun a _ b _ {_ _ _ _} h1 h2 h3 => psame_c a b h1 h2 h3) hp2 hp1 hS) (h := ?_); rintro v1 w1 ⟨rfl, hS⟩; (cases hdec : decide (y.params = x.params)); have hg := of_decide_eq_false hdec; rotate_left; have hg := of_decide_eq_true hdec; all_goals skip))
    all_goals ((first | refine zgn ?_ | (refine zgy ?_; refine znt ?_)); (first | refine zgn ?_ | (refine zgy ?_; (first | (refine zpt ?_) | (refine zpf ?_)))); (first | (refine zpt ?_) | (refine zpf ?_)); refine Q5B ?_; refine Q2r ?_)
    all_goals (first | (exact ⟨_, zh, zh, by exact ⟨fun _ => ⟨by omega, .inl (by assumption)⟩, fun _ => rfl⟩, hS.sp⟩) | (exact ⟨_, zh, zh, by exact ⟨fun _ => ⟨by omega, .inr (by assumption)⟩, fun _ => rfl⟩, hS.sp⟩) | (exact ⟨_, zh, zh, by exact ⟨fun h => Bool.noConfusion h, fun h => absurd h.1 (by omega)⟩, hS.sp⟩) | (exact ⟨_, zh, zh, by exact ⟨fun h => Bool.noConfusion h, fun h => h.2.elim (fun h => absurd h (by assumption)) (fun h => absurd (by assumption) h)⟩, hS.sp⟩))
  rintro ρ w1 ⟨q, hA, hρ, hq, hS⟩; obtain ⟨ρ, rfl⟩ := env2 hA hρ
  all_goals (refine zR3 (c := Q2H (g := _) (by intro _; decide) hS fd) (h := ?_); rintro v1 w1 ⟨rfl, hS⟩; simp only [List.set_cons_zero, List.set_cons_succ, if_true, Bool.false_eq_true, if_false] at hS; refine zn ?_)
  refine zM [0, 1, 2, 6, 7] (fun A ρ' w' => Has ρ' A ∧ Has ρ' [] ∧ St cx w' (blk p7 52 [.int .i64 y.regs, vp2, vc2, .int .i64 y.fin.op, .int .i64 y.fin.a, .int .i64 y.fin.yes.block, ve21, ve22, .int .i64 y.fin.no.block, ve23, ve24, ve25] :: blk p6 43 [.int .i64 x.regs, vp1, vr1, vb1] :: jdg p vf (orF g (mkF (Qt x b y) (Q3I f b))) (Q3I f b) :: L.eraseIdx i)) ?_ ?_
  · skip
    all_goals (refine Q1 ?_; refine zm ?_; refine zf0 ?_; refine zl hS ?_; refine zL ?_)
    all_goals (first | (refine QD ?_) | (refine QR ?_) | (refine Qr rfl rfl (fun hc => ?_) (fun hc => ?_)))
    all_goals (refine zR3 (c := Q2H (g := _) (by intro _; decide) hS fd) (h := ?_); rintro v1 w1 ⟨rfl, hS⟩; simp only [List.set_cons_zero, List.set_cons_succ, if_true, Bool.false_eq_true, if_false] at hS; refine zn ?_; exact ⟨zh, zh, by rw [← QuP hq]; first | (rw [if_pos (c := 40 < y.code.length) (by omega)]; exact hS.sp) | (rw [if_neg (c := 40 < y.code.length) (by omega)]; exact hS.sp)⟩)
  rintro ρ w1 ⟨hA, hρ, hS⟩; obtain ⟨ρ, rfl⟩ := env2 hA hρ
  all_goals (refine Q0 ?_; refine Q0 ?_; refine Q1 ?_; refine zm ?_; refine zn ?_; refine Qa ?_)
  refine zo [0, 1, 2, 6, 7] (fun A ρ' w' => ∃ (j : Nat) (h : Flt) (at2 : Int), Has ρ' A ∧ Has ρ' [(8, .int .i64 j)] ∧ (j ≤ y.code.length) ∧ (orF (orF g (mkF (Qt x b y) (Q3I f b))) (Q19 fs.length f b 0 y.code) = orF h (Q19 fs.length f b j (y.code.drop j))) ∧ St cx w' (blk p7 52 [.int .i64 y.regs, vp2, vc2, .int .i64 y.fin.op, .int .i64 y.fin.a, .int .i64 y.fin.yes.block, ve21, ve22, .int .i64 y.fin.no.block, ve23, ve24, ve25] :: blk p6 43 [.int .i64 x.regs, vp1, vr1, vb1] :: jdg p vf h at2 :: L.eraseIdx i)) (fun ρ' _ => (y.code.length - iv (ρ' 8)).toNat) ?_ ?_
  · exact ⟨0, _, _, zh, zh, (by omega), by rw [List.drop_zero], hS.sp⟩
  rintro ρ w1 ⟨j, h, at2, hA, hρ, hj, hd, hS⟩; obtain ⟨ρ, rfl⟩ := env2 hA hρ
  unfold Q4o
  all_goals (refine Q0 ?_; refine Q0 ?_; refine Q1 ?_; refine zm ?_; refine zf0 ?_; refine zl hS ?_; refine zL ?_)
  all_goals (first | (refine Q1b ?_) | (refine Q1z ?_) | (refine QH rfl rfl (fun hc => ?_) (fun hc => ?_)))
  all_goals (refine zm ?_; (first | refine zgn ?_ | (refine zgy ?_; refine zm ?_)); (first | refine zgn ?_ | (refine zgy ?_; refine znc ?_)); (first | refine zgn ?_ | (refine zgy ?_; refine zf0 ?_)); (first | refine zgn ?_ | (refine zgy ?_; (first | refine zf0 ?_ | refine zfd ?_))); (first | refine zgn ?_ | (refine zgy ?_; refine zl hS ?_)))
  all_goals (first | refine zgn ?_ | (refine zgy ?_; (first | (refine Qn ?_) | (refine Qq ?_) | (refine Qg rfl rfl (fun hc => ?_) (fun hc => ?_)))))
  all_goals ((first | (refine zpt ?_) | (refine zpf ?_)); refine zn ?_)
  all_goals
    first
    | (refine zct ?_ -- Q32 c0
       all_goals (refine zsk ?_; refine Q0 ?_; refine Qa ?_; refine Q0 ?_; refine Q1 ?_; refine zm ?_; refine zm ?_; refine zm ?_; refine zm ?_; refine zR3 (c := pInsAt_c f b j hf0 hb0 (by omega) hS) (h := ?_); rintro v1 w1 ⟨rfl, hS⟩; refine znc ?_; refine zf0 ?_; refine zst hS ?_; intro w1 hS; have hS := hS.ns; refine zn ?_; have hS : St cx _ (blk p7 52 [.int .i64 y.regs, vp2, vc2, .int .i64 y.fin.op, .int .i64 y.fin.a, .int .i64 y.fin.yes.block, ve21, ve22, .int .i64 y.fin.no.block, ve23, ve24, ve25] :: blk p6 43 [.int .i64 x.regs, vp1, vr1, vb1] :: jdg p vf h (Qhu f b j) :: L.eraseIdx i) := hS; refine Q1 ?_; refine zm ?_; refine zf0 ?_; refine zl hS ?_; refine zm ?_; refine zi ?_; intro b3 o3 cs3 x3 hat3 hx3 he3; obtain ⟨vr3, va3, rfl, hr3, ha3⟩ := Q3M he3; (first | (refine zv hS ?_) | (refine zvk hS ?_)); refine zR2 (c := ins_c he3 hf hS fd) (h := ?_); rintro v1 w1 ⟨rfl, hS⟩; have hS := hS.ns; refine zn ?_; refine Q1 ?_; refine zm ?_; refine zad ?_; refine zm ?_; refine zn ?_)
       all_goals (exact ⟨⟨j + 1, _, _, zh, zh, (by omega), by rw [hd, Q4 hx3, Q19, Q4l], hS.sp⟩, QF (by omega)⟩))
    | (refine zcf ?_ -- Q32 c0
       all_goals (refine zex ?_; (first | (rw [List.drop_of_length_le (by omega), Q19, Qsw (b := (0, 0)) rfl] at hd) | (rw [Q6K (a := h) (by assumption)] at hd)); refine Q0 ?_; refine Q1 ?_; refine zm ?_; refine zm ?_; refine zm ?_; refine zR2 (c := pEndAt_c f b hf0 hb0 hS) (h := ?_); rintro v1 w1 ⟨rfl, hS⟩; refine znc ?_; refine zf0 ?_; refine zst hS ?_; intro w1 hS; have hS := hS.ns; refine zn ?_; have hS : St cx _ (blk p7 52 [.int .i64 y.regs, vp2, vc2, .int .i64 y.fin.op, .int .i64 y.fin.a, .int .i64 y.fin.yes.block, ve21, ve22, .int .i64 y.fin.no.block, ve23, ve24, ve25] :: blk p6 43 [.int .i64 x.regs, vp1, vr1, vb1] :: jdg p vf h (QjM f b) :: L.eraseIdx i) := hS; refine Q1 ?_; refine zm ?_; refine zv hS ?_; refine zf0 ?_; refine zv hS ?_; refine zR3 (c := end_c (e := y.fin) he1 ⟨_, _, _, _, _, rfl, he21, he22, he23, he24, he25⟩ hS fd) (h := ?_); rintro v1 w1 ⟨rfl, hS⟩; have hS := hS.ns; refine zn ?_)
       all_goals (refine Q3z ?_; refine ⟨_, rfl, rfl, QjM f b, ?_⟩; have hS := hS.drop.drop; rw [show orF g (QP fs.length f x b y) = orF h (mkF (Q3Y x.blocks.length y.fin) (QjM f b)) from (by unfold QP; rw [← Q4l, ← Q4l, hd])]; exact St.back hS hi))
theorem QuF {g : Flt} {a : Int} {x : Fun} {f : Nat} {q : Bool} (hq : q = true ↔ (f = 0 ∧ (0 < x.regs ∨ 0 < x.params.length ∨ ∃ t ∈ x.results, t.kind ≠ 1))) :
    orF (orF (orF (orF (orF g (mkF (if x.regs < 0 ∨ 6 < x.regs then 1 else 0) a)) (mkF (Qu x.params x.regs) a)) (mkF (Qu x.results x.regs) a)) (mkF (if x.blocks.length < 1 ∨ 12 < x.blocks.length then 2 else 0) a)) (mkF (if q = true then 18 else 0) a) = orF g (mkF (Qy f x) a) := by
  rw [Q3n, Q3n, Q3n, Q3n]
  congr 2
  unfold Qy
  by_cases h0 : x.regs < 0 ∨ 6 < x.regs
  · rw [if_pos h0, if_pos h0]; simp only [Q7K (show (1 : Int) ≠ 0 by decide)]
  · rw [if_neg h0, if_neg h0, Q6L]
    by_cases h : Qu x.params x.regs ≠ 0
    · rw [if_pos h]; simp only [Q7K h]
    · rw [if_neg h, Classical.not_not.1 h, Q6L]
      by_cases h1 : Qu x.results x.regs ≠ 0
      · rw [if_pos h1]; simp only [Q7K h1]
      · rw [if_neg h1, Classical.not_not.1 h1, Q6L]
        by_cases h2 : x.blocks.length < 1 ∨ 12 < x.blocks.length
        · rw [if_pos h2, if_pos h2]; simp only [Q7K (show (2 : Int) ≠ 0 by decide)]
        · rw [if_neg h2, if_neg h2, Q6L]
          by_cases hb : f = 0 ∧ (0 < x.regs ∨ 0 < x.params.length ∨ ∃ t ∈ x.results, t.kind ≠ 1)
          · rw [if_pos hb, if_pos (hq.2 hb)]
          · rw [if_neg hb, if_neg (fun h => hb (hq.1 h))]
theorem pcheck_c {m : Module} (hsh : m.Short) {cs : List Value} (hm : modR.at cx cs m) (hS : St cx w L) :
    Rets Tryz.prog Q4b [.agg ⟨cs⟩] w fun u w' => u = fltV m.fault ∧ St cx w' L := by
  obtain ⟨vf, rfl, hf⟩ := Q47 hm
  have hsl := hsh.1
  have hsf := hsh.2
  obtain ⟨a0, n0, rfl⟩ := Rep.SR.shape hf
  generalize hvf : Value.slice a0 m.funcs.length n0 = vf at *
  all_goals refine QmM ?_
  all_goals (unfold code_Check_lc; refine Q0 ?_; refine Q1 ?_; refine zb hS ?_; intro p1 w1 hS; refine Q9 hS ?_; intro p2 w1 hS; refine zn ?_; refine Q0 ?_; refine Q1 ?_; refine zv hS ?_; refine QrI (cs := [vf, .int .i64 0, .int .i64 0, .int .i64 (-1)]) vw vw (by subst hvf; rfl) ?_; refine zb hS ?_; intro p9 w1 hS; refine zm ?_; refine zn ?_)
  refine zM [1, 2, 3] (fun A ρ' w' => Has ρ' A ∧ Has ρ' [] ∧ St cx w' (jdg p9 vf (mkF (if m.funcs.length < 1 ∨ 8 < m.funcs.length then 2 else 0) (-1)) (-1) :: blk p2 29 [.int .i64 0, .int .i64 0] :: blk p1 24 [vf] :: L)) ?_ ?_
  · skip
    all_goals (have hS : St cx _ (jdg p9 vf (0, 0) (-1) :: blk p2 29 [.int .i64 0, .int .i64 0] :: blk p1 24 [vf] :: L) := hS; refine Q1 ?_; refine zm ?_; refine zf0 ?_; refine zl hS ?_; refine zL ?_)
    all_goals (first | (refine Qn ?_) | (refine Qq ?_) | (refine Qg rfl rfl (fun hc => ?_) (fun hc => ?_)))
    all_goals (refine zm ?_; (first | refine zgn ?_ | (refine zgy ?_; refine zf0 ?_)); (first | refine zgn ?_ | (refine zgy ?_; refine zl hS ?_)); (first | refine zgn ?_ | (refine zgy ?_; refine zL ?_)))
    all_goals (first | refine zgn ?_ | (refine zgy ?_; (first | (refine QD ?_) | (refine QR ?_) | (refine Qr rfl rfl (fun hc => ?_) (fun hc => ?_)))))
    all_goals ((first | (refine zpt ?_) | (refine zpf ?_)); refine zR3 (c := Q2H (g := _) (by intro _; decide) hS fd) (h := ?_); rintro v1 w1 ⟨rfl, hS⟩; simp only [List.set_cons_zero, List.set_cons_succ, if_true, Bool.false_eq_true, if_false] at hS; refine zn ?_; exact ⟨zh, zh, by rw [Q2o (Qoo _ _)] at hS; first | (rw [if_pos (by omega)]; exact hS.sp) | (rw [if_neg (by omega)]; exact hS.sp)⟩)
  rintro ρ w1 ⟨hA, hρ, hS⟩; obtain ⟨ρ, rfl⟩ := env2 hA hρ
  all_goals (refine Q0 ?_; refine Q0 ?_; refine Q1 ?_; refine zm ?_; refine zn ?_; refine Qa ?_)
  refine zo [1, 2, 3] (fun A ρ' w' => ∃ (f : Nat) (h : Flt) (a : Int), Has ρ' A ∧ Has ρ' [(4, .int .i64 f)] ∧ (f ≤ m.funcs.length) ∧ (m.fault = orF h (Q1K m.funcs.length f (m.funcs.drop f))) ∧ St cx w' (jdg p9 vf h a :: blk p2 29 [.int .i64 0, .int .i64 0] :: blk p1 24 [vf] :: L)) (fun ρ' _ => (m.funcs.length - iv (ρ' 4)).toNat) ?_ ?_
  · exact ⟨0, _, _, zh, zh, (by omega), by rw [List.drop_zero]; rfl, hS.sp⟩
  rintro ρ w1 ⟨f, h, a, hA, hρ, hj, hd, hS⟩; obtain ⟨ρ, rfl⟩ := env2 hA hρ
  unfold QbF
  all_goals (refine Q0 ?_; refine Q0 ?_; refine Q1 ?_; refine zm ?_; refine zf0 ?_; refine zl hS ?_; refine zL ?_)
  all_goals (first | (refine Q1b ?_) | (refine Q1z ?_) | (refine QH rfl rfl (fun hc => ?_) (fun hc => ?_)))
  all_goals (refine zm ?_; (first | refine zgn ?_ | (refine zgy ?_; refine zm ?_)); (first | refine zgn ?_ | (refine zgy ?_; refine znc ?_)); (first | refine zgn ?_ | (refine zgy ?_; refine zf0 ?_)); (first | refine zgn ?_ | (refine zgy ?_; (first | refine zf0 ?_ | refine zfd ?_))); (first | refine zgn ?_ | (refine zgy ?_; refine zl hS ?_)))
  all_goals (first | refine zgn ?_ | (refine zgy ?_; (first | (refine Qn ?_) | (refine Qq ?_) | (refine Qg rfl rfl (fun hc => ?_) (fun hc => ?_)))))
  all_goals ((first | (refine zpt ?_) | (refine zpf ?_)); refine zn ?_)
  all_goals
    first
    | (refine zct ?_ -- Q4b c0
       all_goals (refine zsk ?_; refine Q0 ?_; refine Qa ?_; refine Q0 ?_; refine Q1 ?_; refine zf0 ?_; refine zl hS ?_; refine zm ?_; refine zi ?_; intro b1 o1 cs1 x1 hat1 hx1 he1; obtain ⟨vp1, vr1, vb1, rfl, hp1, hr1, hb1⟩ := Q1L he1; (first | (refine zv hS ?_) | (refine zvk hS ?_)); refine Q9 hS ?_; intro p5 w1 hS; refine zsn hS ?_; intro w1 hS; have hS := hS.ns; refine zn ?_; have hsx := hsf x1 (List.mem_of_getElem? hx1); have hlb := hsx.2.2.1; have hlp := hp1.len; have hlr := hr1.len; refine Q0 ?_; refine Q1 ?_; refine zm ?_; refine zm ?_; refine zR1 (c := Quc f (by omega) hS) (h := ?_); rintro v1 w1 ⟨rfl, hS⟩; refine znc ?_; refine zf0 ?_; refine zst hS ?_; intro w1 hS; have hS := hS.ns; refine zn ?_)
       refine zM [1, 2, 3, 4, 5] (fun A ρ' w' => Has ρ' A ∧ Has ρ' [] ∧ St cx w' (blk p5 43 [.int .i64 x1.regs, vp1, vr1, vb1] :: jdg p9 vf (orF h (mkF (if x1.regs < 0 ∨ 6 < x1.regs then 1 else 0) (Q3C f))) (Q3C f) :: blk p2 29 [.int .i64 0, .int .i64 0] :: blk p1 24 [vf] :: L)) ?_ ?_
       · skip
         all_goals (have hS : St cx _ (blk p5 43 [.int .i64 x1.regs, vp1, vr1, vb1] :: jdg p9 vf h (Q3C f) :: blk p2 29 [.int .i64 0, .int .i64 0] :: blk p1 24 [vf] :: L) := hS; refine Q1 ?_; refine zm ?_; refine zf0 ?_; refine zl hS ?_)
         all_goals (first | (refine Q1b ?_) | (refine Q1z ?_) | (refine QH rfl rfl (fun hc => ?_) (fun hc => ?_)))
         all_goals (refine zm ?_; (first | refine zgn ?_ | (refine zgy ?_; refine zf0 ?_)); (first | refine zgn ?_ | (refine zgy ?_; refine zl hS ?_)))
         all_goals (first | refine zgn ?_ | (refine zgy ?_; (first | (refine QD ?_) | (refine QR ?_) | (refine Qr rfl rfl (fun hc => ?_) (fun hc => ?_)))))
         all_goals ((first | (refine zpt ?_) | (refine zpf ?_)); refine zR3 (c := Q2H (g := _) (by intro _; decide) hS fd) (h := ?_); rintro v1 w1 ⟨rfl, hS⟩; simp only [List.set_cons_zero, List.set_cons_succ, if_true, Bool.false_eq_true, if_false] at hS; refine zn ?_; exact ⟨zh, zh, by first | (rw [if_pos (by omega)]; exact hS.sp) | (rw [if_neg (by omega)]; exact hS.sp)⟩)
       rintro ρ w1 ⟨hA, hρ, hS⟩; obtain ⟨ρ, rfl⟩ := env2 hA hρ
       all_goals (refine Q0 ?_; refine Q1 ?_; refine zm ?_; refine zf0 ?_; refine zl hS ?_; refine zf0 ?_; refine zl hS ?_; refine zR3 (c := QpM hp1 hS fd) (h := ?_); rintro v1 w1 ⟨rfl, hS⟩; have hS := hS.ns; refine zn ?_; refine Q0 ?_; refine Q1 ?_; refine zm ?_; refine zf0 ?_; refine zl hS ?_; refine zf0 ?_; refine zl hS ?_; refine zR3 (c := QpM hr1 hS fd) (h := ?_); rintro v1 w1 ⟨rfl, hS⟩; have hS := hS.ns; refine zn ?_)
       refine zM [1, 2, 3, 4, 5] (fun A ρ' w' => Has ρ' A ∧ Has ρ' [] ∧ St cx w' (blk p5 43 [.int .i64 x1.regs, vp1, vr1, vb1] :: jdg p9 vf (orF (orF (orF (orF h (mkF (if x1.regs < 0 ∨ 6 < x1.regs then 1 else 0) (Q3C f))) (mkF (Qu x1.params x1.regs) (Q3C f))) (mkF (Qu x1.results x1.regs) (Q3C f))) (mkF (if x1.blocks.length < 1 ∨ 12 < x1.blocks.length then 2 else 0) (Q3C f))) (Q3C f) :: blk p2 29 [.int .i64 0, .int .i64 0] :: blk p1 24 [vf] :: L)) ?_ ?_
       · skip
         all_goals (refine Q1 ?_; refine zm ?_; refine zf0 ?_; refine zl hS ?_; refine zL ?_)
         all_goals (first | (refine Qn ?_) | (refine Qq ?_) | (refine Qg rfl rfl (fun hc => ?_) (fun hc => ?_)))
         all_goals (refine zm ?_; (first | refine zgn ?_ | (refine zgy ?_; refine zf0 ?_)); (first | refine zgn ?_ | (refine zgy ?_; refine zl hS ?_)); (first | refine zgn ?_ | (refine zgy ?_; refine zL ?_)))
         all_goals (first | refine zgn ?_ | (refine zgy ?_; (first | (refine QD ?_) | (refine QR ?_) | (refine Qr rfl rfl (fun hc => ?_) (fun hc => ?_)))))
         all_goals ((first | (refine zpt ?_) | (refine zpf ?_)); refine zR3 (c := Q2H (g := _) (by intro _; decide) hS fd) (h := ?_); rintro v1 w1 ⟨rfl, hS⟩; simp only [List.set_cons_zero, List.set_cons_succ, if_true, Bool.false_eq_true, if_false] at hS; refine zn ?_; exact ⟨zh, zh, by first | (rw [if_pos (c := x1.blocks.length < 1 ∨ 12 < x1.blocks.length) (by omega)]; exact hS.sp) | (rw [if_neg (c := x1.blocks.length < 1 ∨ 12 < x1.blocks.length) (by omega)]; exact hS.sp)⟩)
       rintro ρ w1 ⟨hA, hρ, hS⟩; obtain ⟨ρ, rfl⟩ := env2 hA hρ
       refine zM [1, 2, 3, 4, 5] (fun A ρ' w' => Has ρ' A ∧ Has ρ' [] ∧ St cx w' (blk p5 43 [.int .i64 x1.regs, vp1, vr1, vb1] :: jdg p9 vf (orF h (mkF (Qy f x1) (Q3C f))) (Q3C f) :: blk p2 29 [.int .i64 0, .int .i64 0] :: blk p1 24 [vf] :: L)) ?_ ?_
       · skip
         all_goals (refine Q1 ?_)
         refine zKL hS 19 [1, 2, 3, 4, 5] (fun A LL ρ' w' => ∃ (q : Bool), Has ρ' A ∧ Has ρ' [(81, .pointer (some ⟨p9, 0, none⟩)), (99, .bool q)] ∧ (q = true ↔ (f = 0 ∧ (0 < x1.regs ∨ 0 < x1.params.length ∨ ∃ t ∈ x1.results, t.kind ≠ 1))) ∧ St cx w' (LL)) ?_ ?_
         · skip
           all_goals (refine zm ?_; refine zm ?_)
           all_goals (first | (refine Qn ?_) | (refine Qq ?_) | (refine Qg rfl rfl (fun hc => ?_) (fun hc => ?_)))
           all_goals (refine zm ?_; (first | refine zgn ?_ | (refine zgy ?_; refine zf0 ?_)); (first | refine zgn ?_ | (refine zgy ?_; refine zl hS ?_)))
           all_goals (first | refine zgn ?_ | (refine zgy ?_; (first | (refine QD ?_) | (refine QR ?_) | (refine Qr rfl rfl (fun hc => ?_) (fun hc => ?_)))))
           all_goals ((first | refine zgn ?_ | (refine zgy ?_; refine zm ?_)); (first | refine zgn ?_ | (refine zgy ?_; refine zf0 ?_)); (first | refine zgn ?_ | (refine zgy ?_; refine zl hS ?_)); (first | refine zgn ?_ | (refine zgy ?_; refine zL ?_)))
           all_goals (first | refine zgn ?_ | (refine zgy ?_; (first | (refine QD ?_) | (refine QR ?_) | (refine Qr rfl rfl (fun hc => ?_) (fun hc => ?_)))))
           all_goals ((first | refine zgn ?_ | (refine zgy ?_; (first | (refine zpt ?_) | (refine zpf ?_)))); (first | refine zgn ?_ | (refine zgy ?_; refine zm ?_)); (first | refine zgn ?_ | (refine zgy ?_; refine zf0 ?_)); (first | refine zgn ?_ | (refine zgy ?_; refine zl hS ?_)))
           all_goals ((first | (refine zgn ?_) | (refine zgy ?_; refine zR2 (c := pcont_c hr1 hS) (h := ?_); rintro v1 w1 ⟨qc, rfl, hqc, hS⟩; cases qc)))
           all_goals ((first | refine zgn ?_ | (refine zgy ?_; (first | (refine zpt ?_) | (refine zpf ?_)))); (first | (refine zpt ?_) | (refine zpf ?_)); refine Q5B ?_; refine Q2r ?_)
           all_goals (first | (exact ⟨_, zh, zh, by exact ⟨fun _ => ⟨by omega, .inl (by omega)⟩, fun _ => rfl⟩, hS.sp⟩) | (exact ⟨_, zh, zh, by exact ⟨fun _ => ⟨by omega, .inr (.inl (by omega))⟩, fun _ => rfl⟩, hS.sp⟩) | (exact ⟨_, zh, zh, by exact ⟨fun _ => ⟨by omega, .inr (.inr (hqc.1 rfl))⟩, fun _ => rfl⟩, hS.sp⟩) | (exact ⟨_, zh, zh, by exact ⟨fun h => Bool.noConfusion h, fun h => absurd h.1 (by omega)⟩, hS.sp⟩) | (exact ⟨_, zh, zh, by exact ⟨fun h => Bool.noConfusion h, fun h => h.2.elim (fun h => by omega) (fun h => h.elim (fun h => by omega) (fun h => Bool.noConfusion (hqc.2 h)))⟩, hS.sp⟩))
         rintro ρ w1 ⟨q, hA, hρ, hq, hS⟩; obtain ⟨ρ, rfl⟩ := env2 hA hρ
         all_goals (refine zR3 (c := Q2H (g := _) (by intro _; decide) hS fd) (h := ?_); rintro v1 w1 ⟨rfl, hS⟩; simp only [List.set_cons_zero, List.set_cons_succ, if_true, Bool.false_eq_true, if_false] at hS; refine zn ?_; exact ⟨zh, zh, by rw [← QuF hq]; exact hS.sp⟩)
       rintro ρ w1 ⟨hA, hρ, hS⟩; obtain ⟨ρ, rfl⟩ := env2 hA hρ
       all_goals (refine Q0 ?_; refine Q1 ?_; refine zm ?_; refine zn ?_; refine Qa ?_)
       refine zo [1, 2, 3, 4, 5] (fun A ρ' w' => ∃ (b : Nat) (h2 : Flt) (a2 : Int), Has ρ' A ∧ Has ρ' [(6, .int .i64 b)] ∧ (b ≤ x1.blocks.length) ∧ (orF (orF h (mkF (Qy f x1) (Q3C f))) (QW m.funcs.length f x1 0 x1.blocks) = orF h2 (QW m.funcs.length f x1 b (x1.blocks.drop b))) ∧ St cx w' (blk p5 43 [.int .i64 x1.regs, vp1, vr1, vb1] :: jdg p9 vf h2 a2 :: blk p2 29 [.int .i64 0, .int .i64 0] :: blk p1 24 [vf] :: L)) (fun ρ' _ => (x1.blocks.length - iv (ρ' 6)).toNat) ?_ ?_
       · exact ⟨0, _, _, zh, zh, (by omega), by rw [List.drop_zero], hS.sp⟩
       rintro ρ w1 ⟨b, h2, a2, hA, hρ, hb, hd2, hS⟩; obtain ⟨ρ, rfl⟩ := env2 hA hρ
       unfold Q9P
       all_goals (refine Q0 ?_; refine Q0 ?_; refine Q1 ?_; refine zm ?_; refine zf0 ?_; refine zl hS ?_; refine zL ?_)
       all_goals (first | (refine Q1b ?_) | (refine Q1z ?_) | (refine QH rfl rfl (fun hc => ?_) (fun hc => ?_)))
       all_goals (refine zm ?_; (first | refine zgn ?_ | (refine zgy ?_; refine zm ?_)); (first | refine zgn ?_ | (refine zgy ?_; refine znc ?_)); (first | refine zgn ?_ | (refine zgy ?_; refine zf0 ?_)); (first | refine zgn ?_ | (refine zgy ?_; (first | refine zf0 ?_ | refine zfd ?_))); (first | refine zgn ?_ | (refine zgy ?_; refine zl hS ?_)))
       all_goals (first | refine zgn ?_ | (refine zgy ?_; (first | (refine Qn ?_) | (refine Qq ?_) | (refine Qg rfl rfl (fun hc => ?_) (fun hc => ?_)))))
       all_goals ((first | (refine zpt ?_) | (refine zpf ?_)); refine zn ?_)
       all_goals
         first
         | (refine zct ?_ -- Q4b c1
            all_goals (refine zsk ?_; refine Q0 ?_; refine Qa ?_; obtain ⟨y, hy⟩ : ∃ y, x1.blocks[b]? = some y := ⟨_, List.getElem?_eq_getElem (by omega)⟩; have hsy := hsx.2.2.2 y (List.mem_of_getElem? hy); refine Q1 ?_; refine zm ?_; refine zm ?_; refine zm ?_; refine zR3 (c := pblock_c hx1 hy (by omega) (by omega) hsy.2.1 hf hS fd) (h := ?_); rintro v1 w1 ⟨rfl, a3, hS⟩; have hS := hS.ns; refine zn ?_; refine Q1 ?_; refine zm ?_; refine zad ?_; refine zm ?_; refine zn ?_)
            all_goals (exact ⟨⟨b + 1, _, _, zh, zh, (by omega), by rw [hd2, Q4 hy, QW, Q4l], hS.sp⟩, QF (by omega)⟩))
         | (refine zcf ?_ -- Q4b c1
            all_goals (refine zex ?_; (first | (rw [List.drop_of_length_le (by omega), QW, Qsw (b := (0, 0)) rfl] at hd2) | (rw [Q6K (a := h2) (by assumption)] at hd2)); refine Q1 ?_; refine zm ?_; refine zad ?_; refine zm ?_; refine zn ?_)
            all_goals (exact ⟨⟨f + 1, h2, a2, zh, zh, (by omega), by rw [hd, Q4 hx1, Q1K, ← Q4l, show orF h (Q2i m.funcs.length f x1) = h2 from (by unfold Q2i; rw [← Q4l, hd2])], hS.sp⟩, QF (by omega)⟩)))
    | (refine zcf ?_ -- Q4b c0
       all_goals (refine zex ?_; (first | (rw [List.drop_of_length_le (by omega), Q1K, Qsw (b := (0, 0)) rfl] at hd) | (rw [Q6K (a := h) (by assumption)] at hd)); refine Q0 ?_; refine Q1 ?_; refine zm ?_; refine znc ?_; refine zf0 ?_; refine zv hS ?_; refine zsn hS ?_; intro w1 hS; have hS := hS.ns; refine zn ?_; refine zr ?_; refine Q16 vw (Q5 (n := 2) (by kernel_rfl) (by kernel_rfl) (hS.blkAt fd) (by rfl) (by rfl)) ?_)
       all_goals (refine ⟨_, rfl, ?_, hS.sp⟩; rw [hd]; rfl; done))
end Go.Proofs.YtjecflbbcnocdaaGreatDoor
namespace Go.Lir
theorem Qon {l : List Tok} (h : (l.length : Int) > 0) : (fun l : List Tok => !l.isEmpty) l = true := by
  cases l with
  | nil => simp at h
  | cons => rfl
theorem ne_no {l : List Tok} (h : ¬ (l.length : Int) > 0) : (fun l : List Tok => !l.isEmpty) l = false := by
  cases l with
  | nil => rfl
  | cons => simp at h
/-- What is written in a region that draws is only what its operations write. -/
def KeepQ (D : List Nat) (ρ0 : Env) (Q : QT) : QT := fun e ρ' w' => (∀ s, D.contains s = false → ρ' s = ρ0 s) → Q e ρ' w'
theorem QrW {P : Program} {Q : QT} {D : List Nat} {ρ0 : Env} : ∀ (l : List GO) (ρ : Env) (w : World), l.all (fun g => g.o.takes && (match g.dst with | some d => D.contains d | none => true)) = true → (∀ s, D.contains s = false → ρ s = ρ0 s) → Q2 P l (KeepQ D ρ0 Q) ρ w → Q2 P l Q ρ w
  | [], ρ, w, _, hρ, h => h hρ
  | g :: l, ρ, w, ha, hρ, h => by
    rw [List.all_cons, Bool.and_eq_true, Bool.and_eq_true] at ha
    refine Qau ha.1.1 (fun _ _ => rfl) (fun v w' hk => QrW l _ _ ha.2 (fun s hs => ?_) hk) (fun e w' _ hq => hq hρ) h
    have hd := ha.1.2
    by_cases hsd : g.dst = some s
    · rw [hsd] at hd; dsimp only at hd; rw [hs] at hd; cases hd
    · rw [Q27 hsd]; exact hρ s hs
theorem zCK {P : Program} {Q : QT} {ρ : Env} {w : World} {gs : List GO} {es : List (List Nat)} (C : List CI) (D : List Nat) (h : Q1W P gs C (KeepQ D ρ Q) ρ w.drew) (hok : Qf0 gs es C = true := by kernel_rfl) (hk : (GO.nop :: gs).all (fun g => g.o.takes && (match g.dst with | some d => D.contains d | none => true)) = true := by kernel_rfl) : (LC.draw gs es).wp P Q ρ w := by
  intro l hl
  refine QrW _ ρ w.drew ?_ (fun _ _ => rfl) (QcS C hok h l hl)
  rw [List.all_eq_true] at hk ⊢
  intro g hg
  obtain ⟨i, hi, rfl⟩ := List.mem_map.1 hg
  refine hk _ ?_
  rw [List.getD_eq_getElem?_getD]
  cases h9 : gs[i]? with
  | none => simp
  | some x => simp [List.mem_of_getElem? h9]
end Go.Lir
namespace Go.Proofs.YtjecflbbcnocdaaGreatDoor
open Go.Lir
set_option maxHeartbeats 1000000
attribute [local irreducible] LC.wp Q2 QA QB retQ Q1e LO.wp Qj Calls
set_option linter.unusedSimpArgs false
set_option linter.unusedVariables false
attribute [local irreducible] pMany Q15 Q2Y pNum want isT pTyp Q38 pTo Q3W Q3R pIns Q2v pOpts pAll pIf Q2G pFun scan skip Q3h Module.fault Q3G
variable {cx : Cx} {w : World} {L : List Res}
theorem Qtq {P : Program} {T : TypeId} (h : aggT P T = true) : ∃ D, P.underlying T = some D ∧ ∀ m, D ≠ .interface m := by
  unfold aggT at h
  split at h
  · exact ⟨_, by assumption, by intro m h; cases h⟩
  · exact ⟨_, by assumption, by intro m h; cases h⟩
  · cases h
theorem Qmh {p q : Nat} {cs ds : List Value} (hS : St cx w (blk p 24 cs :: blk q 29 ds :: L)) : Defs Tryz.prog Q5M [.pointer (some ⟨p, 0, none⟩), .pointer (some ⟨q, 0, none⟩)] .returning w fun u' w' => u' = .returning ∧ St cx w' (blk p 24 cs :: blk q 29 ds :: L) := by
  unfold Defs
  all_goals refine Q5h ?_
  all_goals (unfold parse_Parse_1_ld; refine r_seq ?_; refine r_sp ?_; refine zn ?_; refine zm ?_; refine zn ?_; refine r_pl ?_; refine Q0 ?_; refine Q1 ?_; refine zm ?_; refine QlT (ms := #[]) (by kernel_rfl) rfl ?_; refine zn ?_)
  all_goals refine zcf ?_
  all_goals (refine zsk ?_; refine q_endR ?_; refine Q3z ?_; exact ⟨⟨_, rfl⟩, rfl, hS.sp⟩)
theorem parse1_p {p q : Nat} {v0 a0 b0 : Value} {e : Flt} (hS : St cx w (blk p 24 [v0] :: blk q 29 [a0, b0] :: L)) : Defs Tryz.prog Q5M [.pointer (some ⟨p, 0, none⟩), .pointer (some ⟨q, 0, none⟩)] (.panicking [{ v := QpO e, recovered := false }]) w fun u' w' => u' = .panicking [{ v := QpO e, recovered := true }] ∧ St cx w' (blk p 24 [vn] :: blk q 29 [.int .i64 e.1, .int .i64 e.2] :: L) := by
  obtain ⟨D, hD, hi⟩ := Qtq (P := Tryz.prog) (T := 66) (by kernel_rfl)
  unfold Defs
  all_goals refine Q5h ?_
  all_goals (unfold parse_Parse_1_ld; refine r_seq ?_; refine r_sp ?_; refine zn ?_; refine zm ?_; refine zn ?_; refine r_pl ?_; refine Q0 ?_; refine Q1 ?_; refine zm ?_; refine QlS (ms := #[]) (by kernel_rfl) rfl ?_; refine zn ?_)
  all_goals refine zct ?_
  all_goals (refine Q0 ?_; refine Q1 ?_; refine zm ?_; refine s_assert hD hi rfl ?_; refine zm ?_; refine zxt ?_; refine zxt ?_; refine Q9 hS ?_; intro p3 w1 hS; refine zsn hS ?_; intro w1 hS; have hS := hS.ns; refine zm ?_; refine zn ?_; refine Q0 ?_; refine Q0 ?_; refine Q1 ?_; refine zm ?_; refine znt ?_; refine zn ?_)
  all_goals refine zcf ?_
  all_goals (refine zsk ?_; refine zC [(0, none), (1, none), (2, some (some [1])), (3, some none)] ?_; have hS := hS.drew; refine s_cq ?_; refine zb0 [_] ?_; refine zt ?_; refine s_cq ?_; refine zv hS ?_; refine zt ?_; refine Q5D ?_; refine zsn hS ?_; intro w1 hS; have hS := hS.ns; refine zt ?_; refine zy ?_; refine s_cf ?_; refine zsn hS ?_; intro w1 hS; have hS := hS.ns; refine zt ?_; refine zcn ?_; refine q_endR ?_; refine Q3z ?_; exact ⟨⟨_, rfl⟩, rfl, hS.sp⟩)
/-- What a reading of a module gives back. -/
def QiJ (cx : Cx) (L : List Res) (src : List UInt8) (u : Value) (w' : World) : Prop :=
  (∃ m c' vf, Q3G src = .ok m ∧ u = .tuple #[.agg ⟨[vf]⟩, fltV (0, 0)] ∧ cx.Le c' ∧ modR.at c' [vf] m ∧ St c' w' L) ∨ (∃ f, Q3G src = .error f ∧ u = .tuple #[.agg ⟨[vn]⟩, fltV f] ∧ St cx w' L)
theorem pparse_c {src : List UInt8} (hT : NumK cx) (hl : src.length ≤ 100000) (hS : St cx w L) :
    Rets Tryz.prog Q1J [.string ⟨src.toArray⟩] w fun u w' => QiJ cx L src u w' := by
  have hle := St.refl hS
  unfold QiJ
  all_goals refine Q9J ?_
  all_goals (unfold parse_Parse_ld; refine Qq6 ?_; refine d_pl ?_; refine Q1 ?_; refine Q9 hS ?_; intro p2 w1 hS; refine Q9 hS ?_; intro p3 w1 hS; refine zn ?_; refine Qq6 ?_; refine d_pl ?_; refine Q1 ?_; refine zm ?_)
  all_goals (refine zR1 (c := scan_c hT hl hS) (h := ?_); rintro v1 w1 (⟨l, c2, v, hs, hle2, rfl, hv, hS⟩ | ⟨er, n, hs, rfl, hS⟩))
  all_goals (refine zm ?_; refine zxt ?_; refine zxt ?_; refine zm ?_; refine zsn hS ?_; intro w1 hS; have hS := hS.ns; refine zn ?_; refine Qq6 ?_; refine d_pl ?_; refine Q0 ?_)
  all_goals (first | (have hz := QlQ hs; dsimp only at hz) | (obtain ⟨hn1, hn2⟩ := QrG hs; (try have hle := hle.trans hle2); obtain ⟨av, nv, rfl⟩ := Rep.SR.shape hv))
  all_goals (refine Q1 ?_; refine zf0 ?_; refine zl hS ?_)
  all_goals (first | (refine Q1h ?_) | (refine Q1j ?_))
  all_goals (refine zn ?_)
  all_goals
    first
    | (refine zct ?_ -- Q1J c0
       all_goals (refine Q0 ?_; refine zC [(0, none), (1, none), (2, some (some [1])), (3, some none)] ?_; have hS := hS.drew; refine s_cq ?_; refine zb0 [_] ?_; refine zt ?_; refine s_cq ?_; refine zv hS ?_; refine zt ?_; refine Q5D ?_; refine zsn hS ?_; intro w1 hS; have hS := hS.ns; refine zt ?_; refine zy ?_; refine s_cf ?_; refine zsn hS ?_; intro w1 hS; have hS := hS.ns; refine zt ?_; refine zcn ?_; refine zr ?_)
       all_goals (refine QrO ?_; (first | (refine Qbh (by intro h; cases h) (by kernel_rfl) (Qmh hS.sp) ?_; rintro u1 w1 ⟨rfl, hS⟩; refine Q4a ?_) | refine Q4a ?_))
       all_goals (refine Q5G vw (Q5 (n := 1) (by kernel_rfl) (by kernel_rfl) (hS.blkAt fd) (by rfl) (by rfl)) vw (Q5 (n := 2) (by kernel_rfl) (by kernel_rfl) (hS.blkAt fd) (by rfl) (by rfl)) ?_)
       all_goals (exact ⟨_, rfl, .inr ⟨_, Q7d hs, rfl, hS.sp⟩⟩))
    | (refine zcf ?_ -- Q1J c0
       all_goals refine zsk ?_)
  all_goals (refine Qq6 ?_; refine d_sp ?_; refine s_mkfn ?_; refine zn ?_; refine ⟨_, _, rfl, ?_⟩; refine zn ?_; refine d_pl ?_; refine Q0 ?_; refine Q1 ?_; refine zm ?_; refine zm ?_; refine Q1P rfl ?_; refine zb2 [_, _] ?_; refine zb hS ?_; intro p22 w1 hS; refine zm ?_; refine zn ?_; refine Q0 ?_; refine Qa ?_)
  refine zo [2, 3, 5] (fun A ρ' w' => ∃ (k0 : Cx) (l1 : List Tok) (v1 : Value) (k : Nat) (xs : List Fun) (vb : Value) (cb : List (List Value)), Has ρ' A ∧ Has ρ' [] ∧ (c2.Le k0) ∧ (l1.length < k) ∧ (xs.length + l1.length ≤ l.length) ∧ (tokR.sl k0 v1 l1) ∧ (funcR.ls k0 cb xs) ∧ (oneC vb = true) ∧ (Qok src.length l = Q2Y xs (pOpts (pIf (fun l => !l.isEmpty) (pFun src.length)) k l1)) ∧ St k0 w' (prs p22 v1 src.length :: sl 43 4 vb cb :: blk p2 24 [vb] :: blk p3 29 [vi 0, vi 0] :: L)) (fun _ w' => l.length + 1 - slen (QoG w' p2 0)) ?_ ?_
  · exact ⟨c2, l, _, l.length + 1, [], .slice none 0 0, [], zh, zh, St.refl hS, Nat.lt_succ_self _, (by simp only [List.length_nil]; omega), hv, Rep.LR.nil _ _ _, rfl, QrV _ _, by have hS := hS.nil (T := 43) (es := 4); exact hS.sp⟩
  rintro ρ w1 ⟨k0, l1, v1, k, xs, vb, cb, hA, hρ, hle2, hk, hxl, hv1, hlb, hvb, hd, hS⟩; obtain ⟨ρ, rfl⟩ := env2 hA hρ; have hL0 := hle2; (try have hle := hle.trans hle2); have hm0 := Q33 (j := 0) hS (i := 2) rfl rfl; have hsl0 := St.slen hS (i := 1) rfl; have hcl0 := hlb.1
  unfold Q9K
  all_goals (refine Q0 ?_; refine Q0 ?_; refine Q1 ?_; refine zm ?_; refine znc ?_; refine zf0 ?_; refine zl hS ?_; refine zL ?_; refine Qcr rfl rfl ?_; refine zn ?_)
  refine QM rfl (fun hc => ?_) (fun hc => ?_)
  · skip
    all_goals (refine zsk ?_; refine Qa ?_; have hc1 := hc; refine zCK [(0, none), (1, none), (2, none), (3, some (some [1])), (4, some (some [1])), (5, some none), (6, none), (7, some none)] [0, 29, 30, 31, 32, 33, 34, 35] ?_; have hS := hS.drew; refine s_cq ?_; refine zf0 ?_; refine zt ?_; refine s_cq ?_; refine zl hS ?_; refine zt ?_; refine s_cq ?_; refine zm ?_; refine zt ?_; refine Q5D ?_)
    all_goals (refine zE1 (c := prfun_c (by omega) hv1 hS) (p := by rintro u9 w9 ⟨f, v', g1, rfl, hS⟩; refine Qo ?_; refine fun ρ9 hK => ?_; (repeat (first | refine Qo ?_ | refine Qp ?_)); refine q_panD ?_; refine Qbh (by intro h; cases h) (by kernel_rfl) (parse1_p hS.sp) ?_; rintro u' w' ⟨rfl, hS⟩; refine Q4a ?_; refine Q5G ((hK 2 rfl).trans vw) (Q5 (n := 1) (by kernel_rfl) (by kernel_rfl) (hS.blkAt fd) (by rfl) (by rfl)) ((hK 3 rfl).trans vw) (Q5 (n := 2) (by kernel_rfl) (by kernel_rfl) (hS.blkAt fd) (by rfl) (by rfl)) ?_; exact ⟨_, rfl, .inr ⟨_, Qmc hs (Qom hd hk (pif_e (Qon hc1) g1)), rfl, St.weak hS.sp hle⟩⟩) (h := ?_); rintro u1 w2 ⟨x, l8, v8, c8, ds, g1, k8, hle2, hx8, rfl, hv8, hS⟩; (try have hle := hle.trans hle2); (try have hL0 := hL0.trans hle2); (try have hlb := hlb.up hle2); (try have hv1 := hv1.up hle2); have hd9 := hx8; obtain ⟨n1, n2, n3, rfl, -⟩ := Q1L hx8; unfold Q5P; have hd4 := QrU hd hk (pif_o (Qon hc1) g1))
    all_goals (refine zt ?_; refine zy ?_; refine Q5D ?_; refine zB1 hS [_, _, _, _] ?_; intro b1 w1 hS; refine zt ?_; refine zy ?_; refine s_cf ?_; refine za el_T22 u_T22 hS ?_; intro vp1 w1 css1 hls1 hv1 hS; have hS := hS.ns; refine zt ?_; refine s_cq ?_; refine zf0 ?_; refine zt ?_; refine s_cf ?_; refine zst hS ?_; intro w1 hS; have hS := hS.ns; refine zt ?_; refine s_cnil ?_; refine fun _ => ?_; (repeat (first | refine Q2r ?_ | refine QaZ ?_)); exact ⟨⟨_, l8, v8, k - 1, xs ++ [x], _, _, zh, zh, hL0, by omega, (by rw [List.length_append]; simp only [List.length_cons, List.length_nil]; omega), hv8, hls1, by assumption, hd4, hS.sp⟩, by rw [hm0, Q33 (j := 0) hS (i := 3) rfl rfl, St.slen hS (i := 2) rfl, hsl0, hcl0, hls1.1, List.length_append]; simp only [List.length_cons, List.length_nil]; omega⟩)
  · skip
    all_goals (refine zex ?_)
    all_goals (have hfin := Qol hd hk (pif_n (ne_no hc)); obtain ⟨c6, hle2, hS2, hkf⟩ := St.freezeL (r := funcR) (hS.out (r := sl 43 4 vb cb) fd) hlb rfl (by omega); clear hS; have hS := hS2; simp only [List.eraseIdx_cons_zero, List.eraseIdx_cons_succ] at hS; (try have hle := hle.trans hle2); (try have hL0 := hL0.trans hle2); (try have hlb := hlb.up hle2); (try have hv1 := hv1.up hle2); have hx' : modR.at c6 [vb] ⟨xs⟩ := ⟨_, rfl, hkf⟩; have hms := Qh0 (by omega) hfin)
    all_goals (refine Q0 ?_; refine Q0 ?_; refine Q1 ?_; refine zv hS ?_; refine zR1 (c := pcheck_c hms hx' hS) (h := ?_); rintro v1 w1 ⟨rfl, hS⟩; unfold fltV; refine Q9 hS ?_; intro p6 w1 hS; refine zsn hS ?_; intro w1 hS; have hS := hS.ns; refine zn ?_; refine Q0 ?_; refine Q1 ?_; refine zf0 ?_; refine zl hS ?_)
    all_goals (first | (refine Q1h ?_) | (refine Q1j ?_) | (refine Qv rfl rfl (fun hc => ?_) (fun hc => ?_)))
    all_goals (refine zn ?_)
    all_goals
      first
      | (refine zct ?_ -- Q1J c2
         all_goals (refine Q0 ?_; refine zC [(0, none), (1, none), (2, some (some [1])), (3, some none)] ?_; have hS := hS.drew; refine s_cq ?_; refine zb0 [_] ?_; refine zt ?_; refine s_cq ?_; refine zv hS ?_; refine zt ?_; refine Q5D ?_; refine zsn hS ?_; intro w1 hS; have hS := hS.ns; refine zt ?_; refine zy ?_; refine s_cf ?_; refine zsn hS ?_; intro w1 hS; have hS := hS.ns; refine zt ?_; refine zcn ?_; refine zr ?_)
         all_goals (refine QrO ?_; refine Qbh (by intro h; cases h) (by kernel_rfl) (Qmh hS.sp) ?_; rintro u1 w1 ⟨rfl, hS⟩; refine Q4a ?_)
         all_goals (refine Q5G vw (Q5 (n := 1) (by kernel_rfl) (by kernel_rfl) (hS.blkAt fd) (by rfl) (by rfl)) vw (Q5 (n := 2) (by kernel_rfl) (by kernel_rfl) (hS.blkAt fd) (by rfl) (by rfl)) ?_)
         all_goals ((first | exact ⟨_, rfl, .inr ⟨_, Q7d hs, rfl, hS.sp⟩⟩ | exact ⟨_, rfl, .inr ⟨_, Qmb hs hfin (by omega), rfl, St.weak hS.sp hle⟩⟩)))
      | (refine zcf ?_ -- Q1J c2
         all_goals refine zsk ?_)
    all_goals (refine Q0 ?_; refine Q1 ?_; refine zv hS ?_; refine zb0 [_, _] ?_; refine zsn hS ?_; intro w1 hS; have hS := hS.ns; refine zsn hS ?_; intro w1 hS; have hS := hS.ns; refine zn ?_; refine zr ?_)
    all_goals (refine QrO ?_; refine Qbh (by intro h; cases h) (by kernel_rfl) (Qmh hS.sp) ?_; rintro u1 w1 ⟨rfl, hS⟩; refine Q4a ?_)
    all_goals (refine Q5G vw (Q5 (n := 1) (by kernel_rfl) (by kernel_rfl) (hS.blkAt fd) (by rfl) (by rfl)) vw (Q5 (n := 2) (by kernel_rfl) (by kernel_rfl) (hS.blkAt fd) (by rfl) (by rfl)) ?_; (first | exact ⟨_, rfl, .inr ⟨_, Q7d hs, rfl, hS.sp⟩⟩ | exact ⟨_, rfl, .inr ⟨_, Qmb hs hfin (by omega), rfl, St.weak hS.sp hle⟩⟩ | exact ⟨_, rfl, .inl ⟨_, c6, vb, Qu7 hs hfin (by omega), rfl, hle, hx', hS.sp⟩⟩))
end Go.Proofs.YtjecflbbcnocdaaGreatDoor
namespace Go.Proofs.YtjecflbbcnocdaaGreatDoor
open Go.Lir
set_option maxHeartbeats 1000000
attribute [local irreducible] LC.wp Q2 QA QB retQ Q1e LO.wp Qj Calls
set_option linter.unusedSimpArgs false
set_option linter.unusedVariables false
attribute [local irreducible] scan skip Q3h Module.fault Q3G
variable {cx : Cx} {w : World} {L : List Res}
theorem scan_big {src : List UInt8} (h : 40000 < src.length) (h2 : src.length ≤ 9223372036854775807) (hS : St cx w L) :
    Rets Tryz.prog Q3F [.string ⟨src.toArray⟩] w fun u w' => u = .tuple #[.slice none 0 0, .agg ⟨[.int .i64 2, .int .i64 40000]⟩] ∧ St cx w' L := by
  all_goals refine QaR ?_
  all_goals (unfold token_Scan_lc; refine Q0 ?_; refine Q1 ?_; refine zm ?_; refine Q9 hS ?_; intro p3 w1 hS; refine zn ?_; refine Q0 ?_; refine Q0 ?_; refine Q1 ?_; refine zm ?_; refine Q1P rfl ?_)
  all_goals (refine QD ?_)
  all_goals (refine zn ?_)
  all_goals refine zct ?_
  all_goals (refine Q0 ?_; refine Q1 ?_; refine zb2 [_, _] ?_; refine zm ?_; refine zsn hS ?_; intro w1 hS; have hS := hS.ns; refine zn ?_; refine zr ?_; refine Q78 vw vw (Q5 (n := 2) (by kernel_rfl) (by kernel_rfl) (hS.blkAt fd) (by rfl) (by rfl)) ?_; exact ⟨_, rfl, rfl, hS.sp⟩)
theorem Qsu {src : List UInt8} (h : 40000 < src.length) (h2 : src.length ≤ 9223372036854775807) (hS : St cx w L) :
    Rets Tryz.prog Q1J [.string ⟨src.toArray⟩] w fun u w' => QiJ cx L src u w' := by
  unfold QiJ
  all_goals refine Q9J ?_
  all_goals (unfold parse_Parse_ld; refine Qq6 ?_; refine d_pl ?_; refine Q1 ?_; refine Q9 hS ?_; intro p2 w1 hS; refine Q9 hS ?_; intro p3 w1 hS; refine zn ?_; refine Qq6 ?_; refine d_pl ?_; refine Q1 ?_; refine zm ?_; refine zR1 (c := scan_big h h2 hS) (h := ?_); rintro v1 w1 ⟨rfl, hS⟩; refine zm ?_; refine zxt ?_; refine zxt ?_; refine zm ?_; refine zsn hS ?_; intro w1 hS; have hS := hS.ns; refine zn ?_; refine Qq6 ?_; refine d_pl ?_; refine Q0 ?_; refine Q1 ?_; refine zf0 ?_; refine zl hS ?_)
  all_goals (refine Q1h ?_)
  all_goals (refine zn ?_)
  all_goals refine zct ?_
  all_goals (refine Q0 ?_; refine zC [(0, none), (1, none), (2, some (some [1])), (3, some none)] ?_; have hS := hS.drew; refine s_cq ?_; refine zb0 [_] ?_; refine zt ?_; refine s_cq ?_; refine zv hS ?_; refine zt ?_; refine Q5D ?_; refine zsn hS ?_; intro w1 hS; have hS := hS.ns; refine zt ?_; refine zy ?_; refine s_cf ?_; refine zsn hS ?_; intro w1 hS; have hS := hS.ns; refine zt ?_; refine zcn ?_; refine zr ?_; refine QrO ?_; refine Q4a ?_; refine Q5G vw (Q5 (n := 1) (by kernel_rfl) (by kernel_rfl) (hS.blkAt fd) (by rfl) (by rfl)) vw (Q5 (n := 2) (by kernel_rfl) (by kernel_rfl) (hS.blkAt fd) (by rfl) (by rfl)) ?_; exact ⟨_, rfl, .inr ⟨(2, 40000), Q7d (Q3P h), rfl, hS.sp⟩⟩)
theorem Qcv {src : List UInt8} (hT : NumK cx) (hl : src.length ≤ 9223372036854775807) (hS : St cx w L) :
    Rets Tryz.prog Q1J [.string ⟨src.toArray⟩] w fun u w' => QiJ cx L src u w' := by
  by_cases h : 40000 < src.length
  · exact Qsu h hl hS
  · exact pparse_c hT (by omega) hS
end Go.Proofs.YtjecflbbcnocdaaGreatDoor
namespace Go.Lir
set_option linter.unusedVariables false
mutual
/-- Text -/
def Ty.txt : Ty → List UInt8
  | .mk k r l => if k = 2 then [104, 97, 110, 100, 108, 101, 32] ++ Lib.itoa r else if k = 4 then [97, 114, 114, 97, 121, 32] ++ Lib.itoa r else if k = 3 then [116, 117, 112, 108, 101, 32] ++ Lib.itoa r ++ [32, 40] ++ Lib.join (Tys.txts l) [44, 32] ++ [41] else [105, 110, 116]
def Tys.txts : List Ty → List (List UInt8)
  | [] => []
  | x :: l => x.txt :: Tys.txts l
end
mutual
theorem Ty.txt_len : ∀ (t : Ty), t.InR → t.txt.length + 2 ≤ 60 * t.nodes
  | .mk k r l, h => by
    obtain ⟨_, ⟨h1, h2⟩, hl⟩ := h.parts
    have hi := Lib.itoa_length_le r h1 h2
    have hj := Tys.join_len l hl
    rw [Ty.txt, Ty.nodes]
    split
    · simp only [List.length_append, List.length_cons, List.length_nil]; omega
    · split
      · simp only [List.length_append, List.length_cons, List.length_nil]; omega
      · split
        · simp only [List.length_append, List.length_cons, List.length_nil]; omega
        · simp only [List.length_cons, List.length_nil]; omega
theorem Tys.join_len : ∀ (l : List Ty), (∀ x ∈ l, x.InR) → (Lib.join (Tys.txts l) [44, 32]).length ≤ 60 * Tys.nodes l
  | [], _ => by rw [Tys.txts, Lib.join_nil]; simp
  | x :: l, h => by
    have h1 := Ty.txt_len x (h x (List.mem_cons_self ..))
    have h2 := Tys.tail_len l fun y hy => h y (List.mem_cons_of_mem _ hy)
    rw [Tys.txts, Lib.join_cons, List.length_append, Tys.nodes]
    omega
theorem Tys.tail_len : ∀ (l : List Ty), (∀ x ∈ l, x.InR) → (Lib.joinTail [44, 32] (Tys.txts l)).length ≤ 60 * Tys.nodes l
  | [], _ => by rw [Tys.txts]; simp [Lib.joinTail]
  | x :: l, h => by
    have h1 := Ty.txt_len x (h x (List.mem_cons_self ..))
    have h2 := Tys.tail_len l fun y hy => h y (List.mem_cons_of_mem _ hy)
    rw [Tys.txts, Tys.nodes]
    simp only [Lib.joinTail, List.map_cons, List.flatten_cons, List.length_append, List.length_cons, List.length_nil] at h2 ⊢
    omega
end
end Go.Lir
namespace Go.Lir
set_option linter.unusedVariables false
def Q4n (b : List UInt8) (l : List Int) (e : List UInt8) : List UInt8 := b ++ Lib.join (l.map Lib.itoa) [44, 32] ++ e
def Q9G (l : List Ty) : List UInt8 := [40] ++ Lib.join (Tys.txts l) [44, 32] ++ [41]
def To.txt (t : To) : List UInt8 := Lib.itoa t.block ++ [32] ++ Q4n [60] t.regs [62] ++ [32] ++ Q4n [40] t.args [41]
/-- What stands behind an instruction's word. -/
def Ins.rest (x : Ins) : List (List UInt8) :=
  if x.op = 1 then [Lib.itoa x.n]
  else if x.op = 2 then [wordN kindWords x.k, Lib.itoa x.a, Lib.itoa x.b]
  else if x.op = 4 ∨ x.op = 11 ∨ x.op = 13 then [Lib.itoa x.a]
  else if x.op = 5 then [Lib.itoa x.a, Q4n [40] x.args [41]]
  else if x.op = 6 then [Lib.itoa x.a, Lib.itoa x.k]
  else if x.op = 7 then [Lib.itoa x.a, Lib.itoa x.k, Lib.itoa x.b]
  else if x.op = 8 ∨ x.op = 9 then [Lib.itoa x.a, Lib.itoa x.b]
  else if x.op = 10 then [Lib.itoa x.a, Lib.itoa x.b, Lib.itoa x.c]
  else if x.op = 14 then [Lib.itoa x.k, Q4n [60] x.regs [62], Q4n [40] x.args [41]]
  else []
def Ins.txt (x : Ins) : List UInt8 := Lib.join (wordN opWords x.op :: x.rest) [32]
def Tail.txt (t : Tail) : List UInt8 :=
  if t.op = 1 then Qf8 ++ [32] ++ t.yes.txt
  else if t.op = 2 then tIf ++ [32] ++ Lib.itoa t.a ++ [32] ++ tTo ++ [32] ++ t.yes.txt ++ [32] ++ Qjd ++ [32] ++ t.no.txt
  else tRet ++ [32] ++ Q4n [40] t.args [41]
def Qhr : List Ins → List UInt8
  | [] => []
  | x :: l => [9] ++ x.txt ++ [59, 10] ++ Qhr l
def Block.txt (b : Block) : List UInt8 := Q2d ++ [32] ++ Lib.itoa b.regs ++ [32] ++ Q9G b.params ++ [32, 123, 10] ++ Qhr b.code ++ [9] ++ b.fin.txt ++ [59, 10, 125, 10]
def Q7T : List Block → List UInt8
  | [] => []
  | b :: l => b.txt ++ Q7T l
def Fun.txt (f : Fun) : List UInt8 := Qpx ++ [32] ++ Lib.itoa f.regs ++ [32] ++ Q9G f.params ++ [32] ++ QaU ++ [32] ++ Q9G f.results ++ [32, 123, 10] ++ Q7T f.blocks ++ [125, 10]
def QuE : List Fun → List UInt8
  | [] => []
  | f :: l => f.txt ++ QuE l
def Module.txt (m : Module) : List UInt8 := QuE m.funcs
/-! which numbers may be Q79 -/
def smallN (n : Int) : Bool := decide (0 ≤ n ∧ n ≤ 1000000)
def QkZ (l : List Int) : Bool := l.all smallN
def Ins.small (x : Ins) : Bool := QkZ [x.a, x.b, x.c, x.k] && QkZ x.regs && QkZ x.args
def To.small (t : To) : Bool := QkZ t.regs && QkZ t.args
def Tail.small (t : Tail) : Bool := smallN t.a && QkZ t.args && t.yes.small && t.no.small
def Block.small (b : Block) : Bool := b.code.all Ins.small && b.fin.small
def Fun.small (f : Fun) : Bool := f.blocks.all Block.small
def Module.small (m : Module) : Bool := m.funcs.all Fun.small
def Q79 (m : Module) : Except Flt (List UInt8) :=
  if m.fault.1 ≠ 0 then .error m.fault else if m.small = false then .error (8, -1) else if 40000 < m.txt.length then .error (2, -1) else .ok m.txt
end Go.Lir
