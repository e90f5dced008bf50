/- Lemmas of the proof, part 4: what the functions of the program do (contracts), and what follows. -/
import Derived.Test.YteflkifmgnpbhaaZ2
import Derived.Test.YteflkifmgnpbhaaZ3
namespace Go.Proofs.Yteflkifmgnpbhaa
open Go.Lir
set_option maxHeartbeats 1000000
attribute [local irreducible] LC.wp Q2 Qy QD retQ Q1n LO.wp Ql Calls
set_option linter.unusedSimpArgs false
set_option linter.unusedVariables false
theorem size_c : ∀ (t : Ty) {cx : Cx} {w : World} {L : List Res} {cs : List Value} {left : Int}, tyR.at cx cs t → -1 ≤ left → left ≤ 1000000 → St cx w L →
    Rets Try.prog Q7S [.agg ⟨cs⟩, .int .i64 left] w fun v w' => v = .int .i64 (t.size left) ∧ St cx w' L := by
  intro t
  induction t using Ty.ind with
  | h k r l ih =>
    intro cx w L cs left ht h1 h2 hS
    obtain ⟨v, rfl, hl⟩ := Q1v ht
    simp only [Ty.kind, Ty.r, Ty.l] at hl ht ⊢
    have hlen := hl.len
    rw [Ty.size]
    all_goals refine Qio ?_
    all_goals (unfold R_typeSize_lc; refine Q0 ?_; refine Q1 ?_; refine zb hS ?_; intro p2 w1 hS; refine zm ?_; refine zn ?_; refine Q0 ?_; refine Q1 ?_; refine zm ?_; refine zsu ?_; refine zm ?_; refine zn ?_; refine Q0 ?_; refine Q0 ?_; refine Q1 ?_; refine zm ?_; refine zn ?_; refine Qh ?_)
    refine zoL hS [2] (fun A LL ρ' w' => ∃ (j : Nat) (n : Int), Has ρ' A ∧ Has ρ' [(1, .int .i64 n), (5, .int .i64 j)] ∧ (j ≤ l.length) ∧ (n ≤ 1000000) ∧ (-2 ≤ n) ∧ (Tys.size l (left - 1) = Tys.size (l.drop j) n) ∧ St cx w' (LL)) (fun ρ' _ => (l.length - iv (ρ' 5)).toNat) ?_ ?_
    · exact ⟨0, left - 1, zh, zh, (by omega), (by omega), (by omega), by simp, hS.sp⟩
    rintro ρ w1 ⟨j, n, hA, hρ, hj, hn, hn1, hd, hS⟩; obtain ⟨ρ, rfl⟩ := env2 hA hρ
    unfold QaK
    all_goals (refine Q0 ?_; refine Q0 ?_; refine Q1 ?_; refine zm ?_; refine zf0 ?_; refine zl hS ?_; refine zL ?_)
    all_goals (first | (refine Q1G ?_) | (refine Q1N ?_) | (refine QJ rfl rfl (fun hc => ?_) (fun hc => ?_)))
    all_goals (refine zm ?_; (first | refine zgn ?_ | (refine zgy ?_; refine zm ?_)))
    all_goals (first | refine zgn ?_ | (refine zgy ?_; (first | (refine Q7T ?_) | (refine QaN ?_) | (refine Q34 rfl rfl (fun hc => ?_) (fun hc => ?_)))))
    all_goals ((first | (refine zpt ?_) | (refine zpf ?_)); refine zn ?_)
    all_goals
      first
      | (refine zcf ?_ -- Q7S c0
         all_goals (refine zex ?_; refine Q0 ?_; refine Q1 ?_; refine zm ?_; refine zm ?_; refine zn ?_; refine zr ?_; refine zf ?_)
         all_goals (refine ⟨_, rfl, ?_, hS.sp⟩; (rw [hd]; congr 1; first | (rw [Tys.size_neg _ (by omega)]; done) | (rw [List.drop_of_length_le (by omega), Tys.size]; done)); done))
      | (refine zct ?_ -- Q7S c0
         all_goals (refine zsk ?_; refine Q0 ?_; refine Qh ?_; refine Q1 ?_; refine zf0 ?_; refine zl hS ?_; refine zm ?_; refine zi ?_; intro b1 o1 cs1 x1 hat1 hx1 he1; obtain ⟨vl1, rfl, hl1⟩ := Q1v he1; (first | (refine zv hS ?_) | (refine zvk hS ?_)); refine zm ?_; refine zR2 (c := ih _ (List.mem_of_getElem? (by assumption)) (by assumption) (by omega) (by omega) hS) (h := ?_); rintro v1 w1 ⟨rfl, hS⟩; refine zm ?_; refine zn ?_; refine Q1 ?_; refine zm ?_; refine zad ?_; refine zm ?_; refine zn ?_)
         all_goals (exact ⟨⟨j + 1, _, zh, zh, (by omega), by have := Ty.size_rng x1 (left := n) (by omega); omega, by have := Ty.size_rng x1 (left := n) (by omega); omega, by rw [hd, Qj hx1, Tys.size, if_pos (by omega)], hS.sp⟩, Q1j (by omega)⟩))
theorem great_c {t : Ty} {cx : Cx} {w : World} {L : List Res} {cs : List Value} (ht : tyR.at cx cs t) (hS : St cx w L) :
    Rets Try.prog QfN [.agg ⟨cs⟩] w fun v w' => v = .bool t.great ∧ St cx w' L := by
  obtain ⟨v, rfl, hl⟩ := Q1v ht
  all_goals refine QgM ?_
  all_goals (unfold R_GreatType_lc; refine Q0 ?_; refine Q1 ?_; refine zb hS ?_; intro p1 w1 hS; refine zm ?_; refine zn ?_; refine Q0 ?_; refine Q1 ?_; refine zv hS ?_; refine zR2 (c := size_c t ht (by omega) (by omega) hS) (h := ?_); rintro v1 w1 ⟨rfl, hS⟩; refine Q1h rfl rfl ?_; refine zm ?_; refine zn ?_; refine zr ?_; refine zf ?_; refine ⟨_, rfl, ?_, hS.sp⟩; (rfl); done)
theorem QhN {l : List Ty} {cx : Cx} {w : World} {L : List Res} {v : Value} (hl : tyR.sl cx v l) (hS : St cx w L) :
    Rets Try.prog Q2p [v] w fun u w' => u = .bool (Tys.great l) ∧ St cx w' L := by
  have hlen := hl.len
  unfold Tys.great
  all_goals refine QfF ?_
  all_goals (unfold R_greatTypes_lc; refine Q0 ?_; refine Q1 ?_; refine zm ?_; refine zn ?_; refine Q0 ?_; refine Q0 ?_; refine Q1 ?_; refine zm ?_; refine zL ?_)
  all_goals (first | (refine QQ ?_) | (refine Q1c ?_) | (refine Qo rfl rfl (fun hc => ?_) (fun hc => ?_)))
  all_goals (refine zn ?_)
  all_goals
    first
    | (refine zct ?_ -- Q2p c0
       all_goals (refine Q0 ?_; refine Q1 ?_; refine zm ?_; refine zn ?_; refine zr ?_; refine zf ?_)
       all_goals (refine ⟨_, rfl, ?_, hS.sp⟩; rw [decide_eq_true (by omega), Bool.true_or]; done))
    | (refine zcf ?_ -- Q2p c0
       all_goals refine zsk ?_)
  all_goals (refine Q0 ?_; refine Q0 ?_; refine Q1 ?_; refine zm ?_; refine zn ?_; refine Qh ?_)
  refine zoL hS [0] (fun A LL ρ' w' => ∃ (j : Nat), Has ρ' A ∧ Has ρ' [(3, .int .i64 j)] ∧ (j ≤ l.length) ∧ (l.any Ty.great = (l.drop j).any Ty.great) ∧ St cx w' (LL)) (fun ρ' _ => (l.length - iv (ρ' 3)).toNat) ?_ ?_
  · exact ⟨0, zh, zh, (by omega), by simp, hS.sp⟩
  rintro ρ w1 ⟨j, hA, hρ, hj, hd, hS⟩; obtain ⟨ρ, rfl⟩ := env2 hA hρ
  unfold Q7J
  all_goals (refine Q0 ?_; refine Q0 ?_; refine Q1 ?_; refine zm ?_; refine zm ?_; refine zL ?_; refine Q1h rfl rfl ?_; refine zn ?_)
  refine Q1g rfl (fun hc => ?_) (fun hc => ?_)
  · skip
    all_goals (refine zsk ?_; refine Q0 ?_; refine Qh ?_; refine Q0 ?_; refine Q1 ?_; refine zm ?_; refine zm ?_; refine zi ?_; intro b1 o1 cs1 x1 hat1 hx1 he1; obtain ⟨vl1, rfl, hl1⟩ := Q1v he1; (first | (refine zv hS ?_) | (refine zvk hS ?_)))
    all_goals (refine zR1 (c := great_c (by assumption) hS) (h := ?_); rintro v1 w1 ⟨rfl, hS⟩; cases hg : x1.great)
    all_goals (refine zn ?_)
    all_goals
      first
      | (refine zct ?_ -- Q2p c2
         all_goals (refine Q0 ?_; refine Q1 ?_; refine zm ?_; refine zn ?_; refine zr ?_; refine zf ?_)
         all_goals (first | (refine ⟨_, rfl, ?_, hS.sp⟩; rw [decide_eq_true (by omega), Bool.true_or]; done) | (refine ⟨_, rfl, ?_, hS.sp⟩; rw [decide_eq_false (by omega), hd, Bool.false_or, Qj hx1, List.any_cons, hg, Bool.true_or]; done)))
      | (refine zcf ?_ -- Q2p c2
         all_goals refine zsk ?_)
    all_goals (refine Q1 ?_; refine zm ?_; refine zad ?_; refine zm ?_; refine zn ?_; exact ⟨⟨j + 1, zh, zh, (by omega), by rw [hd, Qj hx1, List.any_cons, hg, Bool.false_or], hS.sp⟩, Q1j (by omega)⟩)
  · skip
    all_goals (refine zex ?_; refine Q0 ?_; refine Q1 ?_; refine zm ?_; refine zn ?_; refine zr ?_; refine zf ?_; (first | (refine ⟨_, rfl, ?_, hS.sp⟩; rw [decide_eq_true (by omega), Bool.true_or]; done) | (refine ⟨_, rfl, ?_, hS.sp⟩; rw [decide_eq_false (by omega), hd, Bool.false_or, Qj hx1, List.any_cons, hg, Bool.true_or]; done) | (refine ⟨_, rfl, ?_, hS.sp⟩; rw [decide_eq_false (by omega), hd, Bool.false_or, List.drop_of_length_le (by omega)]; rfl; done)))
theorem deep_c : ∀ (t : Ty) {cx : Cx} {w : World} {L : List Res} {cs : List Value} {left : Int}, tyR.at cx cs t → left ≤ 1000000 → St cx w L →
    Rets Try.prog Q3k [.agg ⟨cs⟩, .int .i64 left] w fun v w' => v = .bool (t.deepB left) ∧ St cx w' L := by
  intro t
  induction t using Ty.ind with
  | h k r l ih =>
    intro cx w L cs left ht h1 hS
    obtain ⟨v, rfl, hl⟩ := Q1v ht
    simp only [Ty.kind, Ty.r, Ty.l] at hl ht ⊢
    have hlen := hl.len
    rw [Ty.deepB]
    all_goals refine Qhh ?_
    all_goals (unfold types_deep_lc; refine Q0 ?_; refine Q1 ?_; refine zb hS ?_; intro p2 w1 hS; refine zm ?_; refine zn ?_; refine Q0 ?_; refine Q0 ?_; refine Q1 ?_; refine zm ?_)
    all_goals (first | (refine Q1G ?_) | (refine Q1N ?_) | (refine QJ rfl rfl (fun hc => ?_) (fun hc => ?_)))
    all_goals (refine zn ?_)
    all_goals
      first
      | (refine zct ?_ -- Q3k c0
         all_goals (refine Q0 ?_; refine Q1 ?_; refine zm ?_; refine zn ?_; refine zr ?_; refine zf ?_)
         all_goals (refine ⟨_, rfl, ?_, hS.sp⟩; rw [if_pos (by omega)]; done))
      | (refine zcf ?_ -- Q3k c0
         all_goals refine zsk ?_)
    all_goals (refine Q0 ?_; refine Q0 ?_; refine Q1 ?_; refine zf0 ?_; refine zl hS ?_; refine zL ?_; refine zm ?_; refine zn ?_; refine Qh ?_)
    refine zoL hS [1, 10, 11] (fun A LL ρ' w' => ∃ (j : Nat), Has ρ' A ∧ Has ρ' [(12, .int .i64 j)] ∧ (j ≤ l.length) ∧ (Tys.deepB l (left - 1) = Tys.deepB (l.drop j) (left - 1)) ∧ St cx w' (LL)) (fun ρ' _ => (l.length - iv (ρ' 12)).toNat) ?_ ?_
    · exact ⟨0, zh, zh, (by omega), by simp, hS.sp⟩
    rintro ρ w1 ⟨j, hA, hρ, hj, hd, hS⟩; obtain ⟨ρ, rfl⟩ := env2 hA hρ
    unfold Q9M
    all_goals (refine Q0 ?_; refine Q1 ?_; refine Q1h rfl rfl ?_; refine zn ?_; refine Q0 ?_)
    refine Q1g rfl (fun hc => ?_) (fun hc => ?_)
    · skip
      all_goals (refine zsk ?_; refine Q0 ?_; refine Qh ?_; refine Q0 ?_; refine Q1 ?_; refine zi ?_; intro b1 o1 cs1 x1 hat1 hx1 he1; obtain ⟨vl1, rfl, hl1⟩ := Q1v he1; (first | (refine zv hS ?_) | (refine zvk hS ?_)); refine Q8 hS ?_; intro p6 w1 hS; refine zsn hS ?_; intro w1 hS; have hS := hS.ns; refine zn ?_; refine Q0 ?_; refine Q1 ?_; refine zv hS ?_; refine zm ?_; refine zsu ?_)
      all_goals (refine zR2 (c := ih _ (List.mem_of_getElem? (by assumption)) (by assumption) (by omega) hS) (h := ?_); rintro v1 w1 ⟨rfl, hS⟩; cases hg : x1.deepB (left - 1))
      all_goals (refine znt ?_; refine zn ?_)
      all_goals
        first
        | (refine zcf ?_ -- Q3k c2
           all_goals refine zsk ?_)
        | (refine zct ?_ -- Q3k c2
           all_goals (refine Q0 ?_; refine Q1 ?_; refine zm ?_; refine zn ?_; refine zr ?_; refine zf ?_)
           all_goals (first | (refine ⟨_, rfl, ?_, hS.sp⟩; rw [if_pos (by omega)]; done) | (refine ⟨_, rfl, ?_, hS.sp⟩; rw [if_neg (by omega), hd, Qj hx1, Tys.deepB, hg, Bool.false_and]; done)))
      all_goals (refine Q1 ?_; refine zad ?_; refine zm ?_; refine zn ?_; exact ⟨⟨j + 1, zh, zh, (by omega), by rw [hd, Qj hx1, Tys.deepB, hg, Bool.true_and], hS.sp⟩, Q1j (by omega)⟩)
    · skip
      all_goals (refine zex ?_; refine Q0 ?_; refine Q1 ?_; refine zm ?_; refine zn ?_; refine zr ?_; refine zf ?_; (first | (refine ⟨_, rfl, ?_, hS.sp⟩; rw [if_pos (by omega)]; done) | (refine ⟨_, rfl, ?_, hS.sp⟩; rw [if_neg (by omega), hd, Qj hx1, Tys.deepB, hg, Bool.false_and]; done) | (refine ⟨_, rfl, ?_, hS.sp⟩; rw [if_neg (by omega), hd, List.drop_of_length_le (by omega), Tys.deepB]; done)))
theorem wrong_c : ∀ (t : Ty) {cx : Cx} {w : World} {L : List Res} {cs : List Value} {regs : Int}, tyR.at cx cs t → St cx w L →
    Rets Try.prog Qq [.agg ⟨cs⟩, .int .i64 regs] w fun v w' => v = .int .i64 (t.wrong 8 regs) ∧ St cx w' L := by
  intro t
  induction t using Ty.ind with
  | h k r l ih =>
    intro cx w L cs regs ht hS
    obtain ⟨v, rfl, hl⟩ := Q1v ht
    simp only [Ty.kind, Ty.r, Ty.l] at hl ht ⊢
    have hlen := hl.len
    rw [Ty.wrong]
    all_goals refine Qg0 ?_
    all_goals (unfold types_wrong_lc; refine Q0 ?_; refine Q1 ?_; refine zb hS ?_; intro p2 w1 hS; refine zm ?_; refine zn ?_)
    refine zML hS [1, 2] (fun A LL ρ' w' => Has ρ' A ∧ Has ρ' [] ∧ (1 ≤ k ∧ k ≤ 4 ∧ k ≠ 1 ∧ (k ≠ 3 → l.length = 0) ∧ l.length ≤ 8) ∧ St cx w' (LL)) ?_ ?_
    · skip
      all_goals (refine Q0 ?_; refine Q1 ?_; refine zf0 ?_; refine zl hS ?_; refine zn ?_; refine Qh ?_; refine Q0 ?_; refine Q1 ?_)
      all_goals (first | (refine Qx ?_) | (refine QE ?_) | (refine Qb rfl rfl (fun hc => ?_) (fun hc => ?_)))
      all_goals (refine zm ?_; refine zn ?_)
      all_goals
        first
        | (refine zct ?_ -- Qq c0
           all_goals (refine Q0 ?_; refine Q0 ?_; refine Q1 ?_; refine zf0 ?_; refine zl hS ?_)
           all_goals (first | (refine Q1o ?_) | (refine Q1B ?_) | (refine Q1b rfl rfl (fun hc => ?_) (fun hc => ?_)))
           all_goals (refine zm ?_; (first | refine zgn ?_ | (refine zgy ?_; refine zf0 ?_)); (first | refine zgn ?_ | (refine zgy ?_; refine zl hS ?_)); (first | refine zgn ?_ | (refine zgy ?_; refine zL ?_)))
           all_goals (first | refine zgn ?_ | (refine zgy ?_; (first | (refine QQ ?_) | (refine Q1c ?_) | (refine Qo rfl rfl (fun hc => ?_) (fun hc => ?_)))))
           all_goals ((first | (refine zpt ?_) | (refine zpf ?_)); refine zn ?_)
           all_goals
             first
             | (refine zct ?_ -- Qq c1
                all_goals (refine Q0 ?_; refine Q1 ?_; refine zm ?_; refine zn ?_; refine zr ?_; refine zf ?_)
                all_goals (refine ⟨_, rfl, ?_, hS.sp⟩; (repeat (first | rw [if_pos (by omega)] | rw [if_neg (by omega)])); done))
             | (refine zcf ?_ -- Qq c1
                all_goals refine zsk ?_)
           all_goals (refine Q0 ?_; refine Q1 ?_; refine zm ?_; refine zn ?_; refine zr ?_; refine zf ?_)
           all_goals (first | (refine ⟨_, rfl, ?_, hS.sp⟩; (repeat (first | rw [if_pos (by omega)] | rw [if_neg (by omega)])); done) | (refine ⟨_, rfl, ?_, hS.sp⟩; ((repeat (first | rw [if_pos (by omega)] | rw [if_neg (by omega)])); rw [hd, Qj hx1, Tys.wrong, if_pos (by assumption)]); done) | (refine ⟨_, rfl, ?_, hS.sp⟩; ((repeat (first | rw [if_pos (by omega)] | rw [if_neg (by omega)])); rw [List.eq_nil_of_length_eq_zero (l := l) (by omega), Tys.wrong]); done)))
        | (refine zcf ?_ -- Qq c0
           all_goals (refine Q0 ?_; refine Q0 ?_; refine Q1 ?_)
           all_goals (first | (refine Qx ?_) | (refine QE ?_) | (refine Qb rfl rfl (fun hc => ?_) (fun hc => ?_)))
           all_goals (refine zm ?_; refine zn ?_)
           all_goals
             first
             | (refine zct ?_ -- Qq c2
                all_goals refine zsk ?_)
             | (refine zcf ?_ -- Qq c2
                all_goals (refine Q1 ?_)
                all_goals (first | (refine Qx ?_) | (refine QE ?_) | (refine Qb rfl rfl (fun hc => ?_) (fun hc => ?_)))
                all_goals (refine zm ?_)
                all_goals refine zn ?_)
           all_goals
             first
             | (refine zct ?_ -- Qq c3
                all_goals (refine Q0 ?_; refine Q1 ?_; refine zf0 ?_; refine zl hS ?_; refine zL ?_)
                all_goals (first | (refine QQ ?_) | (refine Q1c ?_) | (refine Qo rfl rfl (fun hc => ?_) (fun hc => ?_)))
                all_goals (refine zn ?_)
                all_goals
                  first
                  | (refine zct ?_ -- Qq c4
                     all_goals (refine Q0 ?_; refine Q1 ?_; refine zm ?_; refine zn ?_; refine zr ?_; refine zf ?_)
                     all_goals (refine ⟨_, rfl, ?_, hS.sp⟩; (repeat (first | rw [if_pos (by omega)] | rw [if_neg (by omega)])); done))
                  | (refine zcf ?_ -- Qq c4
                     all_goals refine zsk ?_))
             | (refine zcf ?_ -- Qq c3
                all_goals (refine Q0 ?_; refine Q1 ?_)
                all_goals (first | (refine Qx ?_) | (refine QE ?_) | (refine Qb rfl rfl (fun hc => ?_) (fun hc => ?_)))
                all_goals (refine zm ?_; refine zn ?_)
                all_goals
                  first
                  | (refine zct ?_ -- Qq c5
                     all_goals (refine Q0 ?_; refine Q1 ?_; refine zf0 ?_; refine zl hS ?_; refine zL ?_)
                     all_goals (first | (refine QQ ?_) | (refine Q1c ?_) | (refine Qo rfl rfl (fun hc => ?_) (fun hc => ?_)))
                     all_goals (refine zn ?_)
                     all_goals
                       first
                       | (refine zct ?_ -- Qq c6
                          all_goals (refine Q0 ?_; refine Q1 ?_; refine zm ?_; refine zn ?_; refine zr ?_; refine zf ?_)
                          all_goals (refine ⟨_, rfl, ?_, hS.sp⟩; (repeat (first | rw [if_pos (by omega)] | rw [if_neg (by omega)])); done))
                       | (refine zcf ?_ -- Qq c6
                          all_goals refine zsk ?_))
                  | (refine zcf ?_ -- Qq c5
                     all_goals (refine Q0 ?_; refine Q1 ?_; refine zm ?_; refine zn ?_; refine zr ?_; refine zf ?_)
                     all_goals (refine ⟨_, rfl, ?_, hS.sp⟩; (repeat (first | rw [if_pos (by omega)] | rw [if_neg (by omega)])); done))))
      all_goals (exact ⟨zh, zh, by omega, hS.sp⟩)
    rintro ρ w1 ⟨hA, hρ, hk, hS⟩; obtain ⟨ρ, rfl⟩ := env2 hA hρ
    all_goals (refine Q0 ?_; refine Q0 ?_; refine Q1 ?_; refine zf0 ?_; refine zl hS ?_)
    all_goals (first | (refine Q1G ?_) | (refine Q1N ?_) | (refine QJ rfl rfl (fun hc => ?_) (fun hc => ?_)))
    all_goals (refine zm ?_; (first | refine zgn ?_ | (refine zgy ?_; refine zf0 ?_)); (first | refine zgn ?_ | (refine zgy ?_; refine zl hS ?_)); (first | refine zgn ?_ | (refine zgy ?_; refine zm ?_)))
    all_goals (first | refine zgn ?_ | (refine zgy ?_; (first | (refine Q7T ?_) | (refine QaN ?_) | (refine Q34 rfl rfl (fun hc => ?_) (fun hc => ?_)))))
    all_goals ((first | (refine zpt ?_) | (refine zpf ?_)); refine zn ?_)
    all_goals
      first
      | (refine zct ?_ -- Qq c7
         all_goals (refine Q0 ?_; refine Q1 ?_; refine zm ?_; refine zn ?_; refine zr ?_; refine zf ?_)
         all_goals (refine ⟨_, rfl, ?_, hS.sp⟩; (repeat (first | rw [if_pos (by omega)] | rw [if_neg (by omega)])); done))
      | (refine zcf ?_ -- Qq c7
         all_goals refine zsk ?_)
    all_goals (refine Q0 ?_; refine Q0 ?_; refine Q1 ?_; refine zf0 ?_; refine zl hS ?_; refine zL ?_; refine zm ?_; refine zn ?_; refine Qh ?_)
    refine zoL hS [1, 44, 45] (fun A LL ρ' w' => ∃ (j : Nat), Has ρ' A ∧ Has ρ' [(46, .int .i64 j)] ∧ (j ≤ l.length) ∧ (Tys.wrong 8 l regs = Tys.wrong 8 (l.drop j) regs) ∧ St cx w' (LL)) (fun ρ' _ => (l.length - iv (ρ' 46)).toNat) ?_ ?_
    · exact ⟨0, zh, zh, (by omega), by simp, hS.sp⟩
    rintro ρ w1 ⟨j, hA, hρ, hj, hd, hS⟩; obtain ⟨ρ, rfl⟩ := env2 hA hρ
    unfold Q5u
    all_goals (refine Q0 ?_; refine Q1 ?_; refine Q1h rfl rfl ?_; refine zn ?_; refine Q0 ?_)
    refine Q1g rfl (fun hc => ?_) (fun hc => ?_)
    · skip
      all_goals (refine zsk ?_; refine Q0 ?_; refine Qh ?_; refine Q0 ?_; refine Q1 ?_; refine zi ?_; intro b1 o1 cs1 x1 hat1 hx1 he1; obtain ⟨vl1, rfl, hl1⟩ := Q1v he1; (first | (refine zv hS ?_) | (refine zvk hS ?_)); refine Q8 hS ?_; intro p6 w1 hS; refine zsn hS ?_; intro w1 hS; have hS := hS.ns; refine zn ?_; refine Q0 ?_; refine Q1 ?_; refine zv hS ?_; refine zm ?_; refine zR2 (c := ih _ (List.mem_of_getElem? (by assumption)) (by assumption) hS) (h := ?_); rintro v1 w1 ⟨rfl, hS⟩; refine zm ?_; refine zn ?_; refine Q0 ?_; refine Q1 ?_; refine zm ?_)
      all_goals (first | (refine Q1o ?_) | (refine Q1B ?_) | (refine Q1b rfl rfl (fun hc => ?_) (fun hc => ?_)))
      all_goals (refine zn ?_)
      all_goals
        first
        | (refine zct ?_ -- Qq c9
           all_goals (refine Q0 ?_; refine Q1 ?_; refine zm ?_; refine zm ?_; refine zn ?_; refine zr ?_; refine zf ?_)
           all_goals (first | (refine ⟨_, rfl, ?_, hS.sp⟩; (repeat (first | rw [if_pos (by omega)] | rw [if_neg (by omega)])); done) | (refine ⟨_, rfl, ?_, hS.sp⟩; ((repeat (first | rw [if_pos (by omega)] | rw [if_neg (by omega)])); rw [hd, Qj hx1, Tys.wrong, if_pos (by assumption)]); done)))
        | (refine zcf ?_ -- Qq c9
           all_goals refine zsk ?_)
      all_goals (refine Q1 ?_; refine zad ?_; refine zm ?_; refine zn ?_; exact ⟨⟨j + 1, zh, zh, (by omega), by rw [hd, Qj hx1, Tys.wrong, if_neg (by omega)], hS.sp⟩, Q1j (by omega)⟩)
    · skip
      all_goals (refine zex ?_; refine Q0 ?_; refine Q1 ?_; refine zm ?_; refine zn ?_; refine zr ?_; refine zf ?_; (first | (refine ⟨_, rfl, ?_, hS.sp⟩; (repeat (first | rw [if_pos (by omega)] | rw [if_neg (by omega)])); done) | (refine ⟨_, rfl, ?_, hS.sp⟩; ((repeat (first | rw [if_pos (by omega)] | rw [if_neg (by omega)])); rw [hd, Qj hx1, Tys.wrong, if_pos (by assumption)]); done) | (refine ⟨_, rfl, ?_, hS.sp⟩; ((repeat (first | rw [if_pos (by omega)] | rw [if_neg (by omega)])); rw [List.eq_nil_of_length_eq_zero (l := l) (by omega), Tys.wrong]); done) | (refine ⟨_, rfl, ?_, hS.sp⟩; ((repeat (first | rw [if_pos (by omega)] | rw [if_neg (by omega)])); rw [hd, List.drop_of_length_le (by omega), Tys.wrong]); done)))
theorem tcheck_c {t : Ty} {cx : Cx} {w : World} {L : List Res} {cs : List Value} {regs : Int} (ht : tyR.at cx cs t) (hS : St cx w L) :
    Rets Try.prog Q4y [.agg ⟨cs⟩, .int .i64 regs] w fun v w' => v = .int .i64 (t.fault regs) ∧ St cx w' L := by
  obtain ⟨v, rfl, hl⟩ := Q1v ht
  unfold Ty.fault
  all_goals refine Qg7 ?_
  all_goals (unfold types_Check_lc; refine Q0 ?_; refine Q1 ?_; refine zb hS ?_; intro p2 w1 hS; refine zm ?_; refine zn ?_; refine Q0 ?_; refine Q0 ?_; refine Q1 ?_; refine zv hS ?_)
  all_goals (refine zR2 (c := deep_c t ht (by omega) hS) (h := ?_); rintro v1 w1 ⟨rfl, hS⟩; cases hg : t.deepB 4)
  all_goals (refine znt ?_; refine zn ?_)
  all_goals
    first
    | (refine zct ?_ -- Q4y c0
       all_goals (refine Q0 ?_; refine Q1 ?_; refine zm ?_; refine zn ?_; refine zr ?_; refine zf ?_)
       all_goals (refine ⟨_, rfl, ?_, hS.sp⟩; (rfl); done))
    | (refine zcf ?_ -- Q4y c0
       all_goals refine zsk ?_)
  all_goals (refine Q0 ?_; refine Q1 ?_; refine zv hS ?_; refine zm ?_; refine zR2 (c := wrong_c t ht hS) (h := ?_); rintro v1 w1 ⟨rfl, hS⟩; refine zm ?_; refine zn ?_; refine zr ?_; refine zf ?_; refine ⟨_, rfl, ?_, hS.sp⟩; (rfl); done)
end Go.Proofs.Yteflkifmgnpbhaa
namespace Go.Proofs.Yteflkifmgnpbhaa
open Go.Lir
set_option maxHeartbeats 1000000
attribute [local irreducible] LC.wp Q2 Qy QD retQ Q1n LO.wp Ql Calls
set_option linter.unusedSimpArgs false
set_option linter.unusedVariables false
theorem Qlk {l : List Ty} (hlen : l.length ≤ 100000) (ih : ∀ x ∈ l, ∀ {cx : Cx} {w : World} {L : List Res} {cs : List Value}, tyR.at cx cs x → St cx w L → Rets Try.prog Q7D [.agg ⟨cs⟩] w fun u w' => ∃ c' ds, u = .agg ⟨ds⟩ ∧ cx.Le c' ∧ tyR.at c' ds x ∧ St c' w' L)
    {cx : Cx} {w : World} {L : List Res} {v : Value} (hl : tyR.sl cx v l) (hS : St cx w L) : Rets Try.prog Q4X [v] w fun u w' => ∃ c', cx.Le c' ∧ tyR.sl c' u l ∧ St c' w' L := by
  all_goals refine Qdn ?_
  all_goals (unfold code_ownTypes_lc; refine Q0 ?_; refine Q1 ?_; refine zm ?_; refine zn ?_; refine Q0 ?_; refine Q1 ?_; refine zm ?_; refine zn ?_; refine Q0 ?_; refine Q0 ?_; refine Q1 ?_; refine zm ?_; refine zL ?_; refine zm ?_; refine zn ?_; refine Qh ?_)
  refine zoL hS [6, 7] (fun A LL ρ' w' => ∃ (c1 : Cx) (j : Nat) (u : Value) (css : List (List Value)), Has ρ' A ∧ Has ρ' [(3, u), (8, .int .i64 j)] ∧ (cx.Le c1) ∧ (j ≤ l.length) ∧ (tyR.ls c1 css (l.take j)) ∧ (oneC u = true) ∧ St c1 w' (sl 62 3 u css :: LL)) (fun ρ' _ => (l.length - iv (ρ' 8)).toNat) ?_ ?_
  · exact ⟨cx, 0, .slice none 0 0, [], zh, zh, St.refl hS, (by omega), Rep.LR.nil _ _ _, rfl, by have hS := hS.nil (T := 62) (es := 3); exact hS⟩
  rintro ρ w1 ⟨c1, j, u, css, hA, hρ, hle, hj, hls, hu, hS⟩; obtain ⟨ρ, rfl⟩ := env2 hA hρ; have hl := Rep.SR.up hl hle
  unfold Q51
  all_goals (refine Q0 ?_; refine Q1 ?_; refine Q1h rfl rfl ?_; refine zn ?_; refine Q0 ?_)
  refine Q1g rfl (fun hc => ?_) (fun hc => ?_)
  · skip
    all_goals (refine zsk ?_; refine Q0 ?_; refine Qh ?_; refine Q0 ?_; refine Q1 ?_; refine zi ?_; intro b1 o1 cs1 x1 hat1 hx1 he1; obtain ⟨vl1, rfl, hl1⟩ := Q1v he1; (first | (refine zv hS ?_) | (refine zvk hS ?_)); refine Q8 hS ?_; intro p5 w1 hS; refine zsn hS ?_; intro w1 hS; have hS := hS.ns; refine zn ?_; refine Q1 ?_; refine zm ?_; refine zv hS ?_; refine zR1 (c := ih _ (List.mem_of_getElem? hx1) he1 hS) (h := ?_); rintro v1 w1 ⟨c2, ds, rfl, hle2, hd, hS⟩; obtain ⟨v2, rfl, hv2⟩ := Q1v hd; have hls := Rep.LR.up hls hle2; refine zB1 hS [_, _, _] ?_; intro b1 w1 hS; refine za el_T44 u_T44 hS ?_; intro vp1 w1 css1 hls1 hv1 hS; have hS := hS.ns; refine zm ?_; refine zn ?_; refine Q1 ?_; refine zad ?_; refine zm ?_; refine zn ?_; exact ⟨⟨c2, j + 1, _, _, zh, zh, hle.trans hle2, (by omega), by rw [Q9N hx1]; assumption, by assumption, hS.sp⟩, Q1j (by omega)⟩)
  · skip
    all_goals (refine zex ?_; refine Q0 ?_; refine Q1 ?_; refine zm ?_; refine zm ?_; refine zn ?_; refine zr ?_; refine zf ?_; obtain ⟨c3, hle3, hS, hl3⟩ := St.freezeL (r := tyR) (l := l) (T := 62) (es := 3) (v := u) (css := css) (L := L) hS.sp (by rw [List.take_of_length_le (by omega)] at hls; exact hls) rfl (by omega); exact ⟨_, rfl, c3, hle.trans hle3, hl3, hS⟩)
theorem pown_c : ∀ (t : Ty), t.Short → ∀ {cx : Cx} {w : World} {L : List Res} {cs : List Value}, tyR.at cx cs t → St cx w L →
    Rets Try.prog Q7D [.agg ⟨cs⟩] w fun u w' => ∃ c' ds, u = .agg ⟨ds⟩ ∧ cx.Le c' ∧ tyR.at c' ds t ∧ St c' w' L := by
  intro t
  induction t using Ty.ind with
  | h k r l ih =>
    intro hs cx w L cs ht hS
    obtain ⟨v, rfl, hl⟩ := Q1v ht
    simp only [Ty.kind, Ty.r, Ty.l] at hl ht ⊢
    obtain ⟨hlen, hsub⟩ := hs.parts
    all_goals refine Qf9 ?_
    all_goals (unfold code_ownType_lc; refine Q0 ?_; refine Q1 ?_; refine zb hS ?_; intro p1 w1 hS; refine Q8 hS ?_; intro p2 w1 hS; refine zn ?_; refine Q0 ?_; refine Q1 ?_; refine zf0 ?_; refine zl hS ?_; refine zf0 ?_; refine zl hS ?_; refine zb2 [_, _, _] ?_; refine Q8 hS ?_; intro p3 w1 hS; refine zsn hS ?_; intro w1 hS; have hS := hS.ns; refine zn ?_; refine Q0 ?_; refine Q1 ?_; refine zf0 ?_; refine zl hS ?_; refine zR1 (c := Qlk hlen (fun x hx => ih x hx (hsub x hx)) hl hS) (h := ?_); rintro v1 w1 ⟨c1, hle, hl1, hS⟩; obtain ⟨a1, n1, rfl⟩ := Rep.SR.shape hl1; refine zf0 ?_; refine zst hS ?_; intro w1 hS; have hS := hS.ns; refine zn ?_; refine Q0 ?_; refine Q1 ?_; refine zv hS ?_; refine zsn hS ?_; intro w1 hS; have hS := hS.ns; refine zn ?_; refine zr ?_; refine Q2W vw (Qg (n := 3) (by kernel_rfl) (by kernel_rfl) (hS.blkAt fd) (by rfl) (by rfl)) ?_)
    all_goals (exact ⟨_, rfl, c1, _, rfl, hle, tyR_mk hl1, hS.sp⟩)
theorem Q5D {l : List Ty} (hlen : l.length ≤ 100000) (hs : ∀ x ∈ l, x.Short) {cx : Cx} {w : World} {L : List Res} {v : Value} (hl : tyR.sl cx v l) (hS : St cx w L) : Rets Try.prog Q4X [v] w fun u w' => ∃ c', cx.Le c' ∧ tyR.sl c' u l ∧ St c' w' L :=
  Qlk hlen (fun x hx => pown_c x (hs x hx)) hl hS
end Go.Proofs.Yteflkifmgnpbhaa
namespace Go.Proofs.Yteflkifmgnpbhaa
open Go.Lir
set_option maxHeartbeats 1000000
attribute [local irreducible] LC.wp Q2 Qy QD retQ Q1n LO.wp Ql Calls
set_option linter.unusedSimpArgs false
set_option linter.unusedVariables false
/-- slices.EqualFunc, by a function that tells whether two are the same. -/
theorem eqfT_c {l : List Ty} {f : FuncId} (hf : Q99 Try.prog f = true) {m : List Ty} {cx : Cx} {w : World} {L : List Res} {v v2 : Value}
    (hcall : ∀ x ∈ l, ∀ y ∈ m, ∀ {w : World} {L : List Res} {cs ds : List Value}, tyR.at cx cs x → tyR.at cx ds y → St cx w L → Rets Try.prog f [.agg ⟨cs⟩, .agg ⟨ds⟩] w fun u w' => u = .bool (decide (x = y)) ∧ St cx w' L)
    (hl : tyR.sl cx v l) (hm : tyR.sl cx v2 m) (hS : St cx w L) : Rets Try.prog Q9 [v, v2, .func (.func f) #[] #[]] w fun u w' => u = .bool (decide (l = m)) ∧ St cx w' L := by
  have hlen := hl.len
  all_goals refine Q1a ?_
  all_goals (unfold slices_EqualFunc_api_Type_api_Type_api_Type_api_Type_lc; refine Q0 ?_; refine Q1 ?_; refine zm ?_; refine zn ?_; refine Q0 ?_; refine Q0 ?_; refine Q1 ?_; refine zm ?_; refine zL ?_; refine zm ?_; refine zL ?_)
  all_goals (first | (refine Q1o ?_) | (refine Q1B ?_) | (refine Q1b rfl rfl (fun hc => ?_) (fun hc => ?_)))
  all_goals (refine zn ?_)
  all_goals
    first
    | (refine zct ?_ -- Q9 c0
       all_goals (refine Q0 ?_; refine Q1 ?_; refine zm ?_; refine zn ?_; refine zr ?_; refine zf ?_)
       all_goals (refine ⟨_, rfl, ?_, hS.sp⟩; rw [decide_eq_false]; exact fun e => absurd (congrArg List.length e) (by omega); done))
    | (refine zcf ?_ -- Q9 c0
       all_goals refine zsk ?_)
  all_goals (refine Q0 ?_; refine Q0 ?_; refine Q1 ?_; refine zm ?_; refine zL ?_; refine zm ?_; refine zn ?_; refine Qh ?_)
  refine zoL hS [1, 2, 15, 16] (fun A LL ρ' w' => ∃ (j : Nat), Has ρ' A ∧ Has ρ' [(17, .int .i64 j)] ∧ (j ≤ l.length) ∧ (l.length = m.length) ∧ (l = m ↔ l.drop j = m.drop j) ∧ St cx w' (LL)) (fun ρ' _ => (l.length - iv (ρ' 17)).toNat) ?_ ?_
  · exact ⟨0, zh, zh, (by omega), (by omega), by simp, hS.sp⟩
  rintro ρ w1 ⟨j, hA, hρ, hj, hlm, hd, hS⟩; obtain ⟨ρ, rfl⟩ := env2 hA hρ
  unfold Qv
  all_goals (refine Q0 ?_; refine Q1 ?_; refine Q1h rfl rfl ?_; refine zn ?_; refine Q0 ?_)
  refine Q1g rfl (fun hc => ?_) (fun hc => ?_)
  · skip
    all_goals (refine zsk ?_; refine Q0 ?_; refine Qh ?_; refine Q0 ?_; refine Q1 ?_; refine zm ?_; refine zi ?_; intro b1 o1 cs1 x1 hat1 hx1 he1; obtain ⟨vl1, rfl, hl1⟩ := Q1v he1; (first | (refine zv hS ?_) | (refine zvk hS ?_)); refine Q8 hS ?_; intro p8 w1 hS; refine zm ?_; refine zsn hS ?_; intro w1 hS; have hS := hS.ns; refine zn ?_; refine Q0 ?_; refine Q1 ?_; refine zm ?_; refine zm ?_; refine zi ?_; intro b2 o2 cs2 x2 hat2 hx2 he2; obtain ⟨vl2, rfl, hl2⟩ := Q1v he2; (first | (refine zv hS ?_) | (refine zvk hS ?_)); refine Q8 hS ?_; intro p9 w1 hS; refine zsn hS ?_; intro w1 hS; have hS := hS.ns; refine zn ?_; refine Q0 ?_; refine Q1 ?_; refine zm ?_; refine zv hS ?_; refine zv hS ?_)
    all_goals (refine Qmq rfl hf (by rfl) (hcall _ (List.mem_of_getElem? hx1) _ (List.mem_of_getElem? hx2) he1 he2 hS) ?_; rintro v1 w1 ⟨rfl, hS⟩; (cases hdec : decide (x1 = x2)); have hg := of_decide_eq_false hdec; rotate_left; have hg := of_decide_eq_true hdec; all_goals skip)
    all_goals (refine znt ?_; refine zn ?_)
    all_goals
      first
      | (refine zct ?_ -- Q9 c2
         all_goals (refine Q0 ?_; refine Q1 ?_; refine zm ?_; refine zn ?_; refine zr ?_; refine zf ?_)
         all_goals (first | (refine ⟨_, rfl, ?_, hS.sp⟩; rw [decide_eq_false]; exact fun e => absurd (congrArg List.length e) (by omega); done) | (refine ⟨_, rfl, ?_, hS.sp⟩; rw [decide_eq_false]; rw [hd, Qj hx1, Qj hx2]; simp [hg]; done)))
      | (refine zcf ?_ -- Q9 c2
         all_goals refine zsk ?_)
    all_goals (refine Q1 ?_; refine zad ?_; refine zm ?_; refine zn ?_; exact ⟨⟨j + 1, zh, zh, (by omega), (by omega), by rw [hd, Qj hx1, Qj hx2, hg]; simp, hS.sp⟩, Q1j (by omega)⟩)
  · skip
    all_goals (refine zex ?_; refine Q0 ?_; refine Q1 ?_; refine zm ?_; refine zn ?_; refine zr ?_; refine zf ?_; (first | (refine ⟨_, rfl, ?_, hS.sp⟩; rw [decide_eq_false]; exact fun e => absurd (congrArg List.length e) (by omega); done) | (refine ⟨_, rfl, ?_, hS.sp⟩; rw [decide_eq_false]; rw [hd, Qj hx1, Qj hx2]; simp [hg]; done) | (refine ⟨_, rfl, ?_, hS.sp⟩; rw [decide_eq_true]; rw [hd, List.drop_of_length_le (by omega), List.drop_of_length_le (by omega)]; done)))
theorem psame_c : ∀ (t u : Ty) {cx : Cx} {w : World} {L : List Res} {cs ds : List Value}, tyR.at cx cs t → tyR.at cx ds u → St cx w L →
    Rets Try.prog QgO [.agg ⟨cs⟩, .agg ⟨ds⟩] w fun v w' => v = .bool (decide (t = u)) ∧ St cx w' L := by
  intro t
  induction t using Ty.ind with
  | h k r l ih =>
    rintro ⟨k2, r2, m⟩ cx w L cs ds ht hu hS
    obtain ⟨v, rfl, hl⟩ := Q1v ht
    obtain ⟨v2, rfl, hm⟩ := Q1v hu
    simp only [Ty.kind, Ty.r, Ty.l, Ty.mk.injEq] at hl hm ht hu ⊢
    all_goals refine Qhk ?_
    all_goals (unfold types_Same_lc; refine Q0 ?_; refine Q1 ?_; refine zb hS ?_; intro p2 w1 hS; refine zb hS ?_; intro p3 w1 hS; refine zm ?_; refine zn ?_; refine Q0 ?_; refine Q1 ?_; refine zf0 ?_; refine zl hS ?_; refine zf0 ?_; refine zl hS ?_)
    all_goals (first | (refine Qx ?_) | (refine QE ?_) | (refine Qb rfl rfl (fun hc => ?_) (fun hc => ?_)))
    all_goals (refine zm ?_; (first | refine zgn ?_ | (refine zgy ?_; refine zf0 ?_)); (first | refine zgn ?_ | (refine zgy ?_; refine zl hS ?_)); (first | refine zgn ?_ | (refine zgy ?_; refine zf0 ?_)); (first | refine zgn ?_ | (refine zgy ?_; refine zl hS ?_)))
    all_goals (first | refine zgn ?_ | (refine zgy ?_; (first | (refine Qx ?_) | (refine QE ?_) | (refine Qb rfl rfl (fun hc => ?_) (fun hc => ?_)))))
    all_goals ((first | (refine zpt ?_) | (refine zpf ?_)); refine zm ?_; (first | refine zgn ?_ | (refine zgy ?_; refine zf0 ?_)); (first | refine zgn ?_ | (refine zgy ?_; refine zl hS ?_)); (first | refine zgn ?_ | (refine zgy ?_; refine zf0 ?_)); (first | refine zgn ?_ | (refine zgy ?_; refine zl hS ?_)); (first | refine zgn ?_ | (refine zgy ?_; refine zR3 (c := eqfT_c (by kernel_rfl) (fun x hx y _ {_ _ _ _} h1 h2 h3 => ih x hx y h1 h2 h3) hl hm hS) (h := ?_); rintro v1 w1 ⟨rfl, hS⟩)); (first | (refine zpt ?_) | (refine zpf ?_)); refine zm ?_; refine zn ?_; refine zr ?_; refine zf ?_; refine ⟨_, rfl, ?_, hS.sp⟩; (simp [*]); done)
end Go.Proofs.Yteflkifmgnpbhaa
namespace Go.Proofs.Yteflkifmgnpbhaa
open Go.Lir
set_option maxHeartbeats 1000000
attribute [local irreducible] LC.wp Q2 Qy QD retQ Q1n LO.wp Ql Calls
set_option linter.unusedSimpArgs false
set_option linter.unusedVariables false
theorem Q9T {l : List Int} (hb : l.length ≤ 1000000) {cx : Cx} {w : World} {L : List Res} {v : Value} (hl : intR.sl cx v l) (hS : St cx w L) : Rets Try.prog Q28 [v] w fun u w' => ∃ c', cx.Le c' ∧ intR.sl c' u l ∧ St c' w' L := by
  obtain ⟨a, c, hv⟩ := Rep.SR.shape hl
  cases a with
  | none =>
    have hl0 := Rep.SR.nil_of hl hv
    subst hl0
    subst hv
    all_goals refine Q2r ?_
    all_goals (unfold slices_Clone_int_int_lc; refine Q0 ?_; refine Q1 ?_; refine zm ?_; refine zn ?_; refine Q0 ?_; refine Q0 ?_; refine Q1 ?_; refine zm ?_; refine QaT (e := 3) (by kernel_rfl) rfl rfl ?_; refine zn ?_)
    all_goals
      first
      | (refine zct ?_ -- Q28 c0
         all_goals (refine Q0 ?_; refine Q1 ?_; refine zm ?_; refine zn ?_; refine zr ?_; refine zf ?_)
         all_goals (exact ⟨_, rfl, cx, St.refl hS, Rep.SR.nil _ _ _, hS⟩))
    all_goals (refine Q0 ?_; refine Q1 ?_; fail "no law for buildSlice"; refine zm ?_; refine za Qcv Qk0 hS ?_; intro vp1 w1 css1 hls1 hv1 hS; have hS := hS.ns; refine zm ?_; refine zn ?_; refine zr ?_; refine zf ?_; exact ⟨_, rfl, cx, St.refl hS, Rep.SR.nil _ _ _, hS⟩)
  | some a =>
    have hn : intR.ls cx [] [] := Rep.LR.nil _ _ _
    all_goals refine Q2r ?_
    all_goals (unfold slices_Clone_int_int_lc; refine Q0 ?_; refine Q1 ?_; refine zm ?_; refine zn ?_; refine Q0 ?_; refine Q0 ?_; refine Q1 ?_; refine zm ?_; refine QaT (e := 3) (by kernel_rfl) hv rfl ?_; refine zn ?_)
    all_goals refine zcf ?_
    all_goals (refine zsk ?_; refine Q0 ?_; refine Q1 ?_; refine Qk4 Qcv ?_; intro v1 w1 hf1 hs1 hz1; have hS := hS.new (r := sl 3 1 v1 []) hs1 hf1 (fun b hb => Nat.le_of_eq hb.symm); refine zm ?_; (first | (refine za Qcv Qk0 hS ?_; intro vp1 w1 css1 hls1 hv1 hS; have hS := hS.ns) | (refine zak Qcv Qk0 hS ?_; intro vp1 w1 css1 hls1 hv1 hS; have hS := hS.ns)); refine zm ?_; refine zn ?_; refine zr ?_; refine zf ?_; obtain ⟨c3, hle3, hS, hl3⟩ := St.freezeL (r := intR) (l := l) (T := 3) (es := 1) (L := L) hS.sp hls1 rfl (by omega); exact ⟨_, rfl, c3, hle3, hl3, hS⟩)
theorem Qlj {x : To} (hb1 : x.regs.length ≤ 1000000) (hb2 : x.args.length ≤ 1000000) {cx : Cx} {w : World} {L : List Res} {cs : List Value} (hx : toR.at cx cs x) (hS : St cx w L) : Rets Try.prog QgZ [.agg ⟨cs⟩] w fun u w' => ∃ c' ds, u = .agg ⟨ds⟩ ∧ cx.Le c' ∧ toR.at c' ds x ∧ St c' w' L := by
  obtain ⟨v1, v2, rfl, h1, h2⟩ := Qer hx
  all_goals refine QhU ?_
  all_goals (unfold code_ownTo_lc; refine Q0 ?_; refine Q1 ?_; refine zb hS ?_; intro p1 w1 hS; refine Q8 hS ?_; intro p2 w1 hS; refine zn ?_; refine Q0 ?_; refine zC [(0, none), (1, none), (2, none), (3, none), (5, none), (6, none), (4, some (some [1, 6])), (7, some (some [1])), (8, none), (9, some none)] ?_; have hS := hS.drew; refine s_cq ?_; refine zf0 ?_; refine zt ?_; refine s_cq ?_; refine zl hS ?_; refine zt ?_; refine s_cq ?_; refine zf0 ?_; refine zt ?_; refine s_cq ?_; refine zl hS ?_; refine zt ?_; refine s_cq ?_; refine zf0 ?_; refine zt ?_; refine s_cq ?_; refine zl hS ?_; refine zt ?_; refine Qi ?_; refine zR1 (c := Q9T hb1 h1 hS) (h := ?_); rintro v1 w1 ⟨c1, hle, hl1, hS⟩; obtain ⟨a1, n1, rfl⟩ := Rep.SR.shape hl1; have h2 := Rep.SR.up h2 hle; refine zt ?_; refine zy ?_; refine Qi ?_; refine zR1 (c := Q9T hb2 h2 hS) (h := ?_); rintro v1 w1 ⟨c2, hle2, hl2, hS⟩; obtain ⟨a2, n2, rfl⟩ := Rep.SR.shape hl2; have hl1 := Rep.SR.up hl1 hle2; refine zt ?_; refine zy ?_; refine s_cq ?_; refine zb3 [_, _, _] ?_; refine zt ?_; refine s_cf ?_; refine zsn hS ?_; intro w1 hS; have hS := hS.ns; refine zt ?_; refine zcn ?_)
  all_goals (refine zr ?_; refine Q2W vw (Qg (n := 3) (by kernel_rfl) (by kernel_rfl) (hS.blkAt fd) (by rfl) (by rfl)) ?_; exact ⟨_, rfl, c2, _, rfl, hle.trans hle2, ⟨_, _, rfl, hl1, hl2⟩, hS.sp⟩)
end Go.Proofs.Yteflkifmgnpbhaa
namespace Go.Proofs.Yteflkifmgnpbhaa
open Go.Lir
set_option maxHeartbeats 1000000
attribute [local irreducible] LC.wp Q2 Qy QD retQ Q1n LO.wp Ql Calls
set_option linter.unusedSimpArgs false
set_option linter.unusedVariables false
end Go.Proofs.Yteflkifmgnpbhaa
namespace Go.Proofs.Yteflkifmgnpbhaa
open Go.Lir
set_option maxHeartbeats 1000000
attribute [local irreducible] LC.wp Q2 Qy QD retQ Q1n LO.wp Ql Calls
set_option linter.unusedSimpArgs false
set_option linter.unusedVariables false
variable {cx : Cx} {w : World} {L : List Res} {i : Nat}
abbrev jdg (b : Nat) (vf : Value) (g : Flt) (at' : Int) : Res := blk b 82 [vf, .int .i64 g.1, .int .i64 g.2, .int .i64 at']
theorem Q1Y {is : Bool} {c : Int} {vf : Value} {g : Flt} {at' : Int} {b : Nat} (hc0 : is = true → c ≠ 0) (hS : St cx w L) (hi : nth L i = some (jdg b vf g at')) :
    Rets Try.prog Q2I [.pointer (some ⟨b, 0, none⟩), .bool is, .int .i64 c] w fun u w' => u = .tuple #[] ∧ St cx w' (L.set i (jdg b vf (orF g (mkF (if is = true then c else 0) at')) at')) := by
  have hS := hS.out hi
  cases is with
  | false =>
    have e : orF g (mkF (if false = true then c else 0) at') = g := QlM rfl
    rw [e]
    all_goals refine Q2H ?_
    all_goals (unfold code_judge_fail_lc; refine Q0 ?_; refine Q1 ?_; refine zm ?_; refine zm ?_; refine zgn ?_; refine zgn ?_; refine zgn ?_; refine zgn ?_; refine zgn ?_)
    all_goals (refine zgn ?_)
    all_goals ((first | (refine zpt ?_) | (refine zpf ?_)); refine zn ?_)
    all_goals
      first
      | (refine zct ?_ -- Q2I c0
         all_goals (refine Q1 ?_; refine zm ?_; refine zm ?_; refine zm ?_; refine znc ?_; refine zf0 ?_; refine zl hS ?_; refine zb2 [_, _] ?_; refine znc ?_; refine zf0 ?_; refine zsn hS ?_; intro w1 hS; have hS := hS.ns)
         all_goals refine zn ?_)
      | (refine zcf ?_ -- Q2I c0
         all_goals refine zsk ?_)
    all_goals (refine QG ?_; exact ⟨_, rfl, rfl, St.back hS hi⟩)
  | true =>
    have hc0 := hc0 rfl
    by_cases h0 : g.1 = 0
    · have e : orF g (mkF (if true = true then c else 0) at') = (c, at') := by rw [if_pos rfl, mkF_c hc0]; unfold orF; rw [if_pos ⟨h0, hc0⟩]
      rw [e]
      all_goals refine Q2H ?_
      all_goals (unfold code_judge_fail_lc; refine Q0 ?_; refine Q1 ?_; refine zm ?_; refine zm ?_; (first | refine zgn ?_ | (refine zgy ?_; refine zm ?_)); (first | refine zgn ?_ | (refine zgy ?_; refine znc ?_)); (first | refine zgn ?_ | (refine zgy ?_; refine zf0 ?_)); (first | refine zgn ?_ | (refine zgy ?_; (first | refine zf0 ?_ | refine zfd ?_))); (first | refine zgn ?_ | (refine zgy ?_; refine zl hS ?_)))
      all_goals (first | refine zgn ?_ | (refine zgy ?_; refine Qx ?_))
      all_goals (refine zpt ?_; refine zn ?_)
      all_goals refine zct ?_
      all_goals (refine Q1 ?_; refine zm ?_; refine zm ?_; refine zm ?_; refine znc ?_; refine zf0 ?_; refine zl hS ?_; refine zb2 [_, _] ?_; refine znc ?_; refine zf0 ?_; (first | (refine zsn hS ?_; intro w1 hS; have hS := hS.ns) | (refine zsm hS ?_; intro w1 hS; have hS := hS.ns)); refine zn ?_; refine QG ?_; exact ⟨_, rfl, rfl, St.back hS hi⟩)
    · rw [orF_l h0]
      all_goals refine Q2H ?_
      all_goals (unfold code_judge_fail_lc; refine Q0 ?_; refine Q1 ?_; refine zm ?_; refine zm ?_; (first | refine zgn ?_ | (refine zgy ?_; refine zm ?_)); (first | refine zgn ?_ | (refine zgy ?_; refine znc ?_)); (first | refine zgn ?_ | (refine zgy ?_; refine zf0 ?_)); (first | refine zgn ?_ | (refine zgy ?_; (first | refine zf0 ?_ | refine zfd ?_))); (first | refine zgn ?_ | (refine zgy ?_; refine zl hS ?_)))
      all_goals (first | refine zgn ?_ | (refine zgy ?_; (first | (refine Qx ?_) | (refine QE ?_))))
      all_goals (refine zpt ?_; refine zn ?_)
      all_goals refine zcf ?_
      all_goals (refine zsk ?_; refine QG ?_; exact ⟨_, rfl, rfl, St.back hS hi⟩)
theorem uindex_c {s : List UInt8} {c : Nat} {v : Value} (hK : u8R.sl cx v s) (hS : St cx w L) : Rets Try.prog Q1k [v, .int .u8 c] w fun u w' => ∃ r : Int, u = .int .i64 r ∧ (0 ≤ r ↔ (s.any fun b => decide (b.toNat = c)) = true) ∧ St cx w' L := by
  have hlen := hK.len
  all_goals refine Q46 ?_
  all_goals (unfold slices_Index_byte_byte_lc; refine Q0 ?_; refine Q1 ?_; refine zm ?_; refine zn ?_; refine Q0 ?_; refine Q0 ?_; refine Q1 ?_; refine zm ?_; refine zL ?_; refine zm ?_; refine zn ?_; refine Qh ?_)
  refine zoL hS [0, 1, 7] (fun A LL ρ' w' => ∃ (j : Nat), Has ρ' A ∧ Has ρ' [(8, .int .i64 j)] ∧ (j ≤ s.length) ∧ ((s.any fun b => decide (b.toNat = c)) = ((s.drop j).any fun b => decide (b.toNat = c))) ∧ St cx w' (LL)) (fun ρ' _ => (s.length - iv (ρ' 8)).toNat) ?_ ?_
  · exact ⟨0, zh, zh, (by omega), by simp, hS.sp⟩
  rintro ρ w1 ⟨j, hA, hρ, hj, hd, hS⟩; obtain ⟨ρ, rfl⟩ := env2 hA hρ
  unfold Q2a
  all_goals (refine Q0 ?_; refine Q1 ?_; refine Q1h rfl rfl ?_; refine zn ?_; refine Q0 ?_)
  refine Q1g rfl (fun hc => ?_) (fun hc => ?_)
  · skip
    all_goals (refine zsk ?_; refine Q0 ?_; refine Qh ?_; refine Q0 ?_; refine Q1 ?_; refine zm ?_; refine zm ?_; refine zn ?_; refine Q0 ?_; refine Q1 ?_; refine zm ?_; refine zm ?_; refine zm ?_; refine zi ?_; intro b1 o1 cs1 x1 hat1 hx1 he1; (first | (obtain rfl := Q4I he1) | (obtain rfl := u8R_out he1)); (first | (refine zl hS ?_) | (refine zlk hS ?_)))
    all_goals (first | (refine Qx ?_) | (refine QE ?_) | (refine Qb rfl rfl (fun hc => ?_) (fun hc => ?_)))
    all_goals (refine zn ?_)
    all_goals
      first
      | (refine zct ?_ -- Q1k c1
         all_goals (refine Q0 ?_; refine Q1 ?_; refine zm ?_; refine zm ?_; refine zn ?_; refine zr ?_; refine zf ?_)
         all_goals (exact ⟨_, rfl, j, rfl, by rw [hd, Qj hx1, List.any_cons, decide_eq_true (by omega), Bool.true_or]; simp, hS.sp⟩))
      | (refine zcf ?_ -- Q1k c1
         all_goals refine zsk ?_)
    all_goals (refine Q1 ?_; refine zad ?_; refine zm ?_; refine zn ?_; exact ⟨⟨j + 1, zh, zh, (by omega), by rw [hd, Qj hx1, List.any_cons, decide_eq_false (by omega), Bool.false_or], hS.sp⟩, Q1j (by omega)⟩)
  · skip
    all_goals (refine zex ?_; refine Q0 ?_; refine Q1 ?_; refine zm ?_; refine zn ?_; refine zr ?_; refine zf ?_; (first | (exact ⟨_, rfl, j, rfl, by rw [hd, Qj hx1, List.any_cons, decide_eq_true (by omega), Bool.true_or]; simp, hS.sp⟩) | (exact ⟨_, rfl, -1, rfl, by rw [hd, List.drop_of_length_le (by omega)]; simp, hS.sp⟩)))
theorem QjY {s : List UInt8} {c : Nat} {v : Value} (hK : u8R.sl cx v s) (hS : St cx w L) : Rets Try.prog Q2b [v, .int .u8 c] w fun u w' => u = .bool (s.any fun b => decide (b.toNat = c)) ∧ St cx w' L := by
  all_goals refine Q3g ?_
  all_goals (unfold slices_Contains_byte_byte_lc; refine Q0 ?_; refine Q1 ?_; refine zm ?_; refine zn ?_; refine Q0 ?_; refine Q1 ?_; refine zm ?_; refine zm ?_; refine zR2 (c := uindex_c hK hS) (h := ?_); rintro v1 w1 ⟨r, rfl, hr, hS⟩)
  all_goals (first | (refine Q7T ?_) | (refine QaN ?_) | (refine Q34 rfl rfl (fun hc => ?_) (fun hc => ?_)))
  all_goals (refine zm ?_; refine zn ?_; refine zr ?_; refine zf ?_)
  all_goals (refine ⟨_, rfl, ?_, hS.sp⟩; (cases hb : (s.any fun b => decide (b.toNat = c)) <;> simp_all); done)
theorem Qe9 {s : ByteArray} {c : Nat} (hs : s.size ≤ 1000000) (hS : St cx w L) : Rets Try.prog Qjh [.string s, .int .u8 c] w fun u w' => u = .bool (Q1d s c) ∧ St cx w' L := by
  have hle := St.refl hS
  all_goals refine Qjg ?_
  all_goals (unfold code_with_lc; refine Q0 ?_; refine Q1 ?_; refine zm ?_; refine zn ?_; refine Q0 ?_; refine Q1 ?_; refine zm ?_; refine s_bytes (e := 5) (by kernel_rfl) (by kernel_rfl) (by kernel_rfl) hS vw ?_; intro v1 w1 hS; obtain ⟨c1, hle2, hS, hk1⟩ := St.freezeL (r := u8R) hS (u8R_ls _) rfl (by rw [Array.length_toList]; show s.size ≤ 140737488355328; omega); refine zm ?_; refine zR2 (c := QjY hk1 hS) (h := ?_); rintro v1 w1 ⟨rfl, hS⟩; refine zm ?_; refine zn ?_; refine zr ?_; refine zf ?_; exact ⟨_, rfl, rfl, St.weak hS.sp hle2⟩)
theorem has_c {op : Int} (hS : St cx w L) : Rets Try.prog Qlw [.int .i64 op] w fun u w' => u = .string (hasF op) ∧ St cx w' L := by
  by_cases hb : op < 1 ∨ 14 < op
  · have e : hasF op = ⟨#[]⟩ := by unfold hasF; rw [if_pos hb]
    rw [e]
    all_goals refine Qfa ?_
    all_goals (unfold code_has_lc; refine Q0 ?_; refine Q1 ?_; refine zm ?_; refine zn ?_; refine Q0 ?_; refine Q0 ?_; refine Q1 ?_; refine zm ?_)
    all_goals (first | (refine Q1G ?_) | (refine Q1N ?_) | (refine QJ rfl rfl (fun hc => ?_) (fun hc => ?_)))
    all_goals (refine zm ?_; (first | refine zgn ?_ | (refine zgy ?_; refine zm ?_)))
    all_goals (first | refine zgn ?_ | (refine zgy ?_; refine QQ ?_))
    all_goals ((first | (refine zpt ?_) | (refine zpf ?_)); refine zn ?_)
    all_goals refine zct ?_
    all_goals (refine Q0 ?_; refine Q1 ?_; refine zm ?_; refine zn ?_; refine zr ?_; refine zf ?_; refine ⟨_, rfl, ?_, hS.sp⟩; (rfl); done)
  · have hu : (hasTab.map Value.string)[op.toNat]? = some (.string (hasF op)) := by
      rcases op_cases (op := op) (by omega) (by omega) with rfl | rfl | rfl | rfl | rfl | rfl | rfl | rfl | rfl | rfl | rfl | rfl | rfl | rfl <;> rfl
    generalize hasF op = s at hu ⊢
    all_goals refine Qfa ?_
    all_goals (unfold code_has_lc; refine Q0 ?_; refine Q1 ?_; refine zm ?_; refine zn ?_; refine Q0 ?_; refine Q0 ?_; refine Q1 ?_; refine zm ?_)
    all_goals (first | (refine Q1G ?_) | (refine Q1N ?_))
    all_goals (refine zm ?_; (first | refine zgn ?_ | (refine zgy ?_; refine zm ?_)))
    all_goals (first | refine zgn ?_ | (refine zgy ?_; (first | (refine QQ ?_) | (refine Q1c ?_))))
    all_goals ((first | (refine zpt ?_) | (refine zpf ?_)); refine zn ?_)
    all_goals refine zcf ?_
    all_goals (refine zsk ?_; refine Q0 ?_; refine Q1 ?_; refine QmA (cs := [_, _, _, _, _, _, _, _, _, _, _, _, _, _, _]) vw vw vw vw vw vw vw vw vw vw vw vw vw vw vw (by rfl) ?_; refine zm ?_; refine s_idxv (n := 15) (e := 9) (by kernel_rfl) (by kernel_rfl) (by kernel_rfl) vw vw (by omega) (by omega) hu ?_; refine zm ?_; refine zn ?_; refine zr ?_; refine zf ?_; refine ⟨_, rfl, ?_, hS.sp⟩; (rfl); done)
theorem Qn2 (op : Int) : (hasF op).size ≤ 1000000 := by
  by_cases hb : op < 1 ∨ 14 < op
  · unfold hasF; rw [if_pos hb]; decide
  · rcases op_cases (op := op) (by omega) (by omega) with rfl | rfl | rfl | rfl | rfl | rfl | rfl | rfl | rfl | rfl | rfl | rfl | rfl | rfl <;> decide
theorem ins_end {g : Flt} {at' : Int} {n : Nat} {x : Ins} {q : Bool} {c3 : Int} (hq : q = true ↔ (((((((Q1d (hasF x.op) 97 = false ∧ x.a ≠ 0) ∨ (Q1d (hasF x.op) 98 = false ∧ x.b ≠ 0)) ∨ (Q1d (hasF x.op) 99 = false ∧ x.c ≠ 0)) ∨ (Q1d (hasF x.op) 107 = false ∧ x.k ≠ 0)) ∨ (Q1d (hasF x.op) 110 = false ∧ x.n ≠ 0)) ∨ (Q1d (hasF x.op) 103 = false ∧ 0 < x.regs.length)) ∨ (Q1d (hasF x.op) 114 = false ∧ 0 < x.args.length))) (h3 : c3 = Q2i n x) :
    orF (orF (orF g (mkF (if x.op < 1 ∨ 14 < x.op then 3 else 0) at')) (mkF (if q = true then 4 else 0) at')) (mkF c3 at') = orF g (mkF (Q1L n x) at') := by
  rw [Q2A, Q2A]
  congr 2
  subst h3
  unfold Q1L
  by_cases hb : x.op < 1 ∨ 14 < x.op
  · rw [if_pos hb, if_pos hb]; rfl
  · rw [if_neg hb, if_neg hb]
    obtain ⟨h1, h2, h3, h4, h5, h6, h7⟩ := with_all x.op hb
    rw [h1, h2, h3, h4, h5, h6, h7] at hq
    simp only [or_assoc] at hq
    by_cases ho : x.odd
    · rw [if_pos ho, if_pos (hq.2 ho)]; rfl
    · rw [if_neg ho, if_neg fun h => ho (hq.1 h)]; rfl
theorem QaX {a b : Int} (h : a ≠ 0) : orC a b = a := if_pos h
theorem Q9g (b : Int) : orC 0 b = b := rfl
section
attribute [local irreducible] orF mkF orC Q2i Q1L Q1y Q2P
set_option maxHeartbeats 1000000 in
theorem ins_c {x : Ins} {n : List Fun} {vf : Value} {g : Flt} {at' : Int} {b : Nat} {cs : List Value} (hx : insR.at cx cs x) (hf : funcR.sl cx vf n) (hS : St cx w L) (hi : nth L i = some (jdg b vf g at')) :
    Rets Try.prog QA [.pointer (some ⟨b, 0, none⟩), .agg ⟨cs⟩] w fun u w' => u = .tuple #[] ∧ St cx w' (L.set i (jdg b vf (orF g (mkF (Q1L n.length x) at')) at')) := by
  have hS := hS.out hi
  obtain ⟨vr, va, rfl, hr, ha⟩ := Q2T hx
  have hlr := hr.len
  have hla := ha.len
  have hln := hf.len
  have hsz := Qn2 x.op
  all_goals refine QbN ?_
  all_goals (unfold code_judge_ins_lc; refine Q0 ?_; refine Q1 ?_; refine zb hS ?_; intro p3 w1 hS; refine zn ?_)
  refine zM [0, 3] (fun A ρ' w' => Has ρ' A ∧ Has ρ' [] ∧ St cx w' (blk p3 42 [.int .i64 x.op, .int .i64 x.a, .int .i64 x.b, .int .i64 x.c, .int .i64 x.k, .int .i64 x.n, vr, va] :: jdg b vf (orF g (mkF (if x.op < 1 ∨ 14 < x.op then 3 else 0) at')) at' :: L.eraseIdx i)) ?_ ?_
  · skip
    all_goals (refine Q1 ?_; refine zm ?_; refine zf0 ?_; refine zl hS ?_)
    all_goals (first | (refine Q1G ?_) | (refine Q1N ?_) | (refine QJ rfl rfl (fun hc => ?_) (fun hc => ?_)))
    all_goals (refine zm ?_; (first | refine zgn ?_ | (refine zgy ?_; refine zf0 ?_)); (first | refine zgn ?_ | (refine zgy ?_; refine zl hS ?_)))
    all_goals (first | refine zgn ?_ | (refine zgy ?_; (first | (refine QQ ?_) | (refine Q1c ?_) | (refine Qo rfl rfl (fun hc => ?_) (fun hc => ?_)))))
    all_goals ((first | (refine zpt ?_) | (refine zpf ?_)); refine zR3 (c := Q1Y (by intro _; decide) hS fd) (h := ?_); rintro v1 w1 ⟨rfl, hS⟩; simp only [List.set_cons_zero, List.set_cons_succ, if_true, Bool.false_eq_true, if_false] at hS; refine zn ?_; exact ⟨zh, zh, by first | (rw [if_pos (by omega)]; exact hS.sp) | (rw [if_neg (by omega)]; exact hS.sp)⟩)
  rintro ρ w1 ⟨hA, hρ, hS⟩; obtain ⟨ρ, rfl⟩ := env2 hA hρ
  all_goals (refine Q0 ?_; refine Q1 ?_; refine zf0 ?_; refine zl hS ?_; refine zR1 (c := has_c hS) (h := ?_); rintro v1 w1 ⟨rfl, hS⟩; refine zm ?_; refine zn ?_; generalize hh : hasF x.op = h at *; refine Q0 ?_; refine Q1 ?_)
  refine zKL hS 9 [0, 3, 4] (fun A LL ρ' w' => ∃ (q1 : Bool), Has ρ' A ∧ Has ρ' [(18, .pointer (some ⟨b, 0, none⟩)), (26, .bool q1)] ∧ (q1 = true ↔ (Q1d h 97 = false ∧ x.a ≠ 0)) ∧ St cx w' (LL)) ?_ ?_
  · skip
    all_goals (refine zm ?_; refine zm ?_; refine zR2 (c := Qe9 hsz hS) (h := ?_); rintro v1 w1 ⟨rfl, hS⟩)
    all_goals (cases ha1 : Q1d h 97)
    all_goals (refine znt ?_; refine zm ?_; (first | refine zgn ?_ | (refine zgy ?_; refine zf0 ?_)); (first | refine zgn ?_ | (refine zgy ?_; refine zl hS ?_)))
    all_goals (first | refine zgn ?_ | (refine zgy ?_; (first | (refine Q1o ?_) | (refine Q1B ?_) | (refine Q1b rfl rfl (fun hc => ?_) (fun hc => ?_)))))
    all_goals ((first | (refine zpt ?_) | (refine zpf ?_)); refine Q1l ?_; refine Qt ?_)
    all_goals (first | (exact ⟨_, zh, zh, by exact ⟨fun _ => ⟨(by first | rfl | assumption), by omega⟩, fun _ => rfl⟩, hS.sp⟩) | (exact ⟨_, zh, zh, by exact ⟨fun h => Bool.noConfusion h, fun h => by obtain ⟨h1, h2⟩ := h; first | (exfalso; omega) | (simp_all; done)⟩, hS.sp⟩))
  rintro ρ w1 ⟨q1, hA, hρ, hq1, hS⟩; obtain ⟨ρ, rfl⟩ := env2 hA hρ
  refine zKL hS 10 [0, 3, 4, 18] (fun A LL ρ' w' => ∃ (q2 : Bool), Has ρ' A ∧ Has ρ' [(36, .bool q2)] ∧ (q2 = true ↔ ((Q1d h 97 = false ∧ x.a ≠ 0) ∨ (Q1d h 98 = false ∧ x.b ≠ 0))) ∧ St cx w' (LL)) ?_ ?_
  · skip
    all_goals (cases q1)
    all_goals (refine zm ?_; (first | refine zgn ?_ | (refine zgy ?_; refine zm ?_)); (first | refine zgn ?_ | (refine zgy ?_; refine zR2 (c := Qe9 hsz hS) (h := ?_); rintro v1 w1 ⟨rfl, hS⟩)))
    all_goals (cases ha2 : Q1d h 98)
    all_goals ((first | refine zgn ?_ | (refine zgy ?_; refine znt ?_)); (first | refine zgn ?_ | (refine zgy ?_; refine zm ?_)); (first | refine zgn ?_ | (refine zgy ?_; refine zf0 ?_)); (first | refine zgn ?_ | (refine zgy ?_; refine zl hS ?_)))
    all_goals (first | refine zgn ?_ | (refine zgy ?_; (first | (refine Q1o ?_) | (refine Q1B ?_) | (refine Q1b rfl rfl (fun hc => ?_) (fun hc => ?_)))))
    all_goals ((first | refine zgn ?_ | (refine zgy ?_; (first | (refine zpt ?_) | (refine zpf ?_)))); (first | (refine zpt ?_) | (refine zpf ?_)); refine Q1l ?_; refine Qt ?_)
    all_goals (first | (exact ⟨_, zh, zh, by exact ⟨fun _ => .inl (hq1.1 rfl), fun _ => rfl⟩, hS.sp⟩) | (exact ⟨_, zh, zh, by exact ⟨fun _ => .inr ⟨(by first | rfl | assumption), by omega⟩, fun _ => rfl⟩, hS.sp⟩) | (exact ⟨_, zh, zh, by exact ⟨fun h => Bool.noConfusion h, fun h => h.elim (fun h => hq1.2 h) (fun h => by obtain ⟨h1, h2⟩ := h; first | (exfalso; omega) | (simp_all; done))⟩, hS.sp⟩))
  rintro ρ w1 ⟨q2, hA, hρ, hq2, hS⟩; obtain ⟨ρ, rfl⟩ := env2 hA hρ
  refine zKL hS 10 [0, 3, 4, 18] (fun A LL ρ' w' => ∃ (q3 : Bool), Has ρ' A ∧ Has ρ' [(46, .bool q3)] ∧ (q3 = true ↔ (((Q1d h 97 = false ∧ x.a ≠ 0) ∨ (Q1d h 98 = false ∧ x.b ≠ 0)) ∨ (Q1d h 99 = false ∧ x.c ≠ 0))) ∧ St cx w' (LL)) ?_ ?_
  · skip
    all_goals (cases q2)
    all_goals (refine zm ?_; (first | refine zgn ?_ | (refine zgy ?_; refine zm ?_)); (first | refine zgn ?_ | (refine zgy ?_; refine zR2 (c := Qe9 hsz hS) (h := ?_); rintro v1 w1 ⟨rfl, hS⟩)))
    all_goals (cases ha3 : Q1d h 99)
    all_goals ((first | refine zgn ?_ | (refine zgy ?_; refine znt ?_)); (first | refine zgn ?_ | (refine zgy ?_; refine zm ?_)); (first | refine zgn ?_ | (refine zgy ?_; refine zf0 ?_)); (first | refine zgn ?_ | (refine zgy ?_; refine zl hS ?_)))
    all_goals (first | refine zgn ?_ | (refine zgy ?_; (first | (refine Q1o ?_) | (refine Q1B ?_) | (refine Q1b rfl rfl (fun hc => ?_) (fun hc => ?_)))))
    all_goals ((first | refine zgn ?_ | (refine zgy ?_; (first | (refine zpt ?_) | (refine zpf ?_)))); (first | (refine zpt ?_) | (refine zpf ?_)); refine Q1l ?_; refine Qt ?_)
    all_goals (first | (exact ⟨_, zh, zh, by exact ⟨fun _ => .inl (hq2.1 rfl), fun _ => rfl⟩, hS.sp⟩) | (exact ⟨_, zh, zh, by exact ⟨fun _ => .inr ⟨(by first | rfl | assumption), by omega⟩, fun _ => rfl⟩, hS.sp⟩) | (exact ⟨_, zh, zh, by exact ⟨fun h => Bool.noConfusion h, fun h => h.elim (fun h => hq2.2 h) (fun h => by obtain ⟨h1, h2⟩ := h; first | (exfalso; omega) | (simp_all; done))⟩, hS.sp⟩))
  rintro ρ w1 ⟨q3, hA, hρ, hq3, hS⟩; obtain ⟨ρ, rfl⟩ := env2 hA hρ
  refine zKL hS 10 [0, 3, 4, 18] (fun A LL ρ' w' => ∃ (q4 : Bool), Has ρ' A ∧ Has ρ' [(56, .bool q4)] ∧ (q4 = true ↔ ((((Q1d h 97 = false ∧ x.a ≠ 0) ∨ (Q1d h 98 = false ∧ x.b ≠ 0)) ∨ (Q1d h 99 = false ∧ x.c ≠ 0)) ∨ (Q1d h 107 = false ∧ x.k ≠ 0))) ∧ St cx w' (LL)) ?_ ?_
  · skip
    all_goals (cases q3)
    all_goals (refine zm ?_; (first | refine zgn ?_ | (refine zgy ?_; refine zm ?_)); (first | refine zgn ?_ | (refine zgy ?_; refine zR2 (c := Qe9 hsz hS) (h := ?_); rintro v1 w1 ⟨rfl, hS⟩)))
    all_goals (cases ha4 : Q1d h 107)
    all_goals ((first | refine zgn ?_ | (refine zgy ?_; refine znt ?_)); (first | refine zgn ?_ | (refine zgy ?_; refine zm ?_)); (first | refine zgn ?_ | (refine zgy ?_; refine zf0 ?_)); (first | refine zgn ?_ | (refine zgy ?_; refine zl hS ?_)))
    all_goals (first | refine zgn ?_ | (refine zgy ?_; (first | (refine Q1o ?_) | (refine Q1B ?_) | (refine Q1b rfl rfl (fun hc => ?_) (fun hc => ?_)))))
    all_goals ((first | refine zgn ?_ | (refine zgy ?_; (first | (refine zpt ?_) | (refine zpf ?_)))); (first | (refine zpt ?_) | (refine zpf ?_)); refine Q1l ?_; refine Qt ?_)
    all_goals (first | (exact ⟨_, zh, zh, by exact ⟨fun _ => .inl (hq3.1 rfl), fun _ => rfl⟩, hS.sp⟩) | (exact ⟨_, zh, zh, by exact ⟨fun _ => .inr ⟨(by first | rfl | assumption), by omega⟩, fun _ => rfl⟩, hS.sp⟩) | (exact ⟨_, zh, zh, by exact ⟨fun h => Bool.noConfusion h, fun h => h.elim (fun h => hq3.2 h) (fun h => by obtain ⟨h1, h2⟩ := h; first | (exfalso; omega) | (simp_all; done))⟩, hS.sp⟩))
  rintro ρ w1 ⟨q4, hA, hρ, hq4, hS⟩; obtain ⟨ρ, rfl⟩ := env2 hA hρ
  refine zKL hS 10 [0, 3, 4, 18] (fun A LL ρ' w' => ∃ (q5 : Bool), Has ρ' A ∧ Has ρ' [(66, .bool q5)] ∧ (q5 = true ↔ (((((Q1d h 97 = false ∧ x.a ≠ 0) ∨ (Q1d h 98 = false ∧ x.b ≠ 0)) ∨ (Q1d h 99 = false ∧ x.c ≠ 0)) ∨ (Q1d h 107 = false ∧ x.k ≠ 0)) ∨ (Q1d h 110 = false ∧ x.n ≠ 0))) ∧ St cx w' (LL)) ?_ ?_
  · skip
    all_goals (cases q4)
    all_goals (refine zm ?_; (first | refine zgn ?_ | (refine zgy ?_; refine zm ?_)); (first | refine zgn ?_ | (refine zgy ?_; refine zR2 (c := Qe9 hsz hS) (h := ?_); rintro v1 w1 ⟨rfl, hS⟩)))
    all_goals (cases ha5 : Q1d h 110)
    all_goals ((first | refine zgn ?_ | (refine zgy ?_; refine znt ?_)); (first | refine zgn ?_ | (refine zgy ?_; refine zm ?_)); (first | refine zgn ?_ | (refine zgy ?_; refine zf0 ?_)); (first | refine zgn ?_ | (refine zgy ?_; refine zl hS ?_)))
    all_goals (first | refine zgn ?_ | (refine zgy ?_; (first | (refine Q1o ?_) | (refine Q1B ?_) | (refine Q1b rfl rfl (fun hc => ?_) (fun hc => ?_)))))
    all_goals ((first | refine zgn ?_ | (refine zgy ?_; (first | (refine zpt ?_) | (refine zpf ?_)))); (first | (refine zpt ?_) | (refine zpf ?_)); refine Q1l ?_; refine Qt ?_)
    all_goals (first | (exact ⟨_, zh, zh, by exact ⟨fun _ => .inl (hq4.1 rfl), fun _ => rfl⟩, hS.sp⟩) | (exact ⟨_, zh, zh, by exact ⟨fun _ => .inr ⟨(by first | rfl | assumption), by omega⟩, fun _ => rfl⟩, hS.sp⟩) | (exact ⟨_, zh, zh, by exact ⟨fun h => Bool.noConfusion h, fun h => h.elim (fun h => hq4.2 h) (fun h => by obtain ⟨h1, h2⟩ := h; first | (exfalso; omega) | (simp_all; done))⟩, hS.sp⟩))
  rintro ρ w1 ⟨q5, hA, hρ, hq5, hS⟩; obtain ⟨ρ, rfl⟩ := env2 hA hρ
  refine zKL hS 11 [0, 3, 4, 18] (fun A LL ρ' w' => ∃ (q6 : Bool), Has ρ' A ∧ Has ρ' [(77, .bool q6)] ∧ (q6 = true ↔ ((((((Q1d h 97 = false ∧ x.a ≠ 0) ∨ (Q1d h 98 = false ∧ x.b ≠ 0)) ∨ (Q1d h 99 = false ∧ x.c ≠ 0)) ∨ (Q1d h 107 = false ∧ x.k ≠ 0)) ∨ (Q1d h 110 = false ∧ x.n ≠ 0)) ∨ (Q1d h 103 = false ∧ 0 < x.regs.length))) ∧ St cx w' (LL)) ?_ ?_
  · skip
    all_goals (cases q5)
    all_goals (refine zm ?_; (first | refine zgn ?_ | (refine zgy ?_; refine zm ?_)); (first | refine zgn ?_ | (refine zgy ?_; refine zR2 (c := Qe9 hsz hS) (h := ?_); rintro v1 w1 ⟨rfl, hS⟩)))
    all_goals (cases ha6 : Q1d h 103)
    all_goals ((first | refine zgn ?_ | (refine zgy ?_; refine znt ?_)); (first | refine zgn ?_ | (refine zgy ?_; refine zm ?_)); (first | refine zgn ?_ | (refine zgy ?_; refine zf0 ?_)); (first | refine zgn ?_ | (refine zgy ?_; refine zl hS ?_)); (first | refine zgn ?_ | (refine zgy ?_; refine zL ?_)))
    all_goals (first | refine zgn ?_ | (refine zgy ?_; (first | (refine QQ ?_) | (refine Q1c ?_) | (refine Qo rfl rfl (fun hc => ?_) (fun hc => ?_)))))
    all_goals ((first | refine zgn ?_ | (refine zgy ?_; (first | (refine zpt ?_) | (refine zpf ?_)))); (first | (refine zpt ?_) | (refine zpf ?_)); refine Q1l ?_; refine Qt ?_)
    all_goals (first | (exact ⟨_, zh, zh, by exact ⟨fun _ => .inl (hq5.1 rfl), fun _ => rfl⟩, hS.sp⟩) | (exact ⟨_, zh, zh, by exact ⟨fun _ => .inr ⟨(by first | rfl | assumption), by omega⟩, fun _ => rfl⟩, hS.sp⟩) | (exact ⟨_, zh, zh, by exact ⟨fun h => Bool.noConfusion h, fun h => h.elim (fun h => hq5.2 h) (fun h => by obtain ⟨h1, h2⟩ := h; first | (exfalso; omega) | (simp_all; done))⟩, hS.sp⟩))
  rintro ρ w1 ⟨q6, hA, hρ, hq6, hS⟩; obtain ⟨ρ, rfl⟩ := env2 hA hρ
  refine zKL hS 11 [0, 3, 18] (fun A LL ρ' w' => ∃ (q7 : Bool), Has ρ' A ∧ Has ρ' [(88, .bool q7)] ∧ (q7 = true ↔ (((((((Q1d h 97 = false ∧ x.a ≠ 0) ∨ (Q1d h 98 = false ∧ x.b ≠ 0)) ∨ (Q1d h 99 = false ∧ x.c ≠ 0)) ∨ (Q1d h 107 = false ∧ x.k ≠ 0)) ∨ (Q1d h 110 = false ∧ x.n ≠ 0)) ∨ (Q1d h 103 = false ∧ 0 < x.regs.length)) ∨ (Q1d h 114 = false ∧ 0 < x.args.length))) ∧ St cx w' (LL)) ?_ ?_
  · skip
    all_goals (cases q6)
    all_goals (refine zm ?_; (first | refine zgn ?_ | (refine zgy ?_; refine zm ?_)); (first | refine zgn ?_ | (refine zgy ?_; refine zR2 (c := Qe9 hsz hS) (h := ?_); rintro v1 w1 ⟨rfl, hS⟩)))
    all_goals (cases ha7 : Q1d h 114)
    all_goals ((first | refine zgn ?_ | (refine zgy ?_; refine znt ?_)); (first | refine zgn ?_ | (refine zgy ?_; refine zm ?_)); (first | refine zgn ?_ | (refine zgy ?_; refine zf0 ?_)); (first | refine zgn ?_ | (refine zgy ?_; refine zl hS ?_)); (first | refine zgn ?_ | (refine zgy ?_; refine zL ?_)))
    all_goals (first | refine zgn ?_ | (refine zgy ?_; (first | (refine QQ ?_) | (refine Q1c ?_) | (refine Qo rfl rfl (fun hc => ?_) (fun hc => ?_)))))
    all_goals ((first | refine zgn ?_ | (refine zgy ?_; (first | (refine zpt ?_) | (refine zpf ?_)))); (first | (refine zpt ?_) | (refine zpf ?_)); refine Q1l ?_; refine Qt ?_)
    all_goals (first | (exact ⟨_, zh, zh, by exact ⟨fun _ => .inl (hq6.1 rfl), fun _ => rfl⟩, hS.sp⟩) | (exact ⟨_, zh, zh, by exact ⟨fun _ => .inr ⟨(by first | rfl | assumption), by omega⟩, fun _ => rfl⟩, hS.sp⟩) | (exact ⟨_, zh, zh, by exact ⟨fun h => Bool.noConfusion h, fun h => h.elim (fun h => hq6.2 h) (fun h => by obtain ⟨h1, h2⟩ := h; first | (exfalso; omega) | (simp_all; done))⟩, hS.sp⟩))
  rintro ρ w1 ⟨q7, hA, hρ, hq7, hS⟩; obtain ⟨ρ, rfl⟩ := env2 hA hρ
  all_goals (refine zR3 (c := Q1Y (by intro _; decide) hS fd) (h := ?_); rintro v1 w1 ⟨rfl, hS⟩; simp only [List.set_cons_zero, List.set_cons_succ, if_true, Bool.false_eq_true, if_false] at hS; refine zn ?_; refine Q0 ?_; clear hq1 hq2 hq3 hq4 hq5 hq6; have hq := hq7; clear hq7; refine Q1 ?_; refine zf0 ?_; refine zl hS ?_; refine zn ?_; refine Qh ?_; refine Q0 ?_; refine Q1 ?_)
  all_goals (first | (refine Qx ?_) | (refine QE ?_) | (refine Qb rfl rfl (fun hc => ?_) (fun hc => ?_)))
  all_goals (refine zm ?_; refine zn ?_)
  all_goals
    first
    | (refine zct ?_ -- QA c0
       all_goals (refine Q1 ?_; refine zm ?_; refine zf0 ?_; refine zl hS ?_)
       all_goals (first | (refine Q1G ?_) | (refine Q1N ?_) | (refine QJ rfl rfl (fun hc => ?_) (fun hc => ?_)))
       all_goals (refine zm ?_; (first | refine zgn ?_ | (refine zgy ?_; refine zf0 ?_)); (first | refine zgn ?_ | (refine zgy ?_; refine zl hS ?_)))
       all_goals (first | refine zgn ?_ | (refine zgy ?_; (first | (refine QQ ?_) | (refine Q1c ?_) | (refine Qo rfl rfl (fun hc => ?_) (fun hc => ?_)))))
       all_goals ((first | (refine zpt ?_) | (refine zpf ?_)); refine zR3 (c := Q1Y (by intro _; decide) hS fd) (h := ?_); rintro v1 w1 ⟨rfl, hS⟩; simp only [List.set_cons_zero, List.set_cons_succ, if_true, Bool.false_eq_true, if_false] at hS)
       all_goals refine zn ?_)
    | (refine zcf ?_ -- QA c0
       all_goals (refine Q0 ?_; refine Q1 ?_)
       all_goals (first | (refine Qx ?_) | (refine QE ?_) | (refine Qb rfl rfl (fun hc => ?_) (fun hc => ?_)))
       all_goals (refine zm ?_; refine zn ?_)
       all_goals
         first
         | (refine zct ?_ -- QA c1
            all_goals (refine Q1 ?_; refine zm ?_; refine zf0 ?_; refine zl hS ?_; refine zL ?_)
            all_goals (first | (refine QQ ?_) | (refine Q1c ?_) | (refine Qo rfl rfl (fun hc => ?_) (fun hc => ?_)))
            all_goals (refine zR3 (c := Q1Y (by intro _; decide) hS fd) (h := ?_); rintro v1 w1 ⟨rfl, hS⟩; simp only [List.set_cons_zero, List.set_cons_succ, if_true, Bool.false_eq_true, if_false] at hS)
            all_goals refine zn ?_)
         | (refine zcf ?_ -- QA c1
            all_goals (refine Q0 ?_; refine Q0 ?_; refine Q1 ?_)
            all_goals (first | (refine Qx ?_) | (refine QE ?_) | (refine Qb rfl rfl (fun hc => ?_) (fun hc => ?_)))
            all_goals (refine zm ?_; refine zn ?_)
            all_goals
              first
              | (refine zct ?_ -- QA c2
                 all_goals refine zsk ?_)
              | (refine zcf ?_ -- QA c2
                 all_goals (refine Q1 ?_)
                 all_goals (first | (refine Qx ?_) | (refine QE ?_) | (refine Qb rfl rfl (fun hc => ?_) (fun hc => ?_)))
                 all_goals (refine zm ?_)
                 all_goals refine zn ?_)
            all_goals
              first
              | (refine zct ?_ -- QA c3
                 all_goals (refine Q1 ?_; refine zm ?_; refine zf0 ?_; refine zl hS ?_)
                 all_goals (first | (refine Q1G ?_) | (refine Q1N ?_) | (refine QJ rfl rfl (fun hc => ?_) (fun hc => ?_)))
                 all_goals (refine zm ?_; (first | refine zgn ?_ | (refine zgy ?_; refine zf0 ?_)); (first | refine zgn ?_ | (refine zgy ?_; refine zl hS ?_)))
                 all_goals (first | refine zgn ?_ | (refine zgy ?_; (first | (refine Q7T ?_) | (refine QaN ?_) | (refine Q34 rfl rfl (fun hc => ?_) (fun hc => ?_)))))
                 all_goals ((first | (refine zpt ?_) | (refine zpf ?_)); refine zR3 (c := Q1Y (by intro _; decide) hS fd) (h := ?_); rintro v1 w1 ⟨rfl, hS⟩; simp only [List.set_cons_zero, List.set_cons_succ, if_true, Bool.false_eq_true, if_false] at hS)
                 all_goals refine zn ?_)
              | (refine zcf ?_ -- QA c3
                 all_goals (refine Q0 ?_; refine Q1 ?_)
                 all_goals (first | (refine Qx ?_) | (refine QE ?_) | (refine Qb rfl rfl (fun hc => ?_) (fun hc => ?_)))
                 all_goals (refine zm ?_; refine zn ?_)
                 all_goals
                   first
                   | (refine zct ?_ -- QA c4
                      all_goals (refine Q0 ?_; refine zD [(0, none), (1, none), (2, none), (3, none), (4, none), (5, none), (6, none), (7, none), (8, none), (9, none), (10, none), (11, none), (12, none), (13, none), (14, none), (15, some none)] ?_; have hS := hS.drew; refine zm ?_; refine zf0 ?_; refine zl hS ?_)
                      all_goals (first | (refine Q1G ?_) | (refine Q1N ?_) | (refine QJ rfl rfl (fun hc => ?_) (fun hc => ?_)))
                      all_goals (refine zm ?_; (first | refine zgn ?_ | (refine zgy ?_; refine zf0 ?_)); (first | refine zgn ?_ | (refine zgy ?_; refine zl hS ?_)); (first | refine zgn ?_ | (refine zgy ?_; refine zm ?_)); (first | refine zgn ?_ | (refine zgy ?_; refine znc ?_)); (first | refine zgn ?_ | (refine zgy ?_; refine zf0 ?_)); (first | refine zgn ?_ | (refine zgy ?_; refine zf0 ?_)); (first | refine zgn ?_ | (refine zgy ?_; refine zl hS ?_)); (first | refine zgn ?_ | (refine zgy ?_; refine zL ?_)))
                      all_goals (first | refine zgn ?_ | (refine zgy ?_; (first | (refine Q7T ?_) | (refine QaN ?_) | (refine Q34 rfl rfl (fun hc => ?_) (fun hc => ?_)))))
                      all_goals ((first | (refine zpt ?_) | (refine zpf ?_)); refine zR3 (c := Q1Y (by intro _; decide) hS fd) (h := ?_); rintro v1 w1 ⟨rfl, hS⟩; simp only [List.set_cons_zero, List.set_cons_succ, if_true, Bool.false_eq_true, if_false] at hS; refine zn ?_; refine Q1 ?_; refine zm ?_; refine zf0 ?_; refine zl hS ?_; refine zL ?_)
                      all_goals (first | (refine QQ ?_) | (refine Q1c ?_) | (refine Qo rfl rfl (fun hc => ?_) (fun hc => ?_)))
                      all_goals (refine zm ?_; (first | refine zgn ?_ | (refine zgy ?_; refine zf0 ?_)); (first | refine zgn ?_ | (refine zgy ?_; refine zl hS ?_)); (first | refine zgn ?_ | (refine zgy ?_; refine zL ?_)))
                      all_goals (first | refine zgn ?_ | (refine zgy ?_; (first | (refine QQ ?_) | (refine Q1c ?_) | (refine Qo rfl rfl (fun hc => ?_) (fun hc => ?_)))))
                      all_goals ((first | (refine zpt ?_) | (refine zpf ?_)); refine zR3 (c := Q1Y (by intro _; decide) hS fd) (h := ?_); rintro v1 w1 ⟨rfl, hS⟩; simp only [List.set_cons_zero, List.set_cons_succ, if_true, Bool.false_eq_true, if_false] at hS)
                      all_goals refine zn ?_)
                   | (refine zcf ?_ -- QA c4
                      all_goals refine zsk ?_))))
  all_goals (refine QG ?_; refine ⟨_, rfl, rfl, ?_⟩; subst hh; rw [← ins_end (c3 := Q2i n.length x) hq rfl]; clear hq hx hr ha hf hsz; have hS := hS.drop; refine St.back ?_ hi; first | (rw [show Q2i n.length x = 0 from (by unfold Q2i; (repeat (first | rw [if_pos (by omega)] | rw [if_neg (by omega)])))]; first | (rw [mkF_0, QlM rfl]; exact hS) | exact hS | (rw [Q2A, Q9g] at hS; exact hS)) | (rw [show Q2i n.length x = 1 from (by unfold Q2i; (repeat (first | rw [if_pos (by omega)] | rw [if_neg (by omega)])))]; first | exact hS | (rw [Q2A, QaX (by decide)] at hS; exact hS)) | (rw [show Q2i n.length x = 2 from (by unfold Q2i; (repeat (first | rw [if_pos (by omega)] | rw [if_neg (by omega)])))]; first | exact hS | (rw [Q2A, Q9g] at hS; exact hS)) | (trace_state; fail "end"))
theorem to_c {x : Fun} {t : To} {is : Bool} {vf : Value} {g : Flt} {at' : Int} {b : Nat} {cs ds : List Value} (hx : funcR.at cx cs x) (ht : toR.at cx ds t) (hS : St cx w L) (hi : nth L i = some (jdg b vf g at')) :
    Rets Try.prog Qan [.pointer (some ⟨b, 0, none⟩), .agg ⟨cs⟩, .agg ⟨ds⟩, .bool is] w fun u w' => u = .tuple #[] ∧ St cx w' (L.set i (jdg b vf (orF g (mkF (Q1y x.blocks.length t is) at')) at')) := by
  have hS := hS.out hi
  obtain ⟨vp, vr, vb, rfl, hp, hr, hb⟩ := QW hx
  obtain ⟨v1, v2, rfl, h1, h2⟩ := Qer ht
  have hlb := hb.len
  have hl1 := h1.len
  have hl2 := h2.len
  cases is with
  | false =>
    all_goals refine Q52 ?_
    all_goals (unfold code_judge_to_lc; refine Q0 ?_; refine Q1 ?_; refine zb hS ?_; intro p5 w1 hS; refine zb hS ?_; intro p6 w1 hS; refine zn ?_; refine Q0 ?_; refine Q0 ?_; refine Q1 ?_; refine zm ?_; refine znt ?_; refine zn ?_)
    all_goals refine zct ?_
    all_goals (refine Q0 ?_; refine Q1 ?_; refine zm ?_; refine zf0 ?_; refine zl hS ?_)
    all_goals (first | (refine Q1o ?_) | (refine Q1B ?_) | (refine Q1b rfl rfl (fun hc => ?_) (fun hc => ?_)))
    all_goals (refine zm ?_; (first | refine zgn ?_ | (refine zgy ?_; refine zf0 ?_)); (first | refine zgn ?_ | (refine zgy ?_; refine zl hS ?_)); (first | refine zgn ?_ | (refine zgy ?_; refine zL ?_)))
    all_goals (first | refine zgn ?_ | (refine zgy ?_; (first | (refine QQ ?_) | (refine Q1c ?_) | (refine Qo rfl rfl (fun hc => ?_) (fun hc => ?_)))))
    all_goals ((first | (refine zpt ?_) | (refine zpf ?_)); refine zm ?_; (first | refine zgn ?_ | (refine zgy ?_; refine zf0 ?_)); (first | refine zgn ?_ | (refine zgy ?_; refine zl hS ?_)); (first | refine zgn ?_ | (refine zgy ?_; refine zL ?_)))
    all_goals (first | refine zgn ?_ | (refine zgy ?_; (first | (refine QQ ?_) | (refine Q1c ?_) | (refine Qo rfl rfl (fun hc => ?_) (fun hc => ?_)))))
    all_goals ((first | (refine zpt ?_) | (refine zpf ?_)); refine zR3 (c := Q1Y (by intro _; decide) hS fd) (h := ?_); rintro v1 w1 ⟨rfl, hS⟩; simp only [List.set_cons_zero, List.set_cons_succ, if_true, Bool.false_eq_true, if_false] at hS; refine zn ?_; refine zr ?_; refine q_ret0 ?_; refine ⟨_, rfl, rfl, ?_⟩; have hS := hS.drop.drop; refine St.back ?_ hi; first | (rw [show Q1y x.blocks.length t false = 4 from (by unfold Q1y; rw [if_pos rfl, if_pos (by omega)])]; exact hS) | (rw [show Q1y x.blocks.length t false = 0 from (by unfold Q1y; rw [if_pos rfl, if_neg (by omega)])]; exact hS))
  | true =>
    all_goals refine Q52 ?_
    all_goals (unfold code_judge_to_lc; refine Q0 ?_; refine Q1 ?_; refine zb hS ?_; intro p5 w1 hS; refine zb hS ?_; intro p6 w1 hS; refine zn ?_; refine Q0 ?_; refine Q0 ?_; refine Q1 ?_; refine zm ?_; refine znt ?_; refine zn ?_)
    all_goals refine zcf ?_
    all_goals (refine zsk ?_; refine Q0 ?_; refine Q1 ?_; refine zm ?_; refine zf0 ?_; refine zl hS ?_)
    all_goals (first | (refine Q1G ?_) | (refine Q1N ?_) | (refine QJ rfl rfl (fun hc => ?_) (fun hc => ?_)))
    all_goals (refine zm ?_; (first | refine zgn ?_ | (refine zgy ?_; refine zf0 ?_)); (first | refine zgn ?_ | (refine zgy ?_; refine zl hS ?_)); (first | refine zgn ?_ | (refine zgy ?_; refine zf0 ?_)); (first | refine zgn ?_ | (refine zgy ?_; refine zl hS ?_)); (first | refine zgn ?_ | (refine zgy ?_; refine zL ?_)))
    all_goals (first | refine zgn ?_ | (refine zgy ?_; (first | (refine Q7T ?_) | (refine QaN ?_) | (refine Q34 rfl rfl (fun hc => ?_) (fun hc => ?_)))))
    all_goals ((first | (refine zpt ?_) | (refine zpf ?_)); refine zR3 (c := Q1Y (by intro _; decide) hS fd) (h := ?_); rintro v1 w1 ⟨rfl, hS⟩; simp only [List.set_cons_zero, List.set_cons_succ, if_true, Bool.false_eq_true, if_false] at hS; refine zn ?_; refine Q1 ?_; refine zm ?_; refine zf0 ?_; refine zl hS ?_; refine zL ?_)
    all_goals (first | (refine QQ ?_) | (refine Q1c ?_) | (refine Qo rfl rfl (fun hc => ?_) (fun hc => ?_)))
    all_goals (refine zm ?_; (first | refine zgn ?_ | (refine zgy ?_; refine zf0 ?_)); (first | refine zgn ?_ | (refine zgy ?_; refine zl hS ?_)); (first | refine zgn ?_ | (refine zgy ?_; refine zL ?_)))
    all_goals (first | refine zgn ?_ | (refine zgy ?_; (first | (refine QQ ?_) | (refine Q1c ?_) | (refine Qo rfl rfl (fun hc => ?_) (fun hc => ?_)))))
    all_goals ((first | (refine zpt ?_) | (refine zpf ?_)); refine zR3 (c := Q1Y (by intro _; decide) hS fd) (h := ?_); rintro v1 w1 ⟨rfl, hS⟩; simp only [List.set_cons_zero, List.set_cons_succ, if_true, Bool.false_eq_true, if_false] at hS; refine zn ?_; refine QG ?_; refine ⟨_, rfl, rfl, ?_⟩; have hS := hS.drop.drop; rw [Q2A] at hS; refine St.back ?_ hi; first | (rw [show Q1y x.blocks.length t true = 1 from (by unfold Q1y; rw [if_neg Bool.noConfusion, if_pos (by omega)])]; rw [QaX (by decide)] at hS; exact hS) | (rw [show Q1y x.blocks.length t true = 2 from (by unfold Q1y; rw [if_neg Bool.noConfusion, if_neg (by omega), if_pos (by omega)])]; rw [Q9g] at hS; exact hS) | (rw [show Q1y x.blocks.length t true = 0 from (by unfold Q1y; rw [if_neg Bool.noConfusion, if_neg (by omega), if_neg (by omega)])]; rw [Q9g] at hS; exact hS))
theorem end_sum {g : Flt} {at' : Int} {n : Nat} {e : Tail} : orF (orF (orF (orF (orF g (mkF (if e.op < 1 ∨ 3 < e.op then 3 else 0) at')) (mkF (if e.op ≠ 2 ∧ e.a ≠ 0 ∨ e.op ≠ 3 ∧ 0 < e.args.length then 4 else 0) at')) (mkF (if 8 < e.args.length then 2 else 0) at')) (mkF (Q1y n e.yes (decide (e.op ≠ 3))) at')) (mkF (Q1y n e.no (decide (e.op = 2))) at') = orF g (mkF (Q2P n e) at') := by
  rw [Q2A, Q2A, Q2A, Q2A]
  congr 2
  unfold Q2P
  split
  · simp only [QaX (show (3 : Int) ≠ 0 by decide)]
  · rw [Q9g]
    split
    · simp only [QaX (show (4 : Int) ≠ 0 by decide)]
    · rw [Q9g]
      split
      · simp only [QaX (show (2 : Int) ≠ 0 by decide)]
      · rw [Q9g]
theorem end_c {x : Fun} {e : Tail} {vf : Value} {g : Flt} {at' : Int} {b : Nat} {cs ds : List Value} (hx : funcR.at cx cs x) (he : endR.at cx ds e) (hS : St cx w L) (hi : nth L i = some (jdg b vf g at')) :
    Rets Try.prog Q9a [.pointer (some ⟨b, 0, none⟩), .agg ⟨cs⟩, .agg ⟨ds⟩] w fun u w' => u = .tuple #[] ∧ St cx w' (L.set i (jdg b vf (orF g (mkF (Q2P x.blocks.length e) at')) at')) := by
  have hS := hS.out hi
  obtain ⟨vp, vr, vb, rfl, hp, hr, hb⟩ := QW hx
  obtain ⟨v1, v2, v3, v4, v5, rfl, h1, h2, h3, h4, h5⟩ := Qe5 he
  have hl5 := h5.len
  all_goals refine QbU ?_
  all_goals (unfold code_judge_end_lc; refine Q0 ?_; refine Q1 ?_; refine zb hS ?_; intro p4 w1 hS; refine zb hS ?_; intro p5 w1 hS; refine zn ?_)
  refine zM [0, 4, 5] (fun A ρ' w' => Has ρ' A ∧ Has ρ' [] ∧ St cx w' (blk p5 48 [.int .i64 e.op, .int .i64 e.a, .int .i64 e.yes.block, v1, v2, .int .i64 e.no.block, v3, v4, v5] :: blk p4 53 [.int .i64 x.regs, vp, vr, vb] :: jdg b vf (orF g (mkF (if e.op < 1 ∨ 3 < e.op then 3 else 0) at')) at' :: L.eraseIdx i)) ?_ ?_
  · skip
    all_goals (refine Q1 ?_; refine zm ?_; refine zf0 ?_; refine zl hS ?_)
    all_goals (first | (refine Q1G ?_) | (refine Q1N ?_) | (refine QJ rfl rfl (fun hc => ?_) (fun hc => ?_)))
    all_goals (refine zm ?_; (first | refine zgn ?_ | (refine zgy ?_; refine zf0 ?_)); (first | refine zgn ?_ | (refine zgy ?_; refine zl hS ?_)))
    all_goals (first | refine zgn ?_ | (refine zgy ?_; (first | (refine QQ ?_) | (refine Q1c ?_) | (refine Qo rfl rfl (fun hc => ?_) (fun hc => ?_)))))
    all_goals ((first | (refine zpt ?_) | (refine zpf ?_)); refine zR3 (c := Q1Y (by intro _; decide) hS fd) (h := ?_); rintro v1 w1 ⟨rfl, hS⟩; simp only [List.set_cons_zero, List.set_cons_succ, if_true, Bool.false_eq_true, if_false] at hS; refine zn ?_; exact ⟨zh, zh, by first | (rw [if_pos (by omega)]; exact hS.sp) | (rw [if_neg (by omega)]; exact hS.sp)⟩)
  rintro ρ w1 ⟨hA, hρ, hS⟩; obtain ⟨ρ, rfl⟩ := env2 hA hρ
  refine zM [0, 4, 5] (fun A ρ' w' => Has ρ' A ∧ Has ρ' [] ∧ St cx w' (blk p5 48 [.int .i64 e.op, .int .i64 e.a, .int .i64 e.yes.block, v1, v2, .int .i64 e.no.block, v3, v4, v5] :: blk p4 53 [.int .i64 x.regs, vp, vr, vb] :: jdg b vf (orF (orF g (mkF (if e.op < 1 ∨ 3 < e.op then 3 else 0) at')) (mkF (if e.op ≠ 2 ∧ e.a ≠ 0 ∨ e.op ≠ 3 ∧ 0 < e.args.length then 4 else 0) at')) at' :: L.eraseIdx i)) ?_ ?_
  · skip
    all_goals (refine Q1 ?_; refine zm ?_; refine zf0 ?_; refine zl hS ?_)
    all_goals (first | (refine Q1o ?_) | (refine Q1B ?_) | (refine Q1b rfl rfl (fun hc => ?_) (fun hc => ?_)))
    all_goals (refine zm ?_; (first | refine zgn ?_ | (refine zgy ?_; refine zf0 ?_)); (first | refine zgn ?_ | (refine zgy ?_; refine zl hS ?_)))
    all_goals (first | refine zgn ?_ | (refine zgy ?_; (first | (refine Q1o ?_) | (refine Q1B ?_) | (refine Q1b rfl rfl (fun hc => ?_) (fun hc => ?_)))))
    all_goals ((first | (refine zpt ?_) | (refine zpf ?_)); refine zm ?_; (first | refine zgn ?_ | (refine zgy ?_; refine zf0 ?_)); (first | refine zgn ?_ | (refine zgy ?_; refine zl hS ?_)))
    all_goals (first | refine zgn ?_ | (refine zgy ?_; (first | (refine Q1o ?_) | (refine Q1B ?_) | (refine Q1b rfl rfl (fun hc => ?_) (fun hc => ?_)))))
    all_goals ((first | refine zgn ?_ | (refine zgy ?_; refine zm ?_)); (first | refine zgn ?_ | (refine zgy ?_; refine zf0 ?_)); (first | refine zgn ?_ | (refine zgy ?_; refine zl hS ?_)); (first | refine zgn ?_ | (refine zgy ?_; refine zL ?_)))
    all_goals (first | refine zgn ?_ | (refine zgy ?_; (first | (refine QQ ?_) | (refine Q1c ?_) | (refine Qo rfl rfl (fun hc => ?_) (fun hc => ?_)))))
    all_goals ((first | refine zgn ?_ | (refine zgy ?_; (first | (refine zpt ?_) | (refine zpf ?_)))); (first | (refine zpt ?_) | (refine zpf ?_)); refine zR3 (c := Q1Y (by intro _; decide) hS fd) (h := ?_); rintro v1 w1 ⟨rfl, hS⟩; simp only [List.set_cons_zero, List.set_cons_succ, if_true, Bool.false_eq_true, if_false] at hS; refine zn ?_; exact ⟨zh, zh, by first | (rw [if_pos (c := e.op ≠ 2 ∧ e.a ≠ 0 ∨ e.op ≠ 3 ∧ 0 < e.args.length) (by omega)]; exact hS.sp) | (rw [if_neg (c := e.op ≠ 2 ∧ e.a ≠ 0 ∨ e.op ≠ 3 ∧ 0 < e.args.length) (by omega)]; exact hS.sp)⟩)
  rintro ρ w1 ⟨hA, hρ, hS⟩; obtain ⟨ρ, rfl⟩ := env2 hA hρ
  refine zM [0, 4, 5] (fun A ρ' w' => Has ρ' A ∧ Has ρ' [] ∧ St cx w' (blk p5 48 [.int .i64 e.op, .int .i64 e.a, .int .i64 e.yes.block, v1, v2, .int .i64 e.no.block, v3, v4, v5] :: blk p4 53 [.int .i64 x.regs, vp, vr, vb] :: jdg b vf (orF (orF (orF g (mkF (if e.op < 1 ∨ 3 < e.op then 3 else 0) at')) (mkF (if e.op ≠ 2 ∧ e.a ≠ 0 ∨ e.op ≠ 3 ∧ 0 < e.args.length then 4 else 0) at')) (mkF (if 8 < e.args.length then 2 else 0) at')) at' :: L.eraseIdx i)) ?_ ?_
  · skip
    all_goals (refine Q1 ?_; refine zm ?_; refine zf0 ?_; refine zl hS ?_; refine zL ?_)
    all_goals (first | (refine QQ ?_) | (refine Q1c ?_) | (refine Qo rfl rfl (fun hc => ?_) (fun hc => ?_)))
    all_goals (refine zR3 (c := Q1Y (by intro _; decide) hS fd) (h := ?_); rintro v1 w1 ⟨rfl, hS⟩; simp only [List.set_cons_zero, List.set_cons_succ, if_true, Bool.false_eq_true, if_false] at hS; refine zn ?_; exact ⟨zh, zh, by first | (rw [if_pos (c := 8 < e.args.length) (by omega)]; exact hS.sp) | (rw [if_neg (c := 8 < e.args.length) (by omega)]; exact hS.sp)⟩)
  rintro ρ w1 ⟨hA, hρ, hS⟩; obtain ⟨ρ, rfl⟩ := env2 hA hρ
  all_goals (refine Q0 ?_; refine Q1 ?_; refine zm ?_; refine zv hS ?_; refine zf0 ?_; refine zv hS ?_; refine zf0 ?_; refine zl hS ?_; refine QaS rfl rfl ?_; refine zR4 (c := to_c (t := e.yes) hx ⟨_, _, rfl, h1, h2⟩ hS fd) (h := ?_); rintro v1 w1 ⟨rfl, hS⟩; have hS := hS.ns; refine zn ?_; refine Q1 ?_; refine zm ?_; refine zv hS ?_; refine zf0 ?_; refine zv hS ?_; refine zf0 ?_; refine zl hS ?_; refine Qhx rfl rfl ?_; refine zR4 (c := to_c (t := e.no) hx ⟨_, _, rfl, h3, h4⟩ hS fd) (h := ?_); rintro v1 w1 ⟨rfl, hS⟩; have hS := hS.ns; refine zn ?_; refine QG ?_; refine ⟨_, rfl, rfl, ?_⟩; rw [end_sum] at hS; exact St.back hS.drop.drop hi)
end
end Go.Proofs.Yteflkifmgnpbhaa
namespace Go.Proofs.Yteflkifmgnpbhaa
open Go.Lir
set_option maxHeartbeats 1000000
attribute [local irreducible] LC.wp Q2 Qy QD retQ Q1n LO.wp Ql Calls
set_option linter.unusedSimpArgs false
set_option linter.unusedVariables false
structure FrmV where
  f : Nat
  b : Nat
  i : Nat
  vv : Value
  vals : List Val
  rv : Value
  regs : List Int
abbrev Qs (l : List Int) : List (List Value) := l.map fun n => [.int .i64 n]
def FrmV.abs (x : FrmV) : Frm := ⟨x.f, x.b, x.i, x.vals, x.regs⟩
def FrmV.cells (x : FrmV) : List Value := [.int .i64 x.f, .int .i64 x.b, .int .i64 x.i, x.vv, x.rv]
def FrmV.res (x : FrmV) : Res := star (sl 108 4 x.vv (x.vals.map Val.cells)) (sl 3 1 x.rv (Qs x.regs))
/-- The machine's own cells. -/
structure MC where
  hp : Value
  fn : Value
  lv : Value
  iv : Value
  e : Int
  bv : Value
  ov : Value
  fu : Int
  mo : Int
  dn : Bool
  c : Int
  a : Int
@[reducible] def MC.cells (x : MC) : List Value := [x.hp, x.fn, x.lv, x.iv, .int .i64 x.e, x.bv, x.ov, .int .i64 x.fu, .int .i64 x.mo, .bool x.dn, .int .i64 x.c, .int .i64 x.a]
@[reducible] def Q2l (fr : List FrmV) (g : FrmV) : List (List Value) := fr.map FrmV.cells ++ [g.cells]
theorem Qa (fr : List FrmV) (g : FrmV) : (Q2l fr g).length = fr.length + 1 := by simp
theorem Qe (fr : List FrmV) (g : FrmV) : (Q2l fr g)[fr.length]? = some g.cells := by
  rw [List.getElem?_append_right (by simp)]; simp
theorem Q9Q {fr : List FrmV} {g g' : FrmV} {j : Nat} {u : Value} (h : g.cells.set j u = g'.cells) : (Q2l fr g).set fr.length (g.cells.set j u) = Q2l fr g' := by
  rw [h]
  unfold Q2l
  rw [List.set_append_right _ _ (by simp)]; simp
@[reducible] def mL (p : Nat) (c : MC) (fr : List FrmV) (g : FrmV) (L : List Res) : List Res := blk p 74 c.cells :: sl 70 5 c.lv (Q2l fr g) :: sl 108 4 g.vv (g.vals.map Val.cells) :: sl 3 1 g.rv (Qs g.regs) :: big FrmV.res fr :: L
@[reducible] def Q5w : Value := .iface 77 (.agg ⟨[]⟩)
@[reducible] def Qk1 (e : Int) : Value := .iface 78 (.int .i64 e)
variable {cx : Cx} {w : World} {L : List Res} {p : Nat} {c : MC} {fr : List FrmV} {g : FrmV}
theorem Q2C (hS : St cx w L) : Rets Try.prog Qb3 [.bool true] w fun u w' => u = .tuple #[] ∧ St cx w' L := by
  all_goals refine Q9Y ?_
  all_goals (unfold ideal_need_lc; refine Q0 ?_; refine Q1 ?_; refine zm ?_; refine znt ?_; refine zn ?_)
  all_goals refine zcf ?_
  all_goals (refine zsk ?_; refine QG ?_; exact ⟨_, rfl, rfl, hS.sp⟩)
theorem Q2K (hS : St cx w L) : Fins Try.prog Qb3 [.bool false] w (fun _ _ => False) (fun u w' => u = Q5w ∧ St cx w' L) := by
  unfold Fins
  all_goals refine Q9Y ?_
  all_goals (unfold ideal_need_lc; refine Q0 ?_; refine Q1 ?_; refine zm ?_; refine znt ?_; refine zn ?_)
  all_goals refine zct ?_
  all_goals (refine Q1 ?_; refine zb0 [] ?_; refine zki ?_; refine Qmr rfl ?_; (repeat (first | refine Qc ?_ | refine Qd ?_)); refine Qp ?_; exact .inr ⟨_, rfl, rfl, hS.sp⟩)
theorem Q7B {e : Int} (hS : St cx w L) : Rets Try.prog Qb4 [.bool false, .int .i64 e] w fun u w' => u = .tuple #[] ∧ St cx w' L := by
  all_goals refine Q9Z ?_
  all_goals (unfold ideal_halt_lc; refine Q0 ?_; refine Q1 ?_; refine zm ?_; refine zn ?_)
  all_goals refine zcf ?_
  all_goals (refine zsk ?_; refine QG ?_; exact ⟨_, rfl, rfl, hS.sp⟩)
theorem Q7A {e : Int} (hS : St cx w L) : Fins Try.prog Qb4 [.bool true, .int .i64 e] w (fun _ _ => False) (fun u w' => u = Qk1 e ∧ St cx w' L) := by
  unfold Fins
  all_goals refine Q9Z ?_
  all_goals (unfold ideal_halt_lc; refine Q0 ?_; refine Q1 ?_; refine zm ?_; refine zn ?_)
  all_goals refine zct ?_
  all_goals (refine Q1 ?_; refine zm ?_; refine zki ?_; refine Qmr rfl ?_; (repeat (first | refine Qc ?_ | refine Qd ?_)); refine Qp ?_; exact .inr ⟨_, rfl, rfl, hS.sp⟩)
theorem Q9W {n : Int} (hS : St cx w L) : Rets Try.prog Qcr [.int .i64 n] w fun u w' => u = (intV n).v ∧ St cx w' L := by
  all_goals refine QeI ?_
  all_goals (unfold ideal_number_lc; refine Q0 ?_; refine Q1 ?_; refine Q8 hS ?_; intro p2 w1 hS; refine zn ?_; refine Q0 ?_; refine Q1 ?_; refine zm ?_; refine zb2 [_, _, _, _] ?_; refine zsn hS ?_; intro w1 hS; have hS := hS.ns; refine zn ?_; refine zr ?_; refine Q2W vw (Qg (n := 4) (by kernel_rfl) (by kernel_rfl) (hS.blkAt fd) (by rfl) (by rfl)) ?_; exact ⟨_, rfl, rfl, hS.sp⟩)
theorem Q5v (hf : fr.length ≤ 1000) (hS : St cx w (mL p c fr g L)) : Rets Try.prog Q4f [.pointer (some ⟨p, 0, none⟩)] w fun u w' => ∃ b o, u = .pointer (some ⟨b, o, none⟩) ∧ ElP c.lv (fr.length + 1) 5 fr.length b o ∧ St cx w' (mL p c fr g L) := by
  all_goals refine Q81 ?_
  all_goals (unfold ideal_Machine_top_lc; refine Q0 ?_; refine Q1 ?_; refine zm ?_; refine zn ?_; refine Q0 ?_; refine zD [(0, none), (1, none), (2, none), (3, none), (4, none), (5, none), (6, none), (7, none), (8, none), (9, none), (10, none), (11, some none)] ?_; have hS := hS.drew; refine zm ?_; refine znc ?_; refine zf0 ?_; refine zl hS ?_; refine zm ?_; refine znc ?_; refine zf0 ?_; refine zl hS ?_; refine Q2h hS vw fd (Qa fr g) ?_; refine Qiw rfl rfl (by omega) (by omega) ?_; rw [show ((fr.length + 1 : Nat) : Int) - 1 = fr.length by omega]; refine Qcp hS vw rfl fd (by rw [Qa]; omega) ?_; rw [Qa]; intro b1 o1 hel; refine zm ?_; refine zn ?_; refine zr ?_; refine zf ?_; exact ⟨_, rfl, b1, o1, rfl, hel, hS.sp⟩)
theorem Q3X {k : Int} (hf : fr.length ≤ 1000) (hS : St cx w (mL p c fr g L)) : Fins Try.prog Q4e [.pointer (some ⟨p, 0, none⟩), .int .i64 k] w
    (fun u w' => ∃ v : Val, g.abs.val k = some v ∧ u = v.v ∧ St cx w' (mL p c fr g L)) (fun u w' => g.abs.val k = none ∧ u = Q5w ∧ St cx w' (mL p c fr g L)) := by
  unfold Fins
  by_cases hk : 0 ≤ k ∧ k < g.vals.length
  · obtain ⟨v, hv⟩ : ∃ v, g.vals[k.toNat]? = some v := ⟨_, List.getElem?_eq_getElem (by omega)⟩
    have hg : g.abs.val k = some v := by unfold Frm.val; rw [if_neg (by omega)]; exact hv
    all_goals refine Q3a ?_
    all_goals (unfold ideal_Machine_val_lc; refine Q0 ?_; refine Q1 ?_; refine Q8 hS ?_; intro p4 w1 hS; refine zn ?_; refine Q0 ?_; have hS : St cx _ (mL p c fr g (blk p4 108 [.int .i64 0, .int .i64 0, .int .i64 0, .int .i64 0] :: L)) := hS.sp; refine Q1 ?_; refine zm ?_; refine zR1 (c := Q5v hf hS) (h := ?_); rintro v1 w1 ⟨b1, o1, rfl, hel, hS⟩; refine znc ?_; (first | refine zf0 ?_ | refine zfd ?_); refine Q5 hS hel rfl fd (Qa fr g) (Qe fr g) rfl ?_; refine zm ?_; refine zn ?_; refine Q0 ?_; refine Q1 ?_; refine zm ?_)
    all_goals (refine Q7T ?_)
    all_goals (refine zm ?_; (first | refine zgn ?_ | (refine zgy ?_; refine zm ?_)); (first | refine zgn ?_ | (refine zgy ?_; refine zm ?_)); (first | refine zgn ?_ | (refine zgy ?_; (first | (refine zL ?_) | (refine zLe hS ?_)))))
    all_goals (first | refine zgn ?_ | (refine zgy ?_; refine Q1G ?_))
    all_goals (refine zpt ?_; refine zR1 (c := Q2C hS) (h := ?_); rintro v1 w1 ⟨rfl, hS⟩; refine zn ?_; refine Q0 ?_; refine Q1 ?_; refine zm ?_; refine zm ?_; refine Qhv hS vw rfl fd (by omega) (by rw [List.length_map]; omega) ?_; rw [List.length_map]; intro b2 o2 hel2; refine Qhu hS hel2 rfl fd (List.length_map _) (show (g.vals.map Val.cells)[k.toNat]? = some v.cells by rw [List.getElem?_map, hv]; rfl) ?_; refine Q3u hS rfl rfl (by rfl) fd (by simp) (by simp [Val.cells, oneC]) (by rfl) ?_; intro w1 hS; have hS := hS.ns; refine zn ?_; refine zr ?_; refine Q2W vw (Qg (n := 4) (by kernel_rfl) (by kernel_rfl) (hS.blkAt fd) (by rfl) (by rfl)) ?_; exact .inl ⟨_, rfl, v, hg, rfl, hS.sp⟩)
  · have hg : g.abs.val k = none := by
      unfold Frm.val
      by_cases h0 : k < 0
      · rw [if_pos h0]
      · rw [if_neg h0]; exact List.getElem?_eq_none (by show g.vals.length ≤ _; omega)
    all_goals refine Q3a ?_
    all_goals (unfold ideal_Machine_val_lc; refine Q0 ?_; refine Q1 ?_; refine Q8 hS ?_; intro p4 w1 hS; refine zn ?_; refine Q0 ?_; have hS : St cx _ (mL p c fr g (blk p4 108 [.int .i64 0, .int .i64 0, .int .i64 0, .int .i64 0] :: L)) := hS.sp; refine Q1 ?_; refine zm ?_; refine zR1 (c := Q5v hf hS) (h := ?_); rintro v1 w1 ⟨b1, o1, rfl, hel, hS⟩; refine znc ?_; (first | refine zf0 ?_ | refine zfd ?_); refine Q5 hS hel rfl fd (Qa fr g) (Qe fr g) rfl ?_; refine zm ?_; refine zn ?_; refine Q0 ?_; refine Q1 ?_; refine zm ?_)
    all_goals (first | (refine Q7T ?_) | (refine QaN ?_) | (refine Q34 rfl rfl (fun hc => ?_) (fun hc => ?_)))
    all_goals (refine zm ?_; (first | refine zgn ?_ | (refine zgy ?_; refine zm ?_)); (first | refine zgn ?_ | (refine zgy ?_; refine zm ?_)); (first | refine zgn ?_ | (refine zgy ?_; (first | (refine zL ?_) | (refine zLe hS ?_)))))
    all_goals (first | refine zgn ?_ | (refine zgy ?_; (first | (refine Q1G ?_) | (refine Q1N ?_))))
    all_goals ((first | (refine zpt ?_) | (refine zpf ?_)))
    all_goals (first | (refine zR1 (c := Q2C hS) (h := ?_); rintro v1 w1 ⟨rfl, hS⟩) | (refine zE1 (c := Q2K hS) (p := by rintro v9 w9 ⟨rfl, hS⟩; (repeat (first | refine Qc ?_ | refine Qd ?_ | refine fun _ => ?_)); refine Qp ?_; refine .inr ⟨_, rfl, ?_⟩; first | (exact ⟨hg, rfl, hS.sp⟩)) (h := fun _ _ h => h.elim)))
    all_goals (refine zn ?_; refine Q0 ?_; refine Q1 ?_; refine zm ?_; refine zm ?_; refine zi ?_; intro b1 o1 cs1 x1 hat1 hx1 he1; obtain ⟨vp1, vr1, vb1, rfl, hp1, hr1, hb1⟩ := QW he1; refine zv hS ?_; refine zsn hS ?_; intro w1 hS; have hS := hS.ns; refine zn ?_; refine zr ?_; refine Q2W vw (Qg (n := 4) (by kernel_rfl) (by kernel_rfl) (hS.blkAt fd) (by rfl) (by rfl)) ?_; trace_state; fail "no ret fits")
end Go.Proofs.Yteflkifmgnpbhaa
namespace Go.Lir
theorem Qng {g : Frm} {l : List Int} {q : Nat} {k : Int} {v : Val} {out : List Val} (hd : g.args l = (g.args (l.drop q)).map fun r => out ++ r) (hx : l[q]? = some k) (hv : g.val k = some v) : g.args l = (g.args (l.drop (q + 1))).map fun r => (out ++ [v]) ++ r := by
  rw [hd, Qj hx, Frm.args, hv]
  cases g.args (l.drop (q + 1)) with
  | none => rfl
  | some r => simp
theorem args_bad {g : Frm} {l : List Int} {q : Nat} {k : Int} {out : List Val} (hd : g.args l = (g.args (l.drop q)).map fun r => out ++ r) (hx : l[q]? = some k) (hv : g.val k = none) : g.args l = none := by
  rw [hd, Qj hx, Frm.args, hv]; rfl
theorem args_end {g : Frm} {l : List Int} {q : Nat} {out : List Val} (hd : g.args l = (g.args (l.drop q)).map fun r => out ++ r) (hq : l.length ≤ q) : g.args l = some out := by
  rw [hd, List.drop_of_length_le hq, Frm.args]; simp
theorem args_0 {g : Frm} {l : List Int} : g.args l = (g.args (l.drop 0)).map fun r => [] ++ r := by
  rw [List.drop_zero]; cases g.args l <;> rfl
theorem rgs_step {g : Frm} {l : List Int} {q : Nat} {k v : Int} {out : List Int} (hd : g.rgs l = (g.rgs (l.drop q)).map fun r => out ++ r) (hx : l[q]? = some k) (hv : g.reg k = some v) : g.rgs l = (g.rgs (l.drop (q + 1))).map fun r => (out ++ [v]) ++ r := by
  rw [hd, Qj hx, Frm.rgs, hv]
  cases g.rgs (l.drop (q + 1)) with
  | none => rfl
  | some r => simp
theorem rgs_bad {g : Frm} {l : List Int} {q : Nat} {k : Int} {out : List Int} (hd : g.rgs l = (g.rgs (l.drop q)).map fun r => out ++ r) (hx : l[q]? = some k) (hv : g.reg k = none) : g.rgs l = none := by
  rw [hd, Qj hx, Frm.rgs, hv]; rfl
theorem rgs_end {g : Frm} {l : List Int} {q : Nat} {out : List Int} (hd : g.rgs l = (g.rgs (l.drop q)).map fun r => out ++ r) (hq : l.length ≤ q) : g.rgs l = some out := by
  rw [hd, List.drop_of_length_le hq, Frm.rgs]; simp
theorem rgs_0 {g : Frm} {l : List Int} : g.rgs l = (g.rgs (l.drop 0)).map fun r => [] ++ r := by
  rw [List.drop_zero]; cases g.rgs l <;> rfl
theorem num_y {g : Frm} {k : Int} {v : Val} (h : g.val k = some v) (hk : v.kind = 1) : g.num k = some v.n := by unfold Frm.num; rw [h]; exact if_pos hk
theorem num_n {g : Frm} {k : Int} {v : Val} (h : g.val k = some v) (hk : v.kind ≠ 1) : g.num k = none := by unfold Frm.num; rw [h]; exact if_neg hk
theorem num_0 {g : Frm} {k : Int} (h : g.val k = none) : g.num k = none := by unfold Frm.num; rw [h]
theorem regf_y {g : Frm} {k v : Int} (h0 : 0 ≤ k) (h : g.regs[k.toNat]? = some v) : g.reg k = some v := by unfold Frm.reg; rw [if_neg (by omega)]; exact h
theorem regf_n {g : Frm} {k : Int} (h : k < 0 ∨ (g.regs.length : Int) ≤ k) : g.reg k = none := by
  unfold Frm.reg
  by_cases h0 : k < 0
  · rw [if_pos h0]
  · rw [if_neg h0]; exact List.getElem?_eq_none (by omega)
end Go.Lir
namespace Go.Proofs.Yteflkifmgnpbhaa
open Go.Lir
set_option maxHeartbeats 1000000
attribute [local irreducible] LC.wp Q2 Qy QD retQ Q1n LO.wp Ql Calls
set_option linter.unusedSimpArgs false
set_option linter.unusedVariables false
variable {cx : Cx} {w : World} {L : List Res} {p : Nat} {c : MC} {fr : List FrmV} {g : FrmV}
attribute [local irreducible] Frm.val Frm.num Frm.args Frm.rgs Frm.reg
theorem Qb0 {k : Int} (hf : fr.length ≤ 1000) (hS : St cx w (mL p c fr g L)) : Fins Try.prog Q4h [.pointer (some ⟨p, 0, none⟩), .int .i64 k] w
    (fun u w' => ∃ n : Int, g.abs.num k = some n ∧ u = .int .i64 n ∧ St cx w' (mL p c fr g L)) (fun u w' => g.abs.num k = none ∧ u = Q5w ∧ St cx w' (mL p c fr g L)) := by
  unfold Fins
  all_goals refine Q8y ?_
  all_goals (unfold ideal_Machine_num_lc; refine Q0 ?_; refine Q1 ?_; refine zm ?_; refine zn ?_; refine Q0 ?_; refine Q1 ?_; refine zm ?_; refine zm ?_; refine zE2 (c := Q3X hf hS) (p := by rintro u9 w9 ⟨hv, rfl, hS⟩; (repeat (first | refine Qc ?_ | refine Qd ?_ | refine fun _ => ?_)); refine Qp ?_; refine .inr ⟨_, rfl, ?_⟩; exact ⟨num_0 hv, rfl, hS.sp⟩) (h := ?_); rintro u1 w2 ⟨v, hv, rfl, hS⟩; unfold Val.v Val.cells; refine Q8 hS ?_; intro p5 w1 hS; refine zsn hS ?_; intro w1 hS; have hS := hS.ns; refine zn ?_; refine Q0 ?_; refine Q1 ?_; refine zf0 ?_; refine zl hS ?_)
  all_goals (first | (refine Qx ?_) | (refine QE ?_) | (refine Qb rfl rfl (fun hc => ?_) (fun hc => ?_)))
  all_goals (first | (refine zR1 (c := Q2C hS) (h := ?_); rintro v1 w1 ⟨rfl, hS⟩) | (refine zE1 (c := Q2K hS) (p := by rintro v9 w9 ⟨rfl, hS⟩; (repeat (first | refine Qc ?_ | refine Qd ?_ | refine fun _ => ?_)); refine Qp ?_; refine .inr ⟨_, rfl, ?_⟩; first | (exact ⟨num_n hv (by omega), rfl, hS.sp⟩)) (h := fun _ _ h => h.elim)))
  all_goals (refine zn ?_; refine Q0 ?_; refine Q1 ?_; refine zf0 ?_; refine zl hS ?_; refine zm ?_; refine zn ?_; refine zr ?_; refine zf ?_; exact .inl ⟨_, rfl, v.n, num_y hv (by omega), rfl, hS.sp⟩)
def FrmV.push (g : FrmV) (tv : Value) (vs : List Val) : FrmV := ⟨g.f, g.b, g.i, tv, g.vals ++ vs, g.rv, g.regs⟩
theorem Q7U {j : Nat} {v2 : Value} {vs : List Val} (hf : fr.length ≤ 1000) (hn : g.vals.length + vs.length ≤ 1000000) (hS : St cx w (mL p c fr g L)) (hj : nth L j = some (sl 108 4 v2 (vs.map Val.cells))) :
    Rets Try.prog Q4g [.pointer (some ⟨p, 0, none⟩), v2] w fun u w' => ∃ tv, u = .tuple #[] ∧ St cx w' (mL p c fr (g.push tv vs) L) := by
  all_goals refine Q8h ?_
  all_goals (unfold ideal_Machine_put_lc; refine Q1 ?_; refine zm ?_; refine zR1 (c := Q5v hf hS) (h := ?_); rintro v1 w1 ⟨b1, o1, rfl, hel1, hS⟩; refine zm ?_; refine zR1 (c := Q5v hf hS) (h := ?_); rintro v2 w1 ⟨b2, o2, rfl, hel2, hS⟩; refine znc ?_; (first | refine zf0 ?_ | refine zfd ?_); refine Q5 hS hel2 rfl fd (Qa fr g) (Qe fr g) rfl ?_; refine zm ?_; refine Q3w Qf1 (.inl Qh5) hS vw vw (i := 2) rfl (hS.srcS (i := j + 5) hj (Qm6 vs)) (by rw [List.length_map, List.length_map]; omega) ?_; intro v7 w7 hS; have hS := hS.ns; have ho7 := hS.oneC (i := 2) rfl; rw [← List.map_append] at hS; refine znc ?_; (first | refine zf0 ?_ | refine zfd ?_); refine Q1z hS hel1 rfl vw fd (Qa fr g) (Qe fr g) (by omega) ho7 (Q9Q (g' := g.push v7 vs) rfl) ?_; intro w8 hS; have hS := hS.ns; refine zn ?_; refine QG ?_; exact ⟨_, rfl, v7, rfl, hS.sp⟩)
end Go.Proofs.Yteflkifmgnpbhaa
namespace Go.Proofs.Yteflkifmgnpbhaa
open Go.Lir
set_option maxHeartbeats 1000000
attribute [local irreducible] LC.wp Q2 Qy QD retQ Q1n LO.wp Ql Calls
set_option linter.unusedSimpArgs false
set_option linter.unusedVariables false
variable {cx : Cx} {w : World} {L : List Res} {p : Nat} {c : MC} {fr : List FrmV} {g : FrmV}
attribute [local irreducible] Frm.val Frm.num Frm.args Frm.rgs Frm.reg
theorem Qiq {l : List Int} {v1 : Value} (hl1 : l.length ≤ 100000) (hf : fr.length ≤ 1000) (hl : intR.sl cx v1 l) (hS : St cx w (mL p c fr g L)) : Fins Try.prog Q3L [.pointer (some ⟨p, 0, none⟩), v1] w
    (fun u w' => ∃ vs : List Val, g.abs.args l = some vs ∧ vs.length = l.length ∧ oneC u = true ∧ St cx w' (mL p c fr g (sl 108 4 u (vs.map Val.cells) :: L))) (fun u w' => g.abs.args l = none ∧ u = Q5w ∧ St cx w' (mL p c fr g L)) := by
  have hlen := hl.len
  unfold Fins
  all_goals refine Q5S ?_
  all_goals (unfold ideal_Machine_vals_lc; refine Q0 ?_; refine Q1 ?_; refine zm ?_; refine zn ?_; refine Q0 ?_; refine Q1 ?_; refine zm ?_; refine zn ?_; refine Q0 ?_; refine Q0 ?_; refine Q1 ?_; refine zm ?_; refine zL ?_; refine zm ?_; refine zn ?_; refine Qh ?_; have hS : St cx _ (mL p c fr g (sl 108 4 (.slice none 0 0) (([] : List Val).map Val.cells) :: L)) := (by have hS := hS.nil (T := 108) (es := 4); exact hS.sp))
  refine zo [0, 8, 9] (fun A ρ' w' => ∃ (q : Nat) (vo : Value) (out : List Val), Has ρ' A ∧ Has ρ' [(5, vo), (10, .int .i64 q)] ∧ (q ≤ l.length) ∧ (out.length = q) ∧ (oneC vo = true) ∧ (g.abs.args l = (g.abs.args (l.drop q)).map fun r => out ++ r) ∧ St cx w' (mL p c fr g (sl 108 4 vo (out.map Val.cells) :: L))) (fun ρ' _ => (l.length - iv (ρ' 10)).toNat) ?_ ?_
  · exact ⟨0, .slice none 0 0, [], zh, zh, (by omega), rfl, rfl, args_0, hS.sp⟩
  rintro ρ w1 ⟨q, vo, out, hA, hρ, hq, hol, hvo, hd, hS⟩; obtain ⟨ρ, rfl⟩ := env2 hA hρ
  unfold Q2Y
  all_goals (refine Q0 ?_; refine Q1 ?_; refine Q1h rfl rfl ?_; refine zn ?_; refine Q0 ?_)
  refine Q1g rfl (fun hc => ?_) (fun hc => ?_)
  · skip
    all_goals (refine zsk ?_; refine Q0 ?_; refine Qh ?_; refine Q0 ?_; refine Q1 ?_; refine zi ?_; intro b1 o1 cs1 x1 hat1 hx1 he1; obtain rfl := Q4I he1; (first | (refine zl hS ?_) | (refine zlk hS ?_)); refine zm ?_; refine zn ?_; refine Q1 ?_; refine zm ?_; refine zm ?_; refine zm ?_; refine zE2 (c := Q3X hf hS) (p := by rintro u9 w9 ⟨hv, rfl, hS⟩; (repeat (first | refine Qc ?_ | refine Qd ?_ | refine fun _ => ?_)); refine Qp ?_; refine .inr ⟨_, rfl, ?_⟩; exact ⟨args_bad hd hx1 hv, rfl, hS.sp⟩) (h := ?_); rintro u1 w2 ⟨v, hv, rfl, hS⟩; unfold Val.v Val.cells; refine zB1 hS [_, _, _, _] ?_; intro b1 w1 hS; refine Q3w Qf1 (.inl Qh5) hS vw vw (i := 6) rfl (hS.srcB (i := 0) rfl (by rfl) (by simp [oneC])) (by rw [List.length_map]; simp only [List.length_cons, List.length_nil]; omega) ?_; intro v7 w7 hS; have hS := hS.ns; have ho7 := hS.oneC (i := 6) rfl; refine zm ?_; refine zn ?_; refine Q1 ?_; refine zad ?_; refine zm ?_; refine zn ?_; exact ⟨⟨q + 1, v7, out ++ [v], zh, zh, (by omega), by rw [List.length_append, hol]; rfl, ho7, Qng hd hx1 hv, by rw [List.map_append]; exact hS.sp⟩, Q1j (by omega)⟩)
  · skip
    all_goals (refine zex ?_; refine Q0 ?_; refine Q1 ?_; refine zm ?_; refine zm ?_; refine zn ?_; refine zr ?_; refine zf ?_; exact .inl ⟨_, rfl, out, args_end hd (by omega), by omega, hvo, hS.sp⟩)
theorem regs_c {l : List Int} {v1 : Value} (hl1 : l.length ≤ 100000) (hf : fr.length ≤ 1000) (hl : intR.sl cx v1 l) (hS : St cx w (mL p c fr g L)) : Fins Try.prog Q3M [.pointer (some ⟨p, 0, none⟩), v1] w
    (fun u w' => ∃ vs : List Int, g.abs.rgs l = some vs ∧ vs.length = l.length ∧ oneC u = true ∧ St cx w' (mL p c fr g (sl 3 1 u (Qs vs) :: L))) (fun u w' => g.abs.rgs l = none ∧ u = Q5w ∧ St cx w' (mL p c fr g L)) := by
  have hlen := hl.len
  unfold Fins
  all_goals refine Q6b ?_
  all_goals (unfold ideal_Machine_regs_lc; refine Q0 ?_; refine Q1 ?_; refine zm ?_; refine zn ?_; refine Q0 ?_; refine Q1 ?_; refine zm ?_; refine zn ?_; refine Q0 ?_; refine Q0 ?_; refine Q1 ?_; refine zm ?_; refine zL ?_; refine zm ?_; refine zn ?_; refine Qh ?_; have hS : St cx _ (mL p c fr g (sl 3 1 (.slice none 0 0) (Qs []) :: L)) := (by have hS := hS.nil (T := 3) (es := 1); exact hS.sp))
  refine zo [0, 9, 10] (fun A ρ' w' => ∃ (q : Nat) (vo : Value) (out : List Int), Has ρ' A ∧ Has ρ' [(5, vo), (11, .int .i64 q)] ∧ (q ≤ l.length) ∧ (out.length = q) ∧ (oneC vo = true) ∧ (g.abs.rgs l = (g.abs.rgs (l.drop q)).map fun r => out ++ r) ∧ St cx w' (mL p c fr g (sl 3 1 vo (Qs out) :: L))) (fun ρ' _ => (l.length - iv (ρ' 11)).toNat) ?_ ?_
  · exact ⟨0, .slice none 0 0, [], zh, zh, (by omega), rfl, rfl, rgs_0, hS.sp⟩
  rintro ρ w1 ⟨q, vo, out, hA, hρ, hq, hol, hvo, hd, hS⟩; obtain ⟨ρ, rfl⟩ := env2 hA hρ
  unfold Q2Z
  all_goals (refine Q0 ?_; refine Q1 ?_; refine Q1h rfl rfl ?_; refine zn ?_; refine Q0 ?_)
  refine Q1g rfl (fun hc => ?_) (fun hc => ?_)
  · skip
    all_goals (refine zsk ?_; refine Q0 ?_; refine Qh ?_; refine Q0 ?_; refine Q1 ?_; refine zi ?_; intro b1 o1 cs1 x1 hat1 hx1 he1; obtain rfl := Q4I he1; (first | (refine Q5 hS hel rfl (i := 1) rfl (Qa fr g) (Qe fr g) rfl ?_) | (refine zl hS ?_) | (refine zlk hS ?_)); refine zm ?_; refine zn ?_; refine Q0 ?_; refine Q1 ?_; refine zm ?_; refine zR1 (c := Q5v hf hS) (h := ?_); rintro v1 w1 ⟨b1, o1, rfl, hel, hS⟩; refine zm ?_; refine zn ?_; refine Q0 ?_; refine Q1 ?_; refine zm ?_)
    all_goals (first | (refine Q7T ?_) | (refine QaN ?_) | (refine Q34 rfl rfl (fun hc => ?_) (fun hc => ?_)))
    all_goals (refine zm ?_; (first | refine zgn ?_ | (refine zgy ?_; refine zm ?_)); (first | refine zgn ?_ | (refine zgy ?_; refine zm ?_)); (first | refine zgn ?_ | (refine zgy ?_; refine znc ?_)); (first | refine zgn ?_ | (refine zgy ?_; (first | refine zf0 ?_ | refine zfd ?_))); (first | refine zgn ?_ | (refine zgy ?_; refine Q5 hS hel rfl (i := 1) rfl (Qa fr g) (Qe fr g) rfl ?_)); (first | refine zgn ?_ | (refine zgy ?_; (first | (refine zL ?_) | (refine zLe hS ?_)))))
    all_goals (first | refine zgn ?_ | (refine zgy ?_; (first | (refine Q1G ?_) | (refine Q1N ?_) | (refine QJ rfl rfl (fun hc => ?_) (fun hc => ?_)))))
    all_goals ((first | (refine zpt ?_) | (refine zpf ?_)))
    all_goals (first | (refine zR1 (c := Q2C hS) (h := ?_); rintro v1 w1 ⟨rfl, hS⟩) | (refine zE1 (c := Q2K hS) (p := by rintro v9 w9 ⟨rfl, hS⟩; (repeat (first | refine Qc ?_ | refine Qd ?_ | refine fun _ => ?_)); refine Qp ?_; refine .inr ⟨_, rfl, ?_⟩; first | (exact ⟨rgs_bad hd hx1 (regf_n (by show x1 < 0 ∨ (g.regs.length : Int) ≤ x1; omega)), rfl, hS.sp⟩)) (h := fun _ _ h => h.elim)))
    all_goals (refine zn ?_; obtain ⟨r9, hr9⟩ : ∃ r, g.regs[x1.toNat]? = some r := ⟨_, List.getElem?_eq_getElem (by omega)⟩; have hrow : (Qs g.regs)[x1.toNat]? = some [.int .i64 r9] := (by rw [List.getElem?_map, hr9]; rfl); have hrg : g.abs.reg x1 = some r9 := regf_y (by omega) hr9; refine Q1 ?_; refine zm ?_; refine zm ?_; refine znc ?_; (first | refine zf0 ?_ | refine zfd ?_); refine Q5 hS hel rfl (i := 1) rfl (Qa fr g) (Qe fr g) rfl ?_; refine zm ?_; (first | ((first | refine zi ?_ | refine zj ?_); intro b2 o2 cs2 x2 hat2 hx2 he2; obtain rfl := Q4I he2) | (refine zie hS ?_; intro b2 o2 hel2) | (refine zij hS ?_; intro b2 o2 hel2)); refine Q4E hS hel2 rfl (i := 3) rfl rfl hrow rfl ?_; refine zB1 hS [_] ?_; intro b1 w1 hS; refine Q3w Qcv (.inl Qk0) hS vw vw (i := 6) rfl (hS.srcB (i := 0) rfl (by rfl) (by simp [oneC])) (by rw [List.length_map]; simp only [List.length_cons, List.length_nil]; omega) ?_; intro v7 w7 hS; have hS := hS.ns; have ho7 := hS.oneC (i := 6) rfl; refine zm ?_; refine zn ?_)
    all_goals (refine Q1 ?_; refine zad ?_; refine zm ?_; refine zn ?_; exact ⟨⟨q + 1, v7, out ++ [r9], zh, zh, (by omega), by rw [List.length_append, hol]; rfl, ho7, rgs_step hd hx1 hrg, by rw [Qs, List.map_append]; exact hS.sp⟩, Q1j (by omega)⟩)
  · skip
    all_goals (refine zex ?_; refine Q0 ?_; refine Q1 ?_; refine zm ?_; refine zm ?_; refine zn ?_; refine zr ?_; refine zf ?_; exact .inl ⟨_, rfl, out, rgs_end hd (by omega), by omega, hvo, hS.sp⟩)
end Go.Proofs.Yteflkifmgnpbhaa
namespace Go.Proofs.Yteflkifmgnpbhaa
open Go.Lir
set_option maxHeartbeats 1000000
attribute [local irreducible] LC.wp Q2 Qy QD retQ Q1n LO.wp Ql Calls
set_option linter.unusedSimpArgs false
set_option linter.unusedVariables false
variable {cx : Cx} {w : World} {L : List Res} {p N : Nat} {c : MC} {fr : List FrmV} {g : FrmV} {h : HpS} {out : List Int}
attribute [local irreducible] Frm.val Frm.num Frm.args Frm.rgs Frm.reg HpS.get HpS.set HpS.setC HpS.len HpS.code HpS.put HpS.putV HpS.open HpS.shut HpS.full HpS.openV HpS.can HpS.arr HpS.arrC HpS.arrV HpS.tuple
theorem Qln {v : Val} {e : Int} (hf : fr.length ≤ 1000) (hn : g.vals.length ≤ 900000) (hS : St cx w (mL p c fr g L)) : Fins Try.prog Q3O [.pointer (some ⟨p, 0, none⟩), v.v, .int .i64 e] w
    (fun u w' => e = 0 ∧ ∃ tv, u = .tuple #[] ∧ St cx w' (mL p c fr (g.push tv [v]) L)) (fun u w' => (e = 14 ∧ u = Qk1 6 ∨ e ≠ 14 ∧ e ≠ 0 ∧ u = Q5w) ∧ St cx w' (mL p c fr g L)) := by
  unfold Fins Val.v Val.cells
  all_goals refine Q6o ?_
  all_goals (unfold ideal_Machine_made_lc; refine Q0 ?_; refine Q1 ?_; refine zb hS ?_; intro p4 w1 hS; refine zn ?_; refine Q0 ?_; refine Q1 ?_; refine zm ?_)
  all_goals (first | (refine Qx ?_) | (refine QE ?_) | (refine Qb rfl rfl (fun hc => ?_) (fun hc => ?_)))
  all_goals (first | (refine zR2 (c := Q7B hS) (h := ?_); rintro v1 w1 ⟨rfl, hS⟩) | (refine zE2 (c := Q7A hS) (p := by rintro v9 w9 ⟨rfl, hS⟩; (repeat (first | refine Qc ?_ | refine Qd ?_ | refine fun _ => ?_)); refine Qp ?_; refine .inr ⟨_, rfl, ?_⟩; first | (exact ⟨.inl ⟨by omega, rfl⟩, hS.sp⟩)) (h := fun _ _ h => h.elim)))
  all_goals (refine zn ?_; refine Q0 ?_; refine Q1 ?_; refine zm ?_)
  all_goals (first | (refine Qx ?_) | (refine QE ?_) | (refine Qb rfl rfl (fun hc => ?_) (fun hc => ?_)))
  all_goals (first | (refine zR1 (c := Q2C hS) (h := ?_); rintro v1 w1 ⟨rfl, hS⟩) | (refine zE1 (c := Q2K hS) (p := by rintro v9 w9 ⟨rfl, hS⟩; (repeat (first | refine Qc ?_ | refine Qd ?_ | refine fun _ => ?_)); refine Qp ?_; refine .inr ⟨_, rfl, ?_⟩; first | (exact ⟨.inr ⟨by omega, by omega, rfl⟩, hS.sp⟩)) (h := fun _ _ h => h.elim)))
  all_goals (refine zn ?_; refine Q1 ?_; refine zm ?_; refine zv hS ?_; refine zB1 hS [_, _, _, _] ?_; intro b1 w1 hS; have hS := St.slOf (T := 108) (es := 4) (css := [v].map Val.cells) hS rfl (by simp [Val.cells]) rfl; have hS : St cx _ (mL p c fr g (sl 108 4 (.slice (some ⟨b1, 0, none⟩) 1 1) ([v].map Val.cells) :: L)) := hS.sp; refine zR2 (c := Q7U (j := 0) hf (by simp only [List.length_cons, List.length_nil]; omega) hS rfl) (h := ?_); rintro u1 w1 ⟨tv, rfl, hS⟩; refine zn ?_; refine QG ?_; exact .inl ⟨_, rfl, by omega, tv, rfl, hS.sp⟩)
theorem QgR {x : Ins} {cs : List Value} {e : Int} (hx : insR.at cx cs x) (hf : fr.length ≤ 1000) (hS : St cx w (mL p c fr g L)) : Fins Try.prog Q3N [.pointer (some ⟨p, 0, none⟩), .agg ⟨cs⟩, .int .i64 e] w
    (fun u w' => (∃ v, g.abs.val x.a = some v ∧ v.kind = 4) ∧ e = 0 ∧ u = .tuple #[] ∧ St cx w' (mL p c fr g L))
    (fun u w' => ((∀ v, g.abs.val x.a = some v → v.kind = 4 → e ≠ 1 ∧ e ≠ 0) ∧ u = Q5w ∨ (∃ v, g.abs.val x.a = some v ∧ v.kind = 4) ∧ e = 1 ∧ u = Qk1 2) ∧ St cx w' (mL p c fr g L)) := by
  obtain ⟨vr, va, rfl, hr, ha⟩ := Q2T hx
  unfold Fins
  all_goals refine Q6h ?_
  all_goals (unfold ideal_Machine_part_lc; refine Q0 ?_; refine Q1 ?_; refine zb hS ?_; intro p4 w1 hS; refine zn ?_; refine Q0 ?_; refine Q1 ?_; refine zm ?_; refine zf0 ?_; refine zl hS ?_; have hS : St cx _ (mL p c fr g (blk p4 42 [.int .i64 x.op, .int .i64 x.a, .int .i64 x.b, .int .i64 x.c, .int .i64 x.k, .int .i64 x.n, vr, va] :: L)) := hS.sp)
  all_goals (refine zE2 (c := Q3X hf hS) (p := by rintro u9 w9 ⟨hv, rfl, hS⟩; (repeat (first | refine Qc ?_ | refine Qd ?_ | refine fun _ => ?_)); refine Qp ?_; refine .inr ⟨_, rfl, ?_⟩; exact ⟨.inl ⟨fun v h => (by rw [hv] at h; cases h), rfl⟩, hS.sp⟩) (h := ?_); rintro u1 w2 ⟨v, hv, rfl, hS⟩; unfold Val.v Val.cells)
  all_goals (refine Qld rfl rfl ?_)
  all_goals (first | (refine Qx ?_) | (refine QE ?_) | (refine Qb rfl rfl (fun hc => ?_) (fun hc => ?_)))
  all_goals (first | (refine zR1 (c := Q2C hS) (h := ?_); rintro v1 w1 ⟨rfl, hS⟩) | (refine zE1 (c := Q2K hS) (p := by rintro v9 w9 ⟨rfl, hS⟩; (repeat (first | refine Qc ?_ | refine Qd ?_ | refine fun _ => ?_)); refine Qp ?_; refine .inr ⟨_, rfl, ?_⟩; exact ⟨.inl ⟨fun v' h h4 => (by rw [hv] at h; cases h; omega), rfl⟩, hS.sp⟩) (h := fun _ _ h => h.elim)))
  all_goals (refine zn ?_; refine Q0 ?_; refine Q1 ?_; refine zm ?_)
  all_goals (first | (refine Qx ?_) | (refine QE ?_) | (refine Qb rfl rfl (fun hc => ?_) (fun hc => ?_)))
  all_goals (first | (refine zR2 (c := Q7B hS) (h := ?_); rintro v1 w1 ⟨rfl, hS⟩) | (refine zE2 (c := Q7A hS) (p := by rintro v9 w9 ⟨rfl, hS⟩; (repeat (first | refine Qc ?_ | refine Qd ?_ | refine fun _ => ?_)); refine Qp ?_; refine .inr ⟨_, rfl, ?_⟩; first | (exact ⟨.inr ⟨⟨v, hv, by omega⟩, by omega, rfl⟩, hS.sp⟩)) (h := fun _ _ h => h.elim)))
  all_goals (refine zn ?_; refine Q1 ?_; refine zm ?_)
  all_goals (first | (refine Qx ?_) | (refine QE ?_) | (refine Qb rfl rfl (fun hc => ?_) (fun hc => ?_)))
  all_goals (first | (refine zR1 (c := Q2C hS) (h := ?_); rintro v1 w1 ⟨rfl, hS⟩) | (refine zE1 (c := Q2K hS) (p := by rintro v9 w9 ⟨rfl, hS⟩; (repeat (first | refine Qc ?_ | refine Qd ?_ | refine fun _ => ?_)); refine Qp ?_; refine .inr ⟨_, rfl, ?_⟩; exact ⟨.inl ⟨fun v' h h4 => (by rw [hv] at h; cases h; omega), rfl⟩, hS.sp⟩) (h := fun _ _ h => h.elim)))
  all_goals (refine zn ?_; refine QG ?_; exact .inl ⟨_, rfl, ⟨v, hv, by omega⟩, by omega, rfl, hS.sp⟩)
end Go.Proofs.Yteflkifmgnpbhaa
namespace Go.Proofs.Yteflkifmgnpbhaa
open Go.Lir
set_option maxHeartbeats 1000000
attribute [local irreducible] LC.wp Q2 Qy QD retQ Q1n LO.wp Ql Calls
set_option linter.unusedSimpArgs false
set_option linter.unusedVariables false
@[reducible] def mS (p : Nat) (c : MC) (fr : List FrmV) (g : FrmV) (N : Nat) (h : HpS) (out : List Int) (L : List Res) : List Res := mL p c fr g (Q1D N c.hp h :: sl 2 1 c.ov (Qs out) :: L)
/-- The machine that lies so. -/
def msOf (h : HpS) (g : FrmV) (fr : List FrmV) (inp out : List Int) (fu : Nat) : MS := ⟨h, g.abs, (fr.map FrmV.abs).reverse, inp, out, fu⟩
@[reducible] def MC.upd (c : MC) (lv iv ov : Value) : MC := ⟨c.hp, c.fn, lv, iv, c.e, c.bv, ov, c.fu, c.mo, c.dn, c.c, c.a⟩
/-- A step went well. -/
def GoS (p : Nat) (c : MC) (N : Nat) (fu : Nat) (X : Stp) (cx : Cx) (L : List Res) (u : Value) (w' : World) : Prop :=
  ∃ lv iv ov fr' g' N' h' inp' out', X = .go (msOf h' g' fr' inp' out' fu) ∧ intR.sl cx iv inp' ∧ N' ≤ N + 1 ∧ u = .tuple #[] ∧ St cx w' (mS p (c.upd lv iv ov) fr' g' N' h' out' L)
/-- A step did not. -/
def BadS (p : Nat) (c : MC) (N : Nat) (h : HpS) (out : List Int) (X : Stp) (cx : Cx) (L : List Res) (u : Value) (w' : World) : Prop :=
  (X = .lost ∧ u = Q5w ∧ St cx w' (blk p 74 c.cells :: L)) ∨ (∃ e, X = .halt e ∧ u = Qk1 e ∧ ∃ fr' g' N', N' ≤ N + 1 ∧ St cx w' (mS p c fr' g' N' h out L))
variable {cx : Cx} {w : World} {L : List Res} {p N : Nat} {c : MC} {fr : List FrmV} {g : FrmV} {h : HpS} {out inp : List Int} {fu : Nat}
attribute [local irreducible] Frm.val Frm.num Frm.args Frm.rgs Frm.reg HpS.get HpS.set HpS.setC HpS.len HpS.code HpS.putV HpS.open HpS.shut HpS.full HpS.openV HpS.can HpS.tuple
theorem QhF {s : MS} {e : Int} {v : Val} (he : e = 14) : s.made e h v = .halt 6 := if_pos he
theorem QhE {s : MS} {e : Int} {v : Val} (he : e ≠ 14) (h0 : e ≠ 0) : s.made e h v = .lost := by unfold MS.made; rw [if_neg he, if_pos h0]
theorem Qlo {s : MS} {e : Int} {v : Val} (he : e = 0) : s.made e h v = .go ((s.hp h).put [v]) := by unfold MS.made; rw [if_neg (by omega), if_neg (by omega)]
theorem Qne {h : HpS} {v : Val} {n : Int} (e : h.arrC v n ≠ 0) : h.arr v n = h := by
  unfold HpS.arrC at e
  unfold HpS.arr
  split
  · rfl
  · rename_i hn
    rw [if_neg hn] at e
    unfold HpS.put; exact if_neg e
def arrX (s : MS) (x : Ins) : Stp := QZ (s.g.val x.a) fun v => QZ (s.g.num x.b) fun n => if n < 0 ∨ 15 < n then .halt 3 else s.made (s.h.arrC v n) (s.h.arr v n) (s.h.arrV v n)
attribute [local irreducible] HpS.arr HpS.arrC HpS.arrV
theorem array_c {x : Ins} {cs : List Value} (hx : insR.at cx cs x) (hi : intR.sl cx c.iv inp) (hf : fr.length ≤ 1000) (hn : g.vals.length ≤ 900000) (hN : N ≤ 99999) (hS : St cx w (mS p c fr g N h out L)) :
    Fins Try.prog Q3B [.pointer (some ⟨p, 0, none⟩), .agg ⟨cs⟩] w (GoS p c N fu (arrX (msOf h g fr inp out fu) x) cx L) (BadS p c N h out (arrX (msOf h g fr inp out fu) x) cx L) := by
  obtain ⟨vr, va, rfl, hr, ha⟩ := Q2T hx
  unfold Fins GoS BadS arrX
  all_goals refine Q5p ?_
  all_goals (unfold ideal_Machine_array_lc; refine Q0 ?_; refine Q1 ?_; refine zb hS ?_; intro p3 w1 hS; refine zn ?_; refine Q0 ?_; have hS : St cx _ (mS p c fr g N h out (blk p3 42 [.int .i64 x.op, .int .i64 x.a, .int .i64 x.b, .int .i64 x.c, .int .i64 x.k, .int .i64 x.n, vr, va] :: L)) := hS.sp)
  refine Q2g 3 8 (by kernel_rfl) ?_ ?_
  · skip
    refine Q2g 7 8 (by kernel_rfl) ?_ ?_
    · skip
      all_goals (refine zC [(0, none), (1, none), (2, none), (4, none), (5, none), (6, none), (3, some (some [6])), (7, some none), (8, some none), (9, some none), (10, some none)] ?_; have hS := hS.drew; refine s_cq ?_; refine zm ?_; refine zt ?_; refine s_cq ?_; refine zf0 ?_; refine zt ?_; refine s_cq ?_; refine zl hS ?_; refine zt ?_; refine s_cq ?_; refine zm ?_; refine zt ?_; refine s_cq ?_; refine zf0 ?_; refine zt ?_; refine s_cq ?_; refine zl hS ?_; refine zt ?_; refine Qi ?_; refine zE2 (c := Q3X hf (show St cx _ (mL p c fr g _) from hS.sp)) (p := by rintro u9 w9 ⟨hv, rfl, hS⟩; (repeat (first | refine Qc ?_ | refine Qd ?_ | refine fun _ => ?_)); refine Qp ?_; refine .inr ⟨_, rfl, ?_⟩; exact .inl ⟨QF hv, rfl, hS.sp⟩) (h := ?_); rintro u1 w2 ⟨v, hv, rfl, hS⟩; refine zt ?_; refine zy ?_; refine s_cf ?_; refine zE2 (c := Qb0 hf (show St cx _ (mL p c fr g _) from hS.sp)) (p := by rintro u9 w9 ⟨hm, rfl, hS⟩; (repeat (first | refine Qc ?_ | refine Qd ?_ | refine fun _ => ?_)); refine Qp ?_; refine .inr ⟨_, rfl, ?_⟩; exact .inl ⟨(Q4 hv).trans (QF hm), rfl, hS.sp⟩) (h := ?_); rintro u1 w2 ⟨n, hm, rfl, hS⟩; refine zt ?_; refine s_cf ?_; refine Q8 hS ?_; intro p4 w1 hS; refine zt ?_; refine s_cf ?_; unfold Val.v Val.cells; refine zsn hS ?_; intro w1 hS; have hS := hS.ns)
      all_goals (refine zt ?_; refine s_cf ?_; refine zm ?_; refine zt ?_; refine zcn ?_; refine Q0 ?_; refine Q1 ?_; refine zm ?_)
      all_goals (first | (refine Q1G ?_) | (refine Q1N ?_) | (refine QJ rfl rfl (fun hc => ?_) (fun hc => ?_)))
      all_goals (refine zm ?_; (first | refine zgn ?_ | (refine zgy ?_; refine zm ?_)))
      all_goals (first | refine zgn ?_ | (refine zgy ?_; (first | (refine QQ ?_) | (refine Q1c ?_) | (refine Qo rfl rfl (fun hc => ?_) (fun hc => ?_)))))
      all_goals ((first | (refine zpt ?_) | (refine zpf ?_)))
      all_goals (first | (refine zR2 (c := Q7B hS) (h := ?_); rintro v1 w1 ⟨rfl, hS⟩) | (refine zE2 (c := Q7A hS) (p := by rintro v9 w9 ⟨rfl, hS⟩; (repeat (first | refine Qc ?_ | refine Qd ?_ | refine fun _ => ?_)); refine Qp ?_; refine .inr ⟨_, rfl, ?_⟩; first | (exact .inr ⟨3, (Q4 hv).trans ((Q4 hm).trans (if_pos (by omega))), rfl, fr, g, N, by omega, hS.sp⟩)) (h := fun _ _ h => h.elim)))
      all_goals (refine zn ?_; refine zC [(0, none), (1, none), (2, none), (3, none), (4, none), (5, none), (6, none), (7, some (some [])), (8, none), (9, none), (10, some none)] ?_; have hS := hS.drew; refine s_cq ?_; refine zm ?_; refine zt ?_; refine s_cq ?_; refine zm ?_; refine zt ?_; refine s_cq ?_; refine znc ?_; refine zt ?_; refine s_cq ?_; refine zf0 ?_; refine zt ?_; refine s_cq ?_; refine zl hS ?_; refine zt ?_; refine s_cq ?_; refine zv hS ?_; refine zt ?_; refine s_cq ?_; refine zm ?_; refine zt ?_; refine Qi ?_; refine zR3 (c := QhM (N := N) (s := h) (h := c.hp) v n (by omega) hS fd) (h := ?_); rintro v1 w1 ⟨rfl, hS⟩; have hS := hS.ns; refine zt ?_; refine zy ?_; refine s_cq ?_; refine zxt ?_; refine zt ?_; refine s_cq ?_; refine zxt ?_; refine zt ?_; refine s_cf ?_)
      all_goals (refine zE3 (c := Qln (v := h.arrV v n) hf hn (show St cx _ (mL p c fr g _) from hS.sp)) (p := by rintro u9 w9 ⟨he, hS⟩; (repeat (first | refine Qc ?_ | refine Qd ?_ | refine fun _ => ?_)); refine Qp ?_; refine .inr ⟨_, rfl, ?_⟩; rcases he with ⟨e0, rfl⟩ | ⟨e0, e1, rfl⟩; exact .inr ⟨6, (Q4 hv).trans ((Q4 hm).trans ((if_neg (by omega)).trans (QhF e0))), rfl, fr, g, N + 1, Nat.le_refl _, by rw [Qne (by omega)] at hS; exact hS.sp⟩; exact .inl ⟨(Q4 hv).trans ((Q4 hm).trans ((if_neg (by omega)).trans (QhE e0 e1))), rfl, hS.sp⟩) (h := ?_); rintro u1 w2 ⟨e0, tv, rfl, hS⟩)
      all_goals (refine zt ?_; refine zcn ?_; refine QG ?_; exact .inl ⟨_, rfl, c.lv, c.iv, c.ov, fr, _, _, _, inp, out, (Q4 hv).trans ((Q4 hm).trans ((if_neg (by omega)).trans (Qlo e0))), hi, Nat.le_refl _, rfl, hS.sp⟩)
    · skip
      all_goals (refine zC [(0, none), (1, none), (2, none), (4, none), (5, none), (6, none), (3, some (some [6])), (8, some (some [6])), (7, some none), (9, some none), (10, some none)] ?_; have hS := hS.drew; refine s_cq ?_; refine zm ?_; refine zt ?_; refine s_cq ?_; refine zf0 ?_; refine zt ?_; refine s_cq ?_; refine zl hS ?_; refine zt ?_; refine s_cq ?_; refine zm ?_; refine zt ?_; refine s_cq ?_; refine zf0 ?_; refine zt ?_; refine s_cq ?_; refine zl hS ?_; refine zt ?_; refine Qi ?_; refine zE2 (c := Q3X hf (show St cx _ (mL p c fr g _) from hS.sp)) (p := by rintro u9 w9 ⟨hv, rfl, hS⟩; (repeat (first | refine Qc ?_ | refine Qd ?_ | refine fun _ => ?_)); refine Qp ?_; refine .inr ⟨_, rfl, ?_⟩; exact .inl ⟨QF hv, rfl, hS.sp⟩) (h := ?_); rintro u1 w2 ⟨v, hv, rfl, hS⟩; refine zt ?_; refine zy ?_; refine Qi ?_; refine Q8 hS ?_; intro p4 w1 hS; refine zt ?_; refine zy ?_; refine s_cf ?_; refine zE2 (c := Qb0 hf (show St cx _ (mL p c fr g _) from hS.sp)) (p := by rintro u9 w9 ⟨hm, rfl, hS⟩; (repeat (first | refine Qc ?_ | refine Qd ?_ | refine fun _ => ?_)); refine Qp ?_; refine .inr ⟨_, rfl, ?_⟩; exact .inl ⟨(Q4 hv).trans (QF hm), rfl, hS.sp⟩) (h := ?_); rintro u1 w2 ⟨n, hm, rfl, hS⟩; refine zt ?_; refine s_cf ?_; unfold Val.v Val.cells)
      all_goals (refine zsn hS ?_; intro w1 hS; have hS := hS.ns; refine zt ?_; refine s_cf ?_; refine zm ?_; refine zt ?_; refine zcn ?_; refine Q0 ?_; refine Q1 ?_; refine zm ?_)
      all_goals (first | (refine Q1G ?_) | (refine Q1N ?_) | (refine QJ rfl rfl (fun hc => ?_) (fun hc => ?_)))
      all_goals (refine zm ?_; (first | refine zgn ?_ | (refine zgy ?_; refine zm ?_)))
      all_goals (first | refine zgn ?_ | (refine zgy ?_; (first | (refine QQ ?_) | (refine Q1c ?_) | (refine Qo rfl rfl (fun hc => ?_) (fun hc => ?_)))))
      all_goals ((first | (refine zpt ?_) | (refine zpf ?_)))
      all_goals (first | (refine zR2 (c := Q7B hS) (h := ?_); rintro v1 w1 ⟨rfl, hS⟩) | (refine zE2 (c := Q7A hS) (p := by rintro v9 w9 ⟨rfl, hS⟩; (repeat (first | refine Qc ?_ | refine Qd ?_ | refine fun _ => ?_)); refine Qp ?_; refine .inr ⟨_, rfl, ?_⟩; first | (exact .inr ⟨3, (Q4 hv).trans ((Q4 hm).trans (if_pos (by omega))), rfl, fr, g, N, by omega, hS.sp⟩)) (h := fun _ _ h => h.elim)))
      all_goals (refine zn ?_; refine zC [(0, none), (1, none), (2, none), (3, none), (4, none), (5, none), (6, none), (7, some (some [])), (8, none), (9, none), (10, some none)] ?_; have hS := hS.drew; refine s_cq ?_; refine zm ?_; refine zt ?_; refine s_cq ?_; refine zm ?_; refine zt ?_; refine s_cq ?_; refine znc ?_; refine zt ?_; refine s_cq ?_; refine zf0 ?_; refine zt ?_; refine s_cq ?_; refine zl hS ?_; refine zt ?_; refine s_cq ?_; refine zv hS ?_; refine zt ?_; refine s_cq ?_; refine zm ?_; refine zt ?_; refine Qi ?_; refine zR3 (c := QhM (N := N) (s := h) (h := c.hp) v n (by omega) hS fd) (h := ?_); rintro v1 w1 ⟨rfl, hS⟩; have hS := hS.ns; refine zt ?_; refine zy ?_; refine s_cq ?_; refine zxt ?_; refine zt ?_; refine s_cq ?_; refine zxt ?_; refine zt ?_; refine s_cf ?_)
      all_goals (refine zE3 (c := Qln (v := h.arrV v n) hf hn (show St cx _ (mL p c fr g _) from hS.sp)) (p := by rintro u9 w9 ⟨he, hS⟩; (repeat (first | refine Qc ?_ | refine Qd ?_ | refine fun _ => ?_)); refine Qp ?_; refine .inr ⟨_, rfl, ?_⟩; rcases he with ⟨e0, rfl⟩ | ⟨e0, e1, rfl⟩; exact .inr ⟨6, (Q4 hv).trans ((Q4 hm).trans ((if_neg (by omega)).trans (QhF e0))), rfl, fr, g, N + 1, Nat.le_refl _, by rw [Qne (by omega)] at hS; exact hS.sp⟩; exact .inl ⟨(Q4 hv).trans ((Q4 hm).trans ((if_neg (by omega)).trans (QhE e0 e1))), rfl, hS.sp⟩) (h := ?_); rintro u1 w2 ⟨e0, tv, rfl, hS⟩)
      all_goals (refine zt ?_; refine zcn ?_; refine QG ?_; exact .inl ⟨_, rfl, c.lv, c.iv, c.ov, fr, _, _, _, inp, out, (Q4 hv).trans ((Q4 hm).trans ((if_neg (by omega)).trans (Qlo e0))), hi, Nat.le_refl _, rfl, hS.sp⟩)
  · skip
    all_goals (refine zC [(0, none), (1, none), (2, none), (4, none), (5, none), (6, none), (8, some (some [2, 6])), (3, some (some [6])), (7, some none), (9, some none), (10, some none)] ?_; have hS := hS.drew; refine s_cq ?_; refine zm ?_; refine zt ?_; refine s_cq ?_; refine zf0 ?_; refine zt ?_; refine s_cq ?_; refine zl hS ?_; refine zt ?_; refine s_cq ?_; refine zm ?_; refine zt ?_; refine s_cq ?_; refine zf0 ?_; refine zt ?_; refine s_cq ?_; refine zl hS ?_; refine zt ?_; refine Qi ?_; refine Q8 hS ?_; intro p4 w1 hS; refine zt ?_; refine zy ?_; refine Qi ?_; refine zE2 (c := Q3X hf (show St cx _ (mL p c fr g _) from hS.sp)) (p := by rintro u9 w9 ⟨hv, rfl, hS⟩; (repeat (first | refine Qc ?_ | refine Qd ?_ | refine fun _ => ?_)); refine Qp ?_; refine .inr ⟨_, rfl, ?_⟩; exact .inl ⟨QF hv, rfl, hS.sp⟩) (h := ?_); rintro u1 w2 ⟨v, hv, rfl, hS⟩; refine zt ?_; refine zy ?_; refine s_cf ?_; refine zE2 (c := Qb0 hf (show St cx _ (mL p c fr g _) from hS.sp)) (p := by rintro u9 w9 ⟨hm, rfl, hS⟩; (repeat (first | refine Qc ?_ | refine Qd ?_ | refine fun _ => ?_)); refine Qp ?_; refine .inr ⟨_, rfl, ?_⟩; exact .inl ⟨(Q4 hv).trans (QF hm), rfl, hS.sp⟩) (h := ?_); rintro u1 w2 ⟨n, hm, rfl, hS⟩; refine zt ?_; refine s_cf ?_; unfold Val.v Val.cells)
    all_goals (refine zsn hS ?_; intro w1 hS; have hS := hS.ns; refine zt ?_; refine s_cf ?_; refine zm ?_; refine zt ?_; refine zcn ?_; refine Q0 ?_; refine Q1 ?_; refine zm ?_)
    all_goals (first | (refine Q1G ?_) | (refine Q1N ?_) | (refine QJ rfl rfl (fun hc => ?_) (fun hc => ?_)))
    all_goals (refine zm ?_; (first | refine zgn ?_ | (refine zgy ?_; refine zm ?_)))
    all_goals (first | refine zgn ?_ | (refine zgy ?_; (first | (refine QQ ?_) | (refine Q1c ?_) | (refine Qo rfl rfl (fun hc => ?_) (fun hc => ?_)))))
    all_goals ((first | (refine zpt ?_) | (refine zpf ?_)))
    all_goals (first | (refine zR2 (c := Q7B hS) (h := ?_); rintro v1 w1 ⟨rfl, hS⟩) | (refine zE2 (c := Q7A hS) (p := by rintro v9 w9 ⟨rfl, hS⟩; (repeat (first | refine Qc ?_ | refine Qd ?_ | refine fun _ => ?_)); refine Qp ?_; refine .inr ⟨_, rfl, ?_⟩; first | (exact .inr ⟨3, (Q4 hv).trans ((Q4 hm).trans (if_pos (by omega))), rfl, fr, g, N, by omega, hS.sp⟩)) (h := fun _ _ h => h.elim)))
    all_goals (refine zn ?_; refine zC [(0, none), (1, none), (2, none), (3, none), (4, none), (5, none), (6, none), (7, some (some [])), (8, none), (9, none), (10, some none)] ?_; have hS := hS.drew; refine s_cq ?_; refine zm ?_; refine zt ?_; refine s_cq ?_; refine zm ?_; refine zt ?_; refine s_cq ?_; refine znc ?_; refine zt ?_; refine s_cq ?_; refine zf0 ?_; refine zt ?_; refine s_cq ?_; refine zl hS ?_; refine zt ?_; refine s_cq ?_; refine zv hS ?_; refine zt ?_; refine s_cq ?_; refine zm ?_; refine zt ?_; refine Qi ?_; refine zR3 (c := QhM (N := N) (s := h) (h := c.hp) v n (by omega) hS fd) (h := ?_); rintro v1 w1 ⟨rfl, hS⟩; have hS := hS.ns; refine zt ?_; refine zy ?_; refine s_cq ?_; refine zxt ?_; refine zt ?_; refine s_cq ?_; refine zxt ?_; refine zt ?_; refine s_cf ?_)
    all_goals (refine zE3 (c := Qln (v := h.arrV v n) hf hn (show St cx _ (mL p c fr g _) from hS.sp)) (p := by rintro u9 w9 ⟨he, hS⟩; (repeat (first | refine Qc ?_ | refine Qd ?_ | refine fun _ => ?_)); refine Qp ?_; refine .inr ⟨_, rfl, ?_⟩; rcases he with ⟨e0, rfl⟩ | ⟨e0, e1, rfl⟩; exact .inr ⟨6, (Q4 hv).trans ((Q4 hm).trans ((if_neg (by omega)).trans (QhF e0))), rfl, fr, g, N + 1, Nat.le_refl _, by rw [Qne (by omega)] at hS; exact hS.sp⟩; exact .inl ⟨(Q4 hv).trans ((Q4 hm).trans ((if_neg (by omega)).trans (QhE e0 e1))), rfl, hS.sp⟩) (h := ?_); rintro u1 w2 ⟨e0, tv, rfl, hS⟩)
    all_goals (refine zt ?_; refine zcn ?_; refine QG ?_; exact .inl ⟨_, rfl, c.lv, c.iv, c.ov, fr, _, _, _, inp, out, (Q4 hv).trans ((Q4 hm).trans ((if_neg (by omega)).trans (Qlo e0))), hi, Nat.le_refl _, rfl, hS.sp⟩)
end Go.Proofs.Yteflkifmgnpbhaa
namespace Go.Proofs.Yteflkifmgnpbhaa
open Go.Lir
set_option maxHeartbeats 1000000
attribute [local irreducible] LC.wp Q2 Qy QD retQ Q1n LO.wp Ql Calls
set_option linter.unusedSimpArgs false
set_option linter.unusedVariables false
variable {cx : Cx} {w : World} {L : List Res} {p N : Nat} {c : MC} {fr : List FrmV} {g : FrmV} {h : HpS} {out inp : List Int} {fu : Nat} {m : Module}
theorem QmR {g' : FrmV} : msOf h g' (fr ++ [g]) inp out fu = ⟨h, g'.abs, g.abs :: (fr.map FrmV.abs).reverse, inp, out, fu⟩ := by unfold msOf; simp
theorem call_X {s : MS} {x : Ins} {gf : Fun} (hg : m.funcs[x.k.toNat]? = some gf) : s.call m x = QZ (s.g.rgs x.regs) fun rs => QZ (s.g.args x.args) fun vs =>
    if (rs.length : Int) ≠ gf.regs ∨ vs.length ≠ gf.params.length then .lost else if s.st.length + 1 = 40 then .halt 5 else .go ⟨s.h, ⟨x.k.toNat, 0, 0, vs, rs⟩, s.g :: s.st, s.inp, s.out, s.fuel⟩ := by unfold MS.call; rw [hg]
theorem big_g (hS : St cx w (sl 108 4 g.vv (g.vals.map Val.cells) :: sl 3 1 g.rv (Qs g.regs) :: big FrmV.res fr :: L)) : St cx w (big FrmV.res (fr ++ [g]) :: L) :=
  St.big_push (f := FrmV.res) (x := g) (St.star' hS)
theorem QmD {g' : FrmV} : Q2l fr g ++ [g'.cells] = Q2l (fr ++ [g]) g' := by simp [Q2l]
attribute [local irreducible] Frm.val Frm.num Frm.args Frm.rgs Frm.reg
theorem call_c {x : Ins} {cs : List Value} (hx : insR.at cx cs x) (hfn : funcR.sl cx c.fn m.funcs) (hi : intR.sl cx c.iv inp) (hk0 : 0 ≤ x.k) (hk1 : x.k < m.funcs.length) (h6 : x.regs.length ≤ 100) (h8 : x.args.length ≤ 100) (hf : fr.length ≤ 1000) (hS : St cx w (mS p c fr g N h out L)) :
    Fins Try.prog Q3P [.pointer (some ⟨p, 0, none⟩), .agg ⟨cs⟩] w (GoS p c N fu ((msOf h g fr inp out fu).call m x) cx L) (BadS p c N h out ((msOf h g fr inp out fu).call m x) cx L) := by
  obtain ⟨vr, va, rfl, hr, ha⟩ := Q2T hx
  have hfl := hfn.len
  unfold Fins GoS BadS
  all_goals refine Q7i ?_
  all_goals (unfold ideal_Machine_call_lc; refine Q0 ?_; refine Q1 ?_; refine zb hS ?_; intro p3 w1 hS; refine zn ?_; refine Q0 ?_; have hS : St cx _ (mS p c fr g N h out (blk p3 42 [.int .i64 x.op, .int .i64 x.a, .int .i64 x.b, .int .i64 x.c, .int .i64 x.k, .int .i64 x.n, vr, va] :: L)) := hS.sp; refine zC [(0, none), (1, none), (2, none), (3, none), (4, none), (5, none), (6, none), (7, none), (8, none), (9, some (some [4, 6, 8])), (10, some none)] ?_; have hS := hS.drew; refine s_cq ?_; refine zm ?_; refine zt ?_; refine s_cq ?_; refine znc ?_; refine zt ?_; refine s_cq ?_; refine zf0 ?_; refine zt ?_; refine s_cq ?_; (first | refine zf0 ?_ | refine zfd ?_); refine zt ?_; refine s_cq ?_; refine zl hS ?_; refine zt ?_; refine s_cq ?_; refine zf0 ?_; refine zt ?_; refine s_cq ?_; refine zl hS ?_; refine zt ?_; refine s_cq ?_; refine zj ?_; intro b1 o1 cs1 x1 hat1 hx1 he1; obtain ⟨vp1, vr1, vb1, rfl, hp1, hr1, hb1⟩ := QW he1; have hX := call_X (s := msOf h g fr inp out fu) hx1)
  all_goals (refine zt ?_; refine s_cq ?_; (first | (refine zv hS ?_) | (refine zvk hS ?_)); refine zt ?_; refine Qi ?_; refine Q8 hS ?_; intro p4 w1 hS; refine zt ?_; refine zy ?_; refine s_cf ?_; refine zsn hS ?_; intro w1 hS; have hS := hS.ns; refine zt ?_; refine zcn ?_; refine Q0 ?_; refine zC [(0, none), (1, none), (2, none), (4, none), (5, none), (6, none), (3, some (some [6])), (7, some none), (8, none), (9, some none)] ?_; have hS := hS.drew; refine s_cq ?_; refine zm ?_; refine zt ?_; refine s_cq ?_; refine zf0 ?_; refine zt ?_; refine s_cq ?_; refine zl hS ?_; refine zt ?_; refine s_cq ?_; refine zm ?_; refine zt ?_; refine s_cq ?_; refine zf0 ?_; refine zt ?_; refine s_cq ?_; refine zl hS ?_; refine zt ?_; refine Qi ?_; refine zE2 (c := regs_c (by omega) hf hr (show St cx _ (mL p c fr g _) from hS.sp)) (p := by rintro u9 w9 ⟨hrs, rfl, hS⟩; (repeat (first | refine Qc ?_ | refine Qd ?_ | refine fun _ => ?_)); refine Qp ?_; refine .inr ⟨_, rfl, ?_⟩; exact .inl ⟨hX.trans (QF hrs), rfl, hS.sp⟩) (h := ?_); rintro u1 w2 ⟨rs, hrs, hrl, ho1, hS⟩; obtain ⟨a1, n1, rfl⟩ := hS.shape (i := 5) rfl)
  all_goals (refine zt ?_; refine zy ?_; refine s_cf ?_; refine zE2 (c := Qiq (by omega) hf ha (show St cx _ (mL p c fr g _) from hS.sp)) (p := by rintro u9 w9 ⟨hvs, rfl, hS⟩; (repeat (first | refine Qc ?_ | refine Qd ?_ | refine fun _ => ?_)); refine Qp ?_; refine .inr ⟨_, rfl, ?_⟩; exact .inl ⟨hX.trans ((Q4 hrs).trans (QF hvs)), rfl, hS.sp⟩) (h := ?_); rintro u2 w2 ⟨vs, hvs, hvl, ho2, hS⟩; obtain ⟨a2, n2, rfl⟩ := hS.shape (i := 5) rfl; refine zt ?_; refine s_cq ?_; refine zm ?_; refine zt ?_; refine s_cf ?_; refine zm ?_; refine zt ?_; refine zcn ?_; refine Q0 ?_; refine Q1 ?_; refine zm ?_; (first | (refine zL ?_) | (refine zLe hS ?_)); refine zf0 ?_; refine zl hS ?_)
  all_goals (first | (refine Qx ?_) | (refine QE ?_) | (refine Qb rfl rfl (fun hc => ?_) (fun hc => ?_)))
  all_goals (refine zm ?_; (first | refine zgn ?_ | (refine zgy ?_; refine zm ?_)); (first | refine zgn ?_ | (refine zgy ?_; (first | (refine zL ?_) | (refine zLe hS ?_)))); (first | refine zgn ?_ | (refine zgy ?_; refine zf0 ?_)); (first | refine zgn ?_ | (refine zgy ?_; refine zl hS ?_)); (first | refine zgn ?_ | (refine zgy ?_; refine zL ?_)))
  all_goals (first | refine zgn ?_ | (refine zgy ?_; (first | (refine Qx ?_) | (refine QE ?_) | (refine Qb rfl rfl (fun hc => ?_) (fun hc => ?_)))))
  all_goals ((first | (refine zpt ?_) | (refine zpf ?_)))
  all_goals (first | (refine zR1 (c := Q2C hS) (h := ?_); rintro v1 w1 ⟨rfl, hS⟩) | (refine zE1 (c := Q2K hS) (p := by rintro v9 w9 ⟨rfl, hS⟩; (repeat (first | refine Qc ?_ | refine Qd ?_ | refine fun _ => ?_)); refine Qp ?_; refine .inr ⟨_, rfl, ?_⟩; first | (exact .inl ⟨hX.trans ((Q4 hrs).trans ((Q4 hvs).trans (if_pos (by omega)))), rfl, hS.sp⟩)) (h := fun _ _ h => h.elim)))
  all_goals (refine zn ?_; refine Q0 ?_; refine Q1 ?_; refine zm ?_; refine znc ?_; refine zf0 ?_; refine zl hS ?_; refine Q2h hS vw fd (Qa fr g) ?_)
  all_goals (first | (refine Qx ?_) | (refine QE ?_) | (refine Qb rfl rfl (fun hc => ?_) (fun hc => ?_)))
  all_goals (first | (refine zR2 (c := Q7B hS) (h := ?_); rintro v1 w1 ⟨rfl, hS⟩) | (refine zE2 (c := Q7A hS) (p := by rintro v9 w9 ⟨rfl, hS⟩; (repeat (first | refine Qc ?_ | refine Qd ?_ | refine fun _ => ?_)); refine Qp ?_; refine .inr ⟨_, rfl, ?_⟩; first | (exact .inr ⟨5, hX.trans ((Q4 hrs).trans ((Q4 hvs).trans ((if_neg (by omega)).trans (if_pos (by show ((fr.map FrmV.abs).reverse).length + 1 = 40; rw [List.length_reverse, List.length_map]; omega))))), rfl, fr, g, N, by omega, hS.sp⟩)) (h := fun _ _ h => h.elim)))
  all_goals (refine zn ?_; refine zC [(0, none), (1, none), (2, none), (3, none), (4, none), (5, none), (6, none), (7, none), (8, none), (9, none), (10, some (some [4])), (11, some (some [])), (12, none), (13, none), (14, some none)] ?_; have hS := hS.drew; refine s_cq ?_; refine zm ?_; refine zt ?_; refine s_cq ?_; refine zm ?_; refine zt ?_; refine s_cq ?_; refine znc ?_; refine zt ?_; refine s_cq ?_; refine zf0 ?_; refine zt ?_; refine s_cq ?_; refine zl hS ?_; refine zt ?_; refine s_cq ?_; refine zf0 ?_; refine zt ?_; refine s_cq ?_; refine zl hS ?_; refine zt ?_; refine s_cq ?_; refine zm ?_; refine zt ?_; refine s_cq ?_; refine zm ?_; refine zt ?_; refine s_cq ?_; refine zb3 [_, _, _, _, _] ?_; refine zt ?_; refine Qi ?_; refine zB1 hS [_, _, _, _, _] ?_; intro b1 w1 hS; refine zt ?_; refine zy ?_; refine Qi ?_; refine Q3w el_T71 (.inl u_T71) hS vw vw fd (hS.srcB fd (by rfl) (by simp [oneC, ho1, ho2])) (by rw [Qa]; simp only [List.length_cons, List.length_nil]; omega) ?_; intro v7 w7 hS; have hS := hS.ns)
  all_goals (refine zt ?_; refine zy ?_; refine s_cq ?_; refine znc ?_; refine zt ?_; refine s_cq ?_; refine zf0 ?_; refine zt ?_; refine s_cf ?_; refine zst hS ?_; intro w1 hS; have hS := hS.ns; refine zt ?_; refine zcn ?_; refine QG ?_; rw [show (Value.int .i64 x.k) = .int .i64 ((x.k.toNat : Nat) : Int) by rw [Int.toNat_of_nonneg hk0]] at hS; have hS := big_g (g := g) (fr := fr) (L := blk p 74 _ :: sl 70 5 v7 _ :: sl 108 4 (.slice a2 _ n2) _ :: sl 3 1 (.slice a1 _ n1) _ :: Q1D N c.hp h :: sl 2 1 c.ov _ :: L) hS.sp; exact .inl ⟨_, rfl, v7, c.iv, c.ov, fr ++ [g], ⟨x.k.toNat, 0, 0, .slice a2 (vs.map Val.cells).length n2, vs, .slice a1 (Qs rs).length n1, rs⟩, N, h, inp, out, hX.trans ((Q4 hrs).trans ((Q4 hvs).trans ((if_neg (by omega)).trans ((if_neg (by show ¬ ((fr.map FrmV.abs).reverse).length + 1 = 40; rw [List.length_reverse, List.length_map]; omega)).trans (by rw [QmR]; rfl))))), hi, by omega, rfl, by have e9 : Q2l fr g ++ [[.int .i64 ((x.k.toNat : Nat) : Int), vi 0, vi 0, .slice a2 (vs.map Val.cells).length n2, .slice a1 (Qs rs).length n1]] = Q2l (fr ++ [g]) ⟨x.k.toNat, 0, 0, .slice a2 (vs.map Val.cells).length n2, vs, .slice a1 (Qs rs).length n1, rs⟩ := QmD (g' := ⟨x.k.toNat, 0, 0, .slice a2 (vs.map Val.cells).length n2, vs, .slice a1 (Qs rs).length n1, rs⟩); rw [e9] at hS; exact hS.sp⟩)
end Go.Proofs.Yteflkifmgnpbhaa
namespace Go.Proofs.Yteflkifmgnpbhaa
open Go.Lir
set_option maxHeartbeats 1000000
attribute [local irreducible] LC.wp Q2 Qy QD retQ Q1n LO.wp Ql Calls
set_option linter.unusedSimpArgs false
set_option linter.unusedVariables false
variable {cx : Cx} {w : World} {L : List Res} {p N : Nat} {c : MC} {fr : List FrmV} {g : FrmV} {h : HpS} {out inp : List Int} {fu : Nat} {m : Module}
theorem to_X {s : MS} {f : Fun} {t : To} {b : Block} (hb : f.blocks[t.block.toNat]? = some b) : s.to f t = QZ (s.g.rgs t.regs) fun rs => QZ (s.g.args t.args) fun vs =>
    if (rs.length : Int) ≠ b.regs ∨ vs.length ≠ b.params.length then .lost else .go (s.fr ⟨s.g.f, t.block.toNat, 0, vs, rs⟩) := by unfold MS.to; rw [hb]
theorem QmC {g' : FrmV} : (Q2l fr g).set fr.length g'.cells = Q2l fr g' := by
  unfold Q2l
  rw [List.set_append_right _ _ (by simp)]; simp
attribute [local irreducible] Frm.val Frm.num Frm.args Frm.rgs Frm.reg
theorem mto_c {f : Fun} {t : To} {cs : List Value} (hx : toR.at cx cs t) (hfn : funcR.sl cx c.fn m.funcs) (hi : intR.sl cx c.iv inp) (hfx : m.funcs[g.f]? = some f) (hb0 : 0 ≤ t.block) (hb1 : t.block < f.blocks.length) (h6 : t.regs.length ≤ 100) (h8 : t.args.length ≤ 100) (hf : fr.length ≤ 1000) (hS : St cx w (mS p c fr g N h out L)) :
    Fins Try.prog Q4Z [.pointer (some ⟨p, 0, none⟩), .agg ⟨cs⟩] w (GoS p c N fu ((msOf h g fr inp out fu).to f t) cx L) (BadS p c N h out ((msOf h g fr inp out fu).to f t) cx L) := by
  obtain ⟨vr, va, rfl, hr, ha⟩ := Qer hx
  have hfl := hfn.len
  have hgf := (List.getElem?_eq_some_iff.1 hfx).1
  unfold Fins GoS BadS
  all_goals refine Q9o ?_
  all_goals (unfold ideal_Machine_to_lc; refine Q0 ?_; refine Q1 ?_; refine zb hS ?_; intro p3 w1 hS; refine zn ?_; refine Q0 ?_; have hS : St cx _ (mS p c fr g N h out (blk p3 46 [.int .i64 t.block, vr, va] :: L)) := hS.sp; refine Q1 ?_; refine zm ?_; refine zR1 (c := Q5v hf hS) (h := ?_); rintro v1 w1 ⟨b9, o9, rfl, hel, hS⟩; refine zm ?_; refine zn ?_; refine Q0 ?_; refine zC [(0, none), (1, none), (2, none), (3, none), (4, none), (5, none), (6, none), (7, none), (8, none), (9, none), (10, none), (11, none), (12, none), (13, none), (14, none), (15, none), (16, some (some [4, 8, 11, 13, 15])), (17, some none)] ?_; have hS := hS.drew; refine s_cq ?_; refine zm ?_; refine zt ?_; refine s_cq ?_; refine znc ?_; refine zt ?_; refine s_cq ?_; refine zf0 ?_; refine zt ?_; refine s_cq ?_; (first | refine zf0 ?_ | refine zfd ?_); refine zt ?_; refine s_cq ?_; refine zl hS ?_; refine zt ?_; refine s_cq ?_; refine zm ?_; refine zt ?_; refine s_cq ?_; refine znc ?_; refine zt ?_; refine s_cq ?_; (first | refine zf0 ?_ | refine zfd ?_); refine zt ?_; refine s_cq ?_; refine Q4E hS hel rfl fd (Qa fr g) (Qe fr g) rfl ?_; refine zt ?_; refine s_cq ?_; refine zi ?_; intro b8 o8 cs8 x8 hat8 hx8 he8; obtain rfl : x8 = f := Option.some.inj (hx8.symm.trans hfx); obtain ⟨vp8, vr8, vb8, rfl, hp8, hr8, hb8⟩ := QW he8)
  all_goals (refine zt ?_; refine s_cq ?_; (first | refine zf0 ?_ | refine zfd ?_); refine zt ?_; refine s_cq ?_; (first | (refine zl hS ?_) | (refine zlk hS ?_) | (refine zlj hS ?_)); refine zt ?_; refine s_cq ?_; refine zf0 ?_; refine zt ?_; refine s_cq ?_; refine zl hS ?_; refine zt ?_; refine s_cq ?_; ((first | refine zi ?_ | refine zj ?_); intro b1 o1 cs1 x1 hat1 hx1 he1; obtain ⟨vp1, vc1, ve11, ve12, ve13, ve14, ve15, rfl, hp1, hc1, he11, he12, he13, he14, he15⟩ := Q3m he1); refine zt ?_; refine s_cq ?_; (first | (refine zv hS ?_) | (refine zvk hS ?_)); refine zt ?_; refine Qi ?_; refine Q8 hS ?_; intro p5 w1 hS; refine zt ?_; refine ⟨List.forall_mem_cons.2 ⟨(by first | (exact QP hS hel rfl fd (Qa fr g) (Qe fr g) rfl) | (exact Q3T hS rfl fd rfl)), List.forall_mem_cons.2 ⟨(by (exact QP hS hel rfl fd (Qa fr g) (Qe fr g) rfl)), List.forall_mem_cons.2 ⟨(by first | (exact QP hS hel rfl fd (Qa fr g) (Qe fr g) rfl) | (exact Q3T hS rfl fd rfl) | (exact Qak hS (by assumption) rfl rfl) | (exact Qal hS (by assumption) rfl rfl)), List.forall_mem_cons.2 ⟨(by first | (exact QP hS hel rfl fd (Qa fr g) (Qe fr g) rfl) | (exact Q3T hS rfl fd rfl)), List.forall_mem_cons.2 ⟨(by first | (exact QP hS hel rfl fd (Qa fr g) (Qe fr g) rfl) | (exact Qaj hS rfl fd rfl rfl) | (exact Q7N hS (by assumption) rfl rfl rfl)), fun _ h => (List.not_mem_nil h).elim⟩⟩⟩⟩⟩, ?_⟩)
  all_goals (refine s_cf ?_; refine zsn hS ?_; intro w1 hS; have hS := hS.ns; refine zt ?_; refine zcn ?_; refine Q0 ?_; have hX := to_X (s := msOf h g fr inp out fu) hx1; refine zC [(0, none), (1, none), (2, none), (4, none), (5, none), (6, none), (3, some (some [6])), (7, some none), (8, none), (9, some none)] ?_; have hS := hS.drew; refine s_cq ?_; refine zm ?_; refine zt ?_; refine s_cq ?_; refine zf0 ?_; refine zt ?_; refine s_cq ?_; refine zl hS ?_; refine zt ?_; refine s_cq ?_; refine zm ?_; refine zt ?_; refine s_cq ?_; refine zf0 ?_; refine zt ?_; refine s_cq ?_; refine zl hS ?_; refine zt ?_; refine Qi ?_; refine zE2 (c := regs_c (by omega) hf hr (show St cx _ (mL p c fr g _) from hS.sp)) (p := by rintro u9 w9 ⟨hrs, rfl, hS⟩; (repeat (first | refine Qc ?_ | refine Qd ?_ | refine fun _ => ?_)); refine Qp ?_; refine .inr ⟨_, rfl, ?_⟩; exact .inl ⟨hX.trans (QF hrs), rfl, hS.sp⟩) (h := ?_); rintro u1 w2 ⟨rs, hrs, hrl, ho1, hS⟩; obtain ⟨a1, n1, rfl⟩ := hS.shape (i := 5) rfl; refine zt ?_; refine ⟨List.forall_mem_cons.2 ⟨(by first | (exact QP hS hel rfl fd (Qa fr g) (Qe fr g) rfl) | (exact Q3T hS rfl fd rfl)), fun _ h => (List.not_mem_nil h).elim⟩, ?_⟩)
  all_goals (refine s_cf ?_; refine zE2 (c := Qiq (by omega) hf ha (show St cx _ (mL p c fr g _) from hS.sp)) (p := by rintro u9 w9 ⟨hvs, rfl, hS⟩; (repeat (first | refine Qc ?_ | refine Qd ?_ | refine fun _ => ?_)); refine Qp ?_; refine .inr ⟨_, rfl, ?_⟩; exact .inl ⟨hX.trans ((Q4 hrs).trans (QF hvs)), rfl, hS.sp⟩) (h := ?_); rintro u2 w2 ⟨vs, hvs, hvl, ho2, hS⟩; obtain ⟨a2, n2, rfl⟩ := hS.shape (i := 5) rfl; refine zt ?_; refine s_cq ?_; refine zm ?_; refine zt ?_; refine s_cf ?_; refine zm ?_; refine zt ?_; refine zcn ?_; refine Q0 ?_; refine Q1 ?_; refine zm ?_; (first | (refine zL ?_) | (refine zLe hS ?_)); refine zf0 ?_; refine zl hS ?_)
  all_goals (first | (refine Qx ?_) | (refine QE ?_) | (refine Qb rfl rfl (fun hc => ?_) (fun hc => ?_)))
  all_goals (refine zm ?_; (first | refine zgn ?_ | (refine zgy ?_; refine zm ?_)); (first | refine zgn ?_ | (refine zgy ?_; (first | (refine zL ?_) | (refine zLe hS ?_)))); (first | refine zgn ?_ | (refine zgy ?_; refine zf0 ?_)); (first | refine zgn ?_ | (refine zgy ?_; refine zl hS ?_)); (first | refine zgn ?_ | (refine zgy ?_; refine zL ?_)))
  all_goals (first | refine zgn ?_ | (refine zgy ?_; (first | (refine Qx ?_) | (refine QE ?_) | (refine Qb rfl rfl (fun hc => ?_) (fun hc => ?_)))))
  all_goals ((first | (refine zpt ?_) | (refine zpf ?_)))
  all_goals (first | (refine zR1 (c := Q2C hS) (h := ?_); rintro v1 w1 ⟨rfl, hS⟩) | (refine zE1 (c := Q2K hS) (p := by rintro v9 w9 ⟨rfl, hS⟩; (repeat (first | refine Qc ?_ | refine Qd ?_ | refine fun _ => ?_)); refine Qp ?_; refine .inr ⟨_, rfl, ?_⟩; first | (exact .inl ⟨hX.trans ((Q4 hrs).trans ((Q4 hvs).trans (if_pos (by omega)))), rfl, hS.sp⟩)) (h := fun _ _ h => h.elim)))
  all_goals (refine zn ?_; refine zD [(0, none), (1, none), (2, none), (3, none), (4, none), (5, none), (6, none), (7, none), (8, none), (9, none), (10, none), (11, some none)] ?_; have hS := hS.drew; refine zm ?_; refine zm ?_; refine znc ?_; (first | refine zf0 ?_ | refine zfd ?_); refine Q4E hS hel rfl fd (Qa fr g) (Qe fr g) rfl ?_; refine zf0 ?_; refine zl hS ?_; refine zm ?_; refine zm ?_; refine zb4 [_, _, _, _, _] ?_; refine znc ?_; refine QaR (css' := Q2l fr ⟨g.f, t.block.toNat, 0, .slice a2 (vs.map Val.cells).length n2, vs, .slice a1 (Qs rs).length n1, rs⟩) hS hel rfl vw (by rfl) fd (Qa fr g) (Qe fr g) rfl (by simp [oneC, ho1, ho2]) (by rw [show Value.int .i64 t.block = .int .i64 ((t.block.toNat : Nat) : Int) by rw [Int.toNat_of_nonneg hb0]]; exact QmC (g' := ⟨g.f, t.block.toNat, 0, .slice a2 (vs.map Val.cells).length n2, vs, .slice a1 (Qs rs).length n1, rs⟩)) ?_; intro w8 hS; have hS := hS.ns; refine zn ?_; refine QG ?_; exact .inl ⟨_, rfl, c.lv, c.iv, c.ov, fr, ⟨g.f, t.block.toNat, 0, .slice a2 (vs.map Val.cells).length n2, vs, .slice a1 (Qs rs).length n1, rs⟩, N, h, inp, out, hX.trans ((Q4 hrs).trans ((Q4 hvs).trans (if_neg (by omega)))), hi, by omega, rfl, hS.sp⟩)
end Go.Proofs.Yteflkifmgnpbhaa
namespace Go.Lir
theorem ret_l {s : MS} {f : Fun} {e : Tail} (h : s.g.args e.args = none) : s.ret f e = .lost := by unfold MS.ret; exact QF h
theorem ret_n {s : MS} {f : Fun} {e : Tail} {vs : List Val} (h : s.g.args e.args = some vs) (hl : vs.length ≠ f.results.length) : s.ret f e = .lost := by unfold MS.ret; rw [Q4 h, if_pos hl]
theorem ret_k {s : MS} {f : Fun} {e : Tail} {vs : List Val} {c : Frm} {st : List Frm} (h : s.g.args e.args = some vs) (hl : vs.length = f.results.length) (hs : s.st = c :: st) : s.ret f e = .go ((⟨s.h, c, st, s.inp, s.out, s.fuel⟩ : MS).put vs) := by
  unfold MS.ret; rw [Q4 h, if_neg (fun hn => hn hl), hs]
theorem ret_d {s : MS} {f : Fun} {e : Tail} {vs : List Val} {ns : List Int} (h : s.g.args e.args = some vs) (hl : vs.length = f.results.length) (hs : s.st = []) (hn : intsV vs = some ns) : s.ret f e = .done ns := by
  unfold MS.ret; rw [Q4 h, if_neg (fun hn => hn hl), hs]; dsimp only; rw [hn]
theorem ret_b {s : MS} {f : Fun} {e : Tail} {vs : List Val} (h : s.g.args e.args = some vs) (hl : vs.length = f.results.length) (hs : s.st = []) (hn : intsV vs = none) : s.ret f e = .lost := by
  unfold MS.ret; rw [Q4 h, if_neg (fun hn => hn hl), hs]; dsimp only; rw [hn]
theorem ints_y {v : Val} {l : List Val} (h : v.kind = 1) : intsV (v :: l) = (intsV l).map fun r => v.n :: r := by
  rw [intsV]
  cases intsV l with
  | none => rfl
  | some ns => exact if_pos h
theorem ints_n {v : Val} {l : List Val} (h : v.kind ≠ 1) : intsV (v :: l) = none := by
  rw [intsV]
  cases intsV l with
  | none => rfl
  | some ns => exact if_neg h
theorem QmY {vs : List Val} {q : Nat} {v : Val} {ns : List Int} (hd : intsV vs = (intsV (vs.drop q)).map fun r => ns ++ r) (hx : vs[q]? = some v) (hk : v.kind = 1) : intsV vs = (intsV (vs.drop (q + 1))).map fun r => (ns ++ [v.n]) ++ r := by
  rw [hd, Qj hx, ints_y hk]
  cases intsV (vs.drop (q + 1)) with
  | none => rfl
  | some r => simp
theorem ints_bad {vs : List Val} {q : Nat} {v : Val} {ns : List Int} (hd : intsV vs = (intsV (vs.drop q)).map fun r => ns ++ r) (hx : vs[q]? = some v) (hk : v.kind ≠ 1) : intsV vs = none := by
  rw [hd, Qj hx, ints_n hk]; rfl
theorem ints_end {vs : List Val} {q : Nat} {ns : List Int} (hd : intsV vs = (intsV (vs.drop q)).map fun r => ns ++ r) (hq : vs.length ≤ q) : intsV vs = some ns := by
  rw [hd, List.drop_of_length_le hq, intsV]; simp
theorem ints_0 {vs : List Val} : intsV vs = (intsV (vs.drop 0)).map fun r => [] ++ r := by
  rw [List.drop_zero]; cases intsV vs <;> rfl
end Go.Lir
namespace Go.Proofs.Yteflkifmgnpbhaa
open Go.Lir
set_option maxHeartbeats 1000000
attribute [local irreducible] LC.wp Q2 Qy QD retQ Q1n LO.wp Ql Calls
set_option linter.unusedSimpArgs false
set_option linter.unusedVariables false
variable {cx : Cx} {w : World} {L : List Res} {p N : Nat} {c : MC} {fr : List FrmV} {g : FrmV} {h : HpS} {out inp : List Int} {fu : Nat} {m : Module}
/-- The run came to its end. -/
def DoneS (p : Nat) (c : MC) (N : Nat) (h : HpS) (out : List Int) (X : Stp) (cx : Cx) (L : List Res) (u : Value) (w' : World) : Prop :=
  ∃ ns bv fr' g', X = .done ns ∧ u = .tuple #[] ∧ St cx w' (mS p ⟨c.hp, c.fn, c.lv, c.iv, c.e, bv, c.ov, c.fu, c.mo, true, c.c, c.a⟩ fr' g' N h out (sl 2 1 bv (Qs ns) :: L))
attribute [local irreducible] Frm.val Frm.num Frm.args Frm.rgs Frm.reg intsV
theorem mret_0 {f : Fun} {e : Tail} {cs : List Value} (hx : endR.at cx cs e) (hfn : funcR.sl cx c.fn m.funcs) (hfx : m.funcs[g.f]? = some f) (h8 : e.args.length ≤ 100) (hS : St cx w (mS p c [] g N h out L)) :
    Fins Try.prog Q1T [.pointer (some ⟨p, 0, none⟩), .agg ⟨cs⟩] w (fun u w' => DoneS p c N h out ((msOf h g [] inp out fu).ret f e) cx L u w') (BadS p c N h out ((msOf h g [] inp out fu).ret f e) cx L) := by
  obtain ⟨v1, v2, v3, v4, v5, rfl, k1, k2, k3, k4, k5⟩ := Qe5 hx
  have hfl := hfn.len
  have hgf := (List.getElem?_eq_some_iff.1 hfx).1
  have hf0 : ([] : List FrmV).length ≤ 1000 := by simp
  unfold Fins BadS DoneS
  all_goals refine Q3b ?_
  all_goals (unfold ideal_Machine_ret_lc; refine Q0 ?_; refine Q1 ?_; refine zb hS ?_; intro p3 w1 hS; refine zn ?_; refine Q0 ?_; have hS : St cx _ (mS p c [] g N h out (blk p3 48 [.int .i64 e.op, .int .i64 e.a, .int .i64 e.yes.block, v1, v2, .int .i64 e.no.block, v3, v4, v5] :: L)) := hS.sp; refine Q1 ?_; refine zm ?_; refine zf0 ?_; refine zl hS ?_; refine zE2 (c := Qiq (by omega) hf0 k5 (show St cx _ (mL p c [] g _) from hS.sp)) (p := by rintro u9 w9 ⟨hvs, rfl, hS⟩; (repeat (first | refine Qc ?_ | refine Qd ?_ | refine fun _ => ?_)); refine Qp ?_; refine .inr ⟨_, rfl, ?_⟩; exact .inl ⟨ret_l hvs, rfl, hS.sp⟩) (h := ?_); rintro u2 w2 ⟨vs, hvs, hvl, ho2, hS⟩; obtain ⟨a2, n2, rfl⟩ := hS.shape (i := 5) rfl; refine zm ?_; refine zn ?_; refine Q0 ?_; refine zC [(0, none), (1, none), (2, none), (3, none), (4, none), (5, none), (6, none), (7, none), (8, some (some [6])), (9, none), (10, none), (11, none), (12, none), (13, none), (14, none), (15, none), (16, none), (17, some none)] ?_; have hS := hS.drew; refine s_cq ?_; refine zm ?_; refine zt ?_; refine s_cq ?_; (first | (refine zL ?_) | (refine zLe hS ?_)); refine zt ?_; refine s_cq ?_; refine zm ?_; refine zt ?_; refine s_cq ?_; refine znc ?_; refine zt ?_; refine s_cq ?_; refine zf0 ?_)
  all_goals (refine zt ?_; refine s_cq ?_; (first | refine zf0 ?_ | refine zfd ?_); refine zt ?_; refine s_cq ?_; refine zl hS ?_; refine zt ?_; refine s_cq ?_; refine zm ?_; refine zt ?_; refine Qi ?_; refine zR1 (c := Q5v hf0 (show St cx _ (mL p c [] g _) from hS.sp)) (h := ?_); rintro v9 w1 ⟨b9, o9, rfl, hel, hS⟩; refine zt ?_; refine zy ?_; refine s_cq ?_; refine znc ?_; refine zt ?_; refine s_cq ?_; (first | refine zf0 ?_ | refine zfd ?_); refine zt ?_; refine s_cq ?_; refine Q4E hS hel rfl fd (Qa [] g) (Qe [] g) rfl ?_; refine zt ?_; refine s_cq ?_; refine zi ?_; intro b8 o8 cs8 x8 hat8 hx8 he8; obtain rfl : x8 = f := Option.some.inj (hx8.symm.trans hfx); obtain ⟨vp8, vr8, vb8, rfl, hp8, hr8, hb8⟩ := QW he8; refine zt ?_; refine s_cq ?_; (first | refine zf0 ?_ | refine zfd ?_); refine zt ?_; refine s_cq ?_; (first | (refine zl hS ?_) | (refine zlk hS ?_) | (refine zlj hS ?_)); refine zt ?_; refine s_cq ?_; refine zL ?_; refine zt ?_; refine s_cq ?_)
  all_goals (first | (refine Qx ?_) | (refine QE ?_) | (refine Qb rfl rfl (fun hc => ?_) (fun hc => ?_)))
  all_goals (refine zt ?_; refine s_cf ?_)
  all_goals (first | (refine zR1 (c := Q2C hS) (h := ?_); rintro v1 w1 ⟨rfl, hS⟩) | (refine zE1 (c := Q2K hS) (p := by rintro v9 w9 ⟨rfl, hS⟩; (repeat (first | refine Qc ?_ | refine Qd ?_ | refine fun _ => ?_)); refine Qp ?_; refine .inr ⟨_, rfl, ?_⟩; first | (exact .inl ⟨ret_n hvs (by omega), rfl, hS.sp⟩)) (h := fun _ _ h => h.elim)))
  all_goals (refine zt ?_; refine zcn ?_; refine Q0 ?_; refine Q0 ?_; refine Q1 ?_; refine zm ?_; refine znc ?_; refine zf0 ?_; refine zl hS ?_; refine Q2h hS vw fd (show (Q2l [] g).length = 1 from rfl) ?_)
  all_goals (first | (refine QQ ?_) | (refine Q1c ?_))
  all_goals (refine zn ?_)
  all_goals refine zcf ?_
  all_goals (refine zsk ?_; refine Q0 ?_; refine Q1 ?_; refine zm ?_; refine zn ?_; refine Q0 ?_; refine Q0 ?_; refine Q1 ?_; refine zm ?_; (first | (refine zL ?_) | (refine zLe hS ?_)); refine zm ?_; refine zn ?_; refine Qh ?_; have hS := hS.nil (T := 2) (es := 1))
  refine zo [0, 53, 54] (fun A ρ' w' => ∃ (q : Nat) (vo : Value) (ns : List Int), Has ρ' A ∧ Has ρ' [(5, vo), (55, .int .i64 q)] ∧ (q ≤ vs.length) ∧ (ns.length = q) ∧ (oneC vo = true) ∧ (intsV vs = (intsV (vs.drop q)).map fun r => ns ++ r) ∧ St cx w' (sl 2 1 vo (Qs ns) :: sl 108 4 (.slice a2 (vs.map Val.cells).length n2) (vs.map Val.cells) :: mS p c [] g N h out L)) (fun ρ' _ => (vs.length - iv (ρ' 55)).toNat) ?_ ?_
  · exact ⟨0, .slice none 0 0, [], zh, zh, (by omega), rfl, rfl, ints_0, hS.sp⟩
  rintro ρ w1 ⟨q, vo, ns, hA, hρ, hq, hol, hvo, hd, hS⟩; obtain ⟨ρ, rfl⟩ := env2 hA hρ
  unfold Q3c
  all_goals (refine Q0 ?_; refine Q1 ?_; refine Q1h rfl rfl ?_; refine zn ?_; refine Q0 ?_)
  refine Q1g rfl (fun hc => ?_) (fun hc => ?_)
  · skip
    all_goals (refine zsk ?_; refine Q0 ?_; refine Qh ?_; refine Q0 ?_; refine Q1 ?_; obtain ⟨v9, hv9⟩ : ∃ v, vs[q]? = some v := ⟨_, List.getElem?_eq_getElem (by omega)⟩; refine Qcp hS vw rfl (i := 1) rfl (by rw [List.length_map]; omega) ?_; intro b7 o7 hel7; refine Qhu hS hel7 rfl (i := 1) rfl rfl (show (vs.map Val.cells)[q]? = some v9.cells by rw [List.getElem?_map, hv9]; rfl) ?_; unfold Val.cells; refine Q8 hS ?_; intro p7 w1 hS; refine zsn hS ?_; intro w1 hS; have hS := hS.ns; refine zn ?_; refine Q0 ?_; refine Q1 ?_; refine zf0 ?_; refine zl hS ?_)
    all_goals (first | (refine Qx ?_) | (refine QE ?_) | (refine Qb rfl rfl (fun hc => ?_) (fun hc => ?_)))
    all_goals (first | (refine zR1 (c := Q2C hS) (h := ?_); rintro v1 w1 ⟨rfl, hS⟩) | (refine zE1 (c := Q2K hS) (p := by rintro v9 w9 ⟨rfl, hS⟩; (repeat (first | refine Qc ?_ | refine Qd ?_ | refine fun _ => ?_)); refine Qp ?_; refine .inr ⟨_, rfl, ?_⟩; first | (first | exact .inl ⟨ret_n hvs (by omega), rfl, hS.sp⟩ | exact .inl ⟨ret_b hvs (by omega) rfl (ints_bad hd hv9 (by omega)), rfl, hS.sp⟩)) (h := fun _ _ h => h.elim)))
    all_goals (refine zn ?_; refine Q1 ?_; refine zm ?_; refine zf0 ?_; refine zl hS ?_; refine zB1 hS [_] ?_; intro b1 w1 hS; refine Q3w QgX (.inl Qma) hS vw vw (i := 2) rfl (hS.srcB (i := 0) rfl (by rfl) (by simp [oneC])) (by rw [List.length_map]; simp only [List.length_cons, List.length_nil]; omega) ?_; intro v7 w7 hS; have hS := hS.ns; have ho7 := hS.oneC (i := 2) rfl; refine zm ?_; refine zn ?_; refine Q1 ?_; refine zad ?_; refine zm ?_; refine zn ?_; exact ⟨⟨q + 1, v7, ns ++ [v9.n], zh, zh, (by omega), by rw [List.length_append, hol]; rfl, ho7, QmY hd hv9 (by omega), by rw [Qs, List.map_append]; exact hS.sp⟩, Q1j (by omega)⟩)
  · skip
    all_goals (refine zex ?_; refine Q0 ?_; refine Q1 ?_; refine zm ?_; refine zm ?_; refine znc ?_; refine zf0 ?_; (first | refine zf0 ?_ | refine zfd ?_); refine zst hS ?_; intro w1 hS; have hS := hS.ns; refine zn ?_; refine Q1 ?_; refine zm ?_; refine znc ?_; refine zf0 ?_; refine zst hS ?_; intro w1 hS; have hS := hS.ns; refine zn ?_; refine QG ?_; exact .inl ⟨_, rfl, ns, vo, [], g, ret_d hvs (by omega) rfl (ints_end hd (by omega)), rfl, hS.sp⟩)
theorem rows_cut {k : FrmV} : ((Q2l (fr ++ [k]) g).take (fr ++ [k]).length).drop 0 = Q2l fr k := by
  unfold Q2l
  rw [List.drop_zero, List.take_append_of_le_length (by simp), List.take_of_length_le (by simp), List.map_append]; rfl
theorem big_k {k : FrmV} (hS : St cx w (big FrmV.res (fr ++ [k]) :: L)) : St cx w (sl 108 4 k.vv (k.vals.map Val.cells) :: sl 3 1 k.rv (Qs k.regs) :: big FrmV.res fr :: L) := by
  have h1 := hS.bigOut (i := 0) (k := fr.length) (x := k) rfl (by simp)
  have h2 : (fr ++ [k]).eraseIdx fr.length = fr := by rw [List.eraseIdx_append_of_length_le (Nat.le_refl _)]; simp
  rw [List.set_cons_zero, h2] at h1
  exact St.star h1
theorem mret_1 {f : Fun} {e : Tail} {cs : List Value} {k : FrmV} (hx : endR.at cx cs e) (hfn : funcR.sl cx c.fn m.funcs) (hi : intR.sl cx c.iv inp) (hfx : m.funcs[g.f]? = some f) (h8 : e.args.length ≤ 100) (hf : fr.length ≤ 900) (hn : k.vals.length ≤ 900000) (hS : St cx w (mS p c (fr ++ [k]) g N h out L)) :
    Fins Try.prog Q1T [.pointer (some ⟨p, 0, none⟩), .agg ⟨cs⟩] w (GoS p c N fu ((msOf h g (fr ++ [k]) inp out fu).ret f e) cx L) (BadS p c N h out ((msOf h g (fr ++ [k]) inp out fu).ret f e) cx L) := by
  obtain ⟨v1, v2, v3, v4, v5, rfl, k1, k2, k3, k4, k5⟩ := Qe5 hx
  have hfl := hfn.len
  have hgf := (List.getElem?_eq_some_iff.1 hfx).1
  have hl1 : (fr ++ [k]).length = fr.length + 1 := by simp
  have hf0 : (fr ++ [k]).length ≤ 1000 := by omega
  have hst : (msOf h g (fr ++ [k]) inp out fu).st = k.abs :: (fr.map FrmV.abs).reverse := by unfold msOf; simp
  unfold Fins BadS GoS
  all_goals refine Q3b ?_
  all_goals (unfold ideal_Machine_ret_lc; refine Q0 ?_; refine Q1 ?_; refine zb hS ?_; intro p3 w1 hS; refine zn ?_; refine Q0 ?_; have hS : St cx _ (mS p c (fr ++ [k]) g N h out (blk p3 48 [.int .i64 e.op, .int .i64 e.a, .int .i64 e.yes.block, v1, v2, .int .i64 e.no.block, v3, v4, v5] :: L)) := hS.sp; refine Q1 ?_; refine zm ?_; refine zf0 ?_; refine zl hS ?_; refine zE2 (c := Qiq (by omega) hf0 k5 (show St cx _ (mL p c (fr ++ [k]) g _) from hS.sp)) (p := by rintro u9 w9 ⟨hvs, rfl, hS⟩; (repeat (first | refine Qc ?_ | refine Qd ?_ | refine fun _ => ?_)); refine Qp ?_; refine .inr ⟨_, rfl, ?_⟩; exact .inl ⟨ret_l hvs, rfl, hS.sp⟩) (h := ?_); rintro u2 w2 ⟨vs, hvs, hvl, ho2, hS⟩; obtain ⟨a2, n2, rfl⟩ := hS.shape (i := 5) rfl; refine zm ?_; refine zn ?_; refine Q0 ?_; refine zC [(0, none), (1, none), (2, none), (3, none), (4, none), (5, none), (6, none), (7, none), (8, some (some [6])), (9, none), (10, none), (11, none), (12, none), (13, none), (14, none), (15, none), (16, none), (17, some none)] ?_; have hS := hS.drew; refine s_cq ?_; refine zm ?_; refine zt ?_; refine s_cq ?_; (first | (refine zL ?_) | (refine zLe hS ?_)); refine zt ?_; refine s_cq ?_; refine zm ?_; refine zt ?_; refine s_cq ?_; refine znc ?_; refine zt ?_; refine s_cq ?_; refine zf0 ?_)
  all_goals (refine zt ?_; refine s_cq ?_; (first | refine zf0 ?_ | refine zfd ?_); refine zt ?_; refine s_cq ?_; refine zl hS ?_; refine zt ?_; refine s_cq ?_; refine zm ?_; refine zt ?_; refine Qi ?_; refine zR1 (c := Q5v hf0 (show St cx _ (mL p c (fr ++ [k]) g _) from hS.sp)) (h := ?_); rintro v9 w1 ⟨b9, o9, rfl, hel, hS⟩; refine zt ?_; refine zy ?_; refine s_cq ?_; refine znc ?_; refine zt ?_; refine s_cq ?_; (first | refine zf0 ?_ | refine zfd ?_); refine zt ?_; refine s_cq ?_; refine Q4E hS hel rfl fd (Qa (fr ++ [k]) g) (Qe (fr ++ [k]) g) rfl ?_; refine zt ?_; refine s_cq ?_; refine zi ?_; intro b8 o8 cs8 x8 hat8 hx8 he8; obtain rfl : x8 = f := Option.some.inj (hx8.symm.trans hfx); obtain ⟨vp8, vr8, vb8, rfl, hp8, hr8, hb8⟩ := QW he8; refine zt ?_; refine s_cq ?_; (first | refine zf0 ?_ | refine zfd ?_); refine zt ?_; refine s_cq ?_; (first | (refine zl hS ?_) | (refine zlk hS ?_) | (refine zlj hS ?_)); refine zt ?_; refine s_cq ?_; refine zL ?_; refine zt ?_; refine s_cq ?_)
  all_goals (first | (refine Qx ?_) | (refine QE ?_) | (refine Qb rfl rfl (fun hc => ?_) (fun hc => ?_)))
  all_goals (refine zt ?_; refine s_cf ?_)
  all_goals (first | (refine zR1 (c := Q2C hS) (h := ?_); rintro v1 w1 ⟨rfl, hS⟩) | (refine zE1 (c := Q2K hS) (p := by rintro v9 w9 ⟨rfl, hS⟩; (repeat (first | refine Qc ?_ | refine Qd ?_ | refine fun _ => ?_)); refine Qp ?_; refine .inr ⟨_, rfl, ?_⟩; first | (exact .inl ⟨ret_n hvs (by omega), rfl, hS.sp⟩)) (h := fun _ _ h => h.elim)))
  all_goals (refine zt ?_; refine zcn ?_; refine Q0 ?_; refine Q0 ?_; refine Q1 ?_; refine zm ?_; refine znc ?_; refine zf0 ?_; refine zl hS ?_; refine Q2h (n := fr.length + 2) hS vw fd (by rw [Qa]; omega) ?_)
  all_goals (refine QQ ?_)
  all_goals (refine zn ?_)
  all_goals refine zct ?_
  all_goals (refine Q0 ?_; refine zD [(0, none), (1, none), (2, none), (3, none), (4, none), (5, none), (6, none), (7, none), (8, none), (9, none), (10, none), (11, none), (12, none), (13, none), (14, some none)] ?_; have hS := hS.drew; refine zm ?_; refine zm ?_; refine znc ?_; refine zf0 ?_; refine zl hS ?_; refine zm ?_; refine znc ?_; refine zf0 ?_; refine zl hS ?_; refine Q2h (n := fr.length + 2) hS vw fd (by rw [Qa]; omega) ?_; refine Qiw rfl rfl (by omega) (by omega) ?_; rw [show ((fr.length + 2 : Nat) : Int) - 1 = (((fr ++ [k]).length : Nat) : Int) by omega]; refine s_subE (l' := 0) (h' := (fr ++ [k]).length) hS vw (i := 1) rfl rfl ⟨_, rfl⟩ rfl (by rw [Qa]; omega) (by omega) ?_; intro v7 hS; rw [rows_cut] at hS; have hS := hS.ns; have ho7 := hS.oneC (i := 1) rfl; refine znc ?_; refine zf0 ?_; refine zst hS ?_; intro w1 hS; have hS := hS.ns; refine zn ?_; refine Q0 ?_; refine Q1 ?_; refine zm ?_; refine zm ?_; have hS := big_k (fr := fr) (k := k) (L := blk p 74 _ :: sl 70 5 v7 (Q2l fr k) :: sl 108 4 (.slice a2 _ n2) _ :: Q1D N c.hp h :: sl 2 1 c.ov (Qs out) :: L) hS.sp; have hS : St cx _ (mL p (c.upd v7 c.iv c.ov) fr k (sl 108 4 (.slice a2 (vs.map Val.cells).length n2) (vs.map Val.cells) :: Q1D N c.hp h :: sl 2 1 c.ov (Qs out) :: L)) := hS.sp; refine zR2 (c := Q7U (j := 0) (vs := vs) (by omega) (by omega) hS rfl) (h := ?_); rintro u1 w1 ⟨tv, rfl, hS⟩)
  all_goals (refine zn ?_; refine zr ?_; refine q_ret0 ?_; exact .inl ⟨_, rfl, v7, c.iv, c.ov, fr, k.push tv vs, N, h, inp, out, ret_k hvs (by omega) hst, hi, by omega, rfl, hS.sp⟩)
end Go.Proofs.Yteflkifmgnpbhaa
namespace Go.Proofs.Yteflkifmgnpbhaa
open Go.Lir
set_option maxHeartbeats 1000000
attribute [local irreducible] LC.wp Q2 Qy QD retQ Q1n LO.wp Ql Calls
set_option linter.unusedSimpArgs false
set_option linter.unusedVariables false
variable {cx : Cx} {w : World} {L : List Res} {p N : Nat} {c : MC} {fr : List FrmV} {g : FrmV} {h : HpS} {out inp : List Int} {fu : Nat} {m : Module}
/-- A step went well, or the run came to its end. -/
def OkS (p : Nat) (c : MC) (N : Nat) (h : HpS) (out : List Int) (fu : Nat) (X : Stp) (cx : Cx) (L : List Res) (u : Value) (w' : World) : Prop := GoS p c N fu X cx L u w' ∨ DoneS p c N h out X cx L u w'
theorem mret_c {f : Fun} {e : Tail} {cs : List Value} (hx : endR.at cx cs e) (hfn : funcR.sl cx c.fn m.funcs) (hi : intR.sl cx c.iv inp) (hfx : m.funcs[g.f]? = some f) (h8 : e.args.length ≤ 100) (hf : fr.length ≤ 900) (hn : ∀ x ∈ fr, x.vals.length ≤ 900000) (hS : St cx w (mS p c fr g N h out L)) :
    Fins Try.prog Q1T [.pointer (some ⟨p, 0, none⟩), .agg ⟨cs⟩] w (OkS p c N h out fu ((msOf h g fr inp out fu).ret f e) cx L) (BadS p c N h out ((msOf h g fr inp out fu).ret f e) cx L) := by
  rcases List.eq_nil_or_concat fr with rfl | ⟨fr0, k, hk⟩
  · exact (mret_0 hx hfn hfx h8 hS).mono (fun _ _ h => .inr h) (fun _ _ h => h)
  · obtain rfl : fr = fr0 ++ [k] := by simpa using hk
    exact (mret_1 hx hfn hi hfx h8 (by rw [List.length_append] at hf; omega) (hn k (by simp)) hS).mono (fun _ _ h => .inl h) (fun _ _ h => h)
theorem GoS.tup {X : Stp} {u : Value} (hG : GoS p c N fu X cx L u w) : u = .tuple #[] ∧ GoS p c N fu X cx L u w := ⟨by obtain ⟨lv, iv, ov, fr', g', N', h', inp', out', _, _, _, hu, _⟩ := hG; exact hu, hG⟩
theorem GoS.drop {X : Stp} {u : Value} {r : Res} (hG : GoS p c N fu X cx (r :: L) u w) : GoS p c N fu X cx L u w := by
  obtain ⟨lv, iv, ov, fr', g', N', h', inp', out', h1, h2, h3, h4, hS⟩ := hG
  exact ⟨lv, iv, ov, fr', g', N', h', inp', out', h1, h2, h3, h4, hS.sp⟩
theorem BadS.drop {X : Stp} {u : Value} {r : Res} (hB : BadS p c N h out X cx (r :: L) u w) : BadS p c N h out X cx L u w := by
  rcases hB with ⟨h1, h2, hS⟩ | ⟨e, h1, h2, fr', g', N', h3, hS⟩
  · exact .inl ⟨h1, h2, hS.sp⟩
  · exact .inr ⟨e, h1, h2, fr', g', N', h3, hS.sp⟩
theorem DoneS.drop {X : Stp} {u : Value} {r : Res} (hD : DoneS p c N h out X cx (r :: L) u w) : DoneS p c N h out X cx L u w := by
  obtain ⟨ns, bv, fr', g', h1, h2, hS⟩ := hD
  exact ⟨ns, bv, fr', g', h1, h2, hS.sp⟩
theorem GoS.ok {X : Stp} {u : Value} (hG : GoS p c N fu X cx L u w) : OkS p c N h out fu X cx L u w := .inl hG
theorem OkS.drop {X : Stp} {u : Value} {r : Res} (hG : OkS p c N h out fu X cx (r :: L) u w) : OkS p c N h out fu X cx L u w := hG.elim (fun h => .inl h.drop) (fun h => .inr h.drop)
theorem OkS.tup {X : Stp} {u : Value} (hG : OkS p c N h out fu X cx L u w) : u = .tuple #[] ∧ OkS p c N h out fu X cx L u w := by
  refine ⟨?_, hG⟩
  rcases hG with h | ⟨ns, bv, fr', g', h1, h2, hS⟩
  · exact h.tup.1
  · exact h2
def ToOK (f : Fun) (t : To) : Prop := (0 ≤ t.block ∧ t.block < f.blocks.length) ∧ t.regs.length ≤ 100 ∧ t.args.length ≤ 100
attribute [local irreducible] Frm.val Frm.num Frm.args Frm.rgs Frm.reg intsV MS.to MS.ret GoS BadS DoneS OkS
theorem bad_n {x : Option Int} {X : Int → Stp} (hx : x = none) (hS : St cx w (mS p c fr g N h out L)) : BadS p c N h out (QZ x X) cx L Q5w w := by
  unfold BadS; exact .inl ⟨QF hx, rfl, hS.sp⟩
theorem mend_c {f : Fun} {e : Tail} {cs : List Value} (hx : endR.at cx cs e) (hfn : funcR.sl cx c.fn m.funcs) (hi : intR.sl cx c.iv inp) (hfx : m.funcs[g.f]? = some f) (h8 : e.args.length ≤ 100) (hop : 1 ≤ e.op ∧ e.op ≤ 3) (hy : e.op ≠ 3 → ToOK f e.yes) (hno : e.op = 2 → ToOK f e.no) (hf : fr.length ≤ 900) (hn : ∀ x ∈ fr, x.vals.length ≤ 900000) (hS : St cx w (mS p c fr g N h out L)) :
    Fins Try.prog Q1V [.pointer (some ⟨p, 0, none⟩), .agg ⟨cs⟩] w (OkS p c N h out fu ((msOf h g fr inp out fu).fin f e) cx L) (BadS p c N h out ((msOf h g fr inp out fu).fin f e) cx L) := by
  obtain ⟨v1, v2, v3, v4, v5, rfl, k1, k2, k3, k4, k5⟩ := Qe5 hx
  unfold Fins
  rcases (show e.op = 1 ∨ e.op = 2 ∨ e.op = 3 by omega) with h1 | h1 | h1
  · have hX : (msOf h g fr inp out fu).fin f e = (msOf h g fr inp out fu).to f e.yes := if_pos h1
    obtain ⟨⟨y1, y2⟩, y3, y4⟩ := hy (by omega)
    rw [hX]
    all_goals refine Q29 ?_
    all_goals (unfold ideal_Machine_end_lc; refine Q0 ?_; refine Q1 ?_; refine zb hS ?_; intro p3 w1 hS; refine zn ?_; refine Q0 ?_; refine Q1 ?_; refine zf0 ?_; refine zl hS ?_; refine zn ?_; refine Qh ?_; refine Q0 ?_; have hS : St cx _ (mS p c fr g N h out (blk p3 48 [.int .i64 e.op, .int .i64 e.a, .int .i64 e.yes.block, v1, v2, .int .i64 e.no.block, v3, v4, v5] :: L)) := hS.sp; refine Q1 ?_)
    all_goals (refine Qx ?_)
    all_goals (refine zm ?_; refine zn ?_)
    all_goals refine zct ?_
    all_goals (refine Q1 ?_; refine zm ?_; refine zf0 ?_; refine zv hS ?_; refine zE2 (c := mto_c (t := e.yes) (inp := inp) (fu := fu) ⟨_, _, rfl, k1, k2⟩ hfn hi hfx y1 y2 y3 y4 (by omega) hS) (p := by rintro u9 w9 hB; (repeat (first | refine Qc ?_ | refine Qd ?_ | refine fun _ => ?_)); refine Qp ?_; refine .inr ⟨_, rfl, ?_⟩; exact hB.drop) (h := ?_); rintro u1 w2 hG; refine zn ?_; refine QG ?_; have hG := hG.drop; obtain ⟨rfl, hG⟩ := hG.tup; exact .inl ⟨_, rfl, hG.ok⟩)
  · have hX : (msOf h g fr inp out fu).fin f e = QZ (g.abs.num e.a) fun n => if n ≠ 0 then (msOf h g fr inp out fu).to f e.yes else (msOf h g fr inp out fu).to f e.no := (if_neg (by omega)).trans (if_pos h1)
    obtain ⟨⟨y1, y2⟩, y3, y4⟩ := hy (by omega)
    obtain ⟨⟨n1, n2⟩, n3, n4⟩ := hno h1
    rw [hX]
    all_goals refine Q29 ?_
    all_goals (unfold ideal_Machine_end_lc; refine Q0 ?_; refine Q1 ?_; refine zb hS ?_; intro p3 w1 hS; refine zn ?_; refine Q0 ?_; refine Q1 ?_; refine zf0 ?_; refine zl hS ?_; refine zn ?_; refine Qh ?_; refine Q0 ?_; have hS : St cx _ (mS p c fr g N h out (blk p3 48 [.int .i64 e.op, .int .i64 e.a, .int .i64 e.yes.block, v1, v2, .int .i64 e.no.block, v3, v4, v5] :: L)) := hS.sp; refine Q1 ?_)
    all_goals (first | (refine Qx ?_) | (refine QE ?_))
    all_goals (refine zm ?_; refine zn ?_)
    all_goals refine zcf ?_
    all_goals (refine Q0 ?_; refine Q1 ?_)
    all_goals (refine Qx ?_)
    all_goals (refine zm ?_; refine zn ?_)
    all_goals refine zct ?_
    all_goals (refine Q0 ?_; refine Q1 ?_; refine zm ?_; refine zf0 ?_; refine zl hS ?_; refine zE2 (c := Qb0 (by omega) hS) (p := by rintro u9 w9 ⟨hnn, rfl, hS⟩; (repeat (first | refine Qc ?_ | refine Qd ?_ | refine fun _ => ?_)); refine Qp ?_; refine .inr ⟨_, rfl, ?_⟩; exact (bad_n hnn (show St cx _ (mS p c fr g N h out _) from hS.sp)).drop) (h := ?_); rintro u1 w2 ⟨n, hnn, rfl, hS⟩; rw [Q4 hnn])
    all_goals (first | (refine Q1o ?_) | (refine Q1B ?_) | (refine Q1b rfl rfl (fun hc => ?_) (fun hc => ?_)))
    all_goals (refine zn ?_)
    all_goals
      first
      | (refine zct ?_ -- Q1V c2
         all_goals (rw [if_pos (show n ≠ 0 by omega)]; refine Q1 ?_; refine zm ?_; refine zf0 ?_; refine zv hS ?_; refine zE2 (c := mto_c (t := e.yes) (inp := inp) (fu := fu) ⟨_, _, rfl, k1, k2⟩ hfn hi hfx y1 y2 y3 y4 (by omega) hS) (p := by rintro u9 w9 hB; (repeat (first | refine Qc ?_ | refine Qd ?_ | refine fun _ => ?_)); refine Qp ?_; refine .inr ⟨_, rfl, ?_⟩; exact hB.drop) (h := ?_); rintro u1 w2 hG)
         all_goals refine zn ?_)
      | (refine zcf ?_ -- Q1V c2
         all_goals (rw [if_neg (show ¬ n ≠ 0 by omega)]; refine Q1 ?_; refine zm ?_; refine zf0 ?_; refine zv hS ?_; refine zE2 (c := mto_c (t := e.no) (inp := inp) (fu := fu) ⟨_, _, rfl, k3, k4⟩ hfn hi hfx n1 n2 n3 n4 (by omega) hS) (p := by rintro u9 w9 hB; (repeat (first | refine Qc ?_ | refine Qd ?_ | refine fun _ => ?_)); refine Qp ?_; refine .inr ⟨_, rfl, ?_⟩; exact hB.drop) (h := ?_); rintro u1 w2 hG)
         all_goals refine zn ?_)
    all_goals (refine QG ?_; have hG := hG.drop; obtain ⟨rfl, hG⟩ := hG.tup; exact .inl ⟨_, rfl, hG.ok⟩)
  · have hX : (msOf h g fr inp out fu).fin f e = (msOf h g fr inp out fu).ret f e := (if_neg (by omega)).trans (if_neg (by omega))
    rw [hX]
    all_goals refine Q29 ?_
    all_goals (unfold ideal_Machine_end_lc; refine Q0 ?_; refine Q1 ?_; refine zb hS ?_; intro p3 w1 hS; refine zn ?_; refine Q0 ?_; refine Q1 ?_; refine zf0 ?_; refine zl hS ?_; refine zn ?_; refine Qh ?_; refine Q0 ?_; have hS : St cx _ (mS p c fr g N h out (blk p3 48 [.int .i64 e.op, .int .i64 e.a, .int .i64 e.yes.block, v1, v2, .int .i64 e.no.block, v3, v4, v5] :: L)) := hS.sp; refine Q1 ?_)
    all_goals (first | (refine Qx ?_) | (refine QE ?_))
    all_goals (refine zm ?_; refine zn ?_)
    all_goals refine zcf ?_
    all_goals (refine Q0 ?_; refine Q1 ?_)
    all_goals (first | (refine Qx ?_) | (refine QE ?_))
    all_goals (refine zm ?_; refine zn ?_)
    all_goals refine zcf ?_
    all_goals (refine Q0 ?_; refine Q1 ?_)
    all_goals (refine Qx ?_)
    all_goals (refine zm ?_; refine zn ?_)
    all_goals refine zct ?_
    all_goals (refine Q1 ?_; refine zm ?_; refine zv hS ?_; refine zE2 (c := mret_c (e := e) (inp := inp) (fu := fu) hx hfn hi hfx h8 hf hn hS) (p := by rintro u9 w9 hB; (repeat (first | refine Qc ?_ | refine Qd ?_ | refine fun _ => ?_)); refine Qp ?_; refine .inr ⟨_, rfl, ?_⟩; exact hB.drop) (h := ?_); rintro u1 w2 hG; refine zn ?_; refine QG ?_; have hG := hG.drop; obtain ⟨rfl, hG⟩ := hG.tup; exact .inl ⟨_, rfl, hG⟩)
end Go.Proofs.Yteflkifmgnpbhaa
namespace Go.Lir
section
variable {m : Module} {s : MS} {x : Ins}
theorem xins_1 (h : x.op = 1) : s.ins m x = .go (s.put [intV x.n]) := by unfold MS.ins; rw [if_pos h]
theorem xins_2 (h : x.op = 2) : s.ins m x = QZ (s.g.num x.a) fun a => QZ (s.g.num x.b) fun b => if (opF x.k a b).2 = false then .halt 1 else .go (s.put [intV (opF x.k a b).1]) := by unfold MS.ins; rw [if_neg (by omega), if_pos h]
theorem xins_3 (h : x.op = 3) : s.ins m x = s.newR := by unfold MS.ins; rw [if_neg (by omega), if_neg (by omega), if_pos h]
theorem xins_4 (h : x.op = 4) : s.ins m x = QZ (s.g.val x.a) fun v => if s.h.can v = false then .lost else .go (s.hp (s.h.shut v)) := by unfold MS.ins; rw [if_neg (by omega), if_neg (by omega), if_neg (by omega), if_pos h]
theorem xins_5 (h : x.op = 5) : s.ins m x = QZ (s.g.val x.a) fun v => QZ (s.g.args x.args) fun l => s.made (s.h.code v (Q4x l)) (s.h.tuple v l) (s.h.putV v 3 (Q4x l)) := by unfold MS.ins; rw [if_neg (by omega), if_neg (by omega), if_neg (by omega), if_neg (by omega), if_pos h]
theorem xins_6 (h : x.op = 6) : s.ins m x = QZ (s.g.val x.a) fun v => if v.kind ≠ 3 then .lost else if (s.h.get v x.k).2 ≠ 0 then .lost else .go (s.put [(s.h.get v x.k).1]) := by unfold MS.ins; rw [if_neg (by omega), if_neg (by omega), if_neg (by omega), if_neg (by omega), if_neg (by omega), if_pos h]
theorem xins_7 (h : x.op = 7) : s.ins m x = QZ (s.g.val x.a) fun v => if v.kind ≠ 3 then .lost else QZ (s.g.val x.b) fun y => if s.h.setC v x.k y ≠ 0 then .lost else .go (s.hp (s.h.set v x.k y)) := by unfold MS.ins; rw [if_neg (by omega), if_neg (by omega), if_neg (by omega), if_neg (by omega), if_neg (by omega), if_neg (by omega), if_pos h]
theorem xins_9 (h : x.op = 9) : s.ins m x = QZ (s.g.val x.a) fun v => QZ (s.g.num x.b) fun n => Q55 v (s.h.get v n).2 (.go (s.put [(s.h.get v n).1])) := by unfold MS.ins; rw [if_neg (by omega), if_neg (by omega), if_neg (by omega), if_neg (by omega), if_neg (by omega), if_neg (by omega), if_neg (by omega), if_neg (by omega), if_pos h]
theorem xins_10 (h : x.op = 10) : s.ins m x = QZ (s.g.val x.a) fun v => QZ (s.g.num x.b) fun n => QZ (s.g.num x.c) fun c => Q55 v (s.h.setC v n (intV c)) (.go (s.hp (s.h.set v n (intV c)))) := by unfold MS.ins; rw [if_neg (by omega), if_neg (by omega), if_neg (by omega), if_neg (by omega), if_neg (by omega), if_neg (by omega), if_neg (by omega), if_neg (by omega), if_neg (by omega), if_pos h]
theorem xins_11 (h : x.op = 11) : s.ins m x = QZ (s.g.val x.a) fun v => Q55 v (s.h.len v).2 (.go (s.put [intV (s.h.len v).1])) := by unfold MS.ins; rw [if_neg (by omega), if_neg (by omega), if_neg (by omega), if_neg (by omega), if_neg (by omega), if_neg (by omega), if_neg (by omega), if_neg (by omega), if_neg (by omega), if_neg (by omega), if_pos h]
theorem xins_12 (h : x.op = 12) : s.ins m x = s.inS := by unfold MS.ins; rw [if_neg (by omega), if_neg (by omega), if_neg (by omega), if_neg (by omega), if_neg (by omega), if_neg (by omega), if_neg (by omega), if_neg (by omega), if_neg (by omega), if_neg (by omega), if_neg (by omega), if_pos h]
theorem xins_13 (h : x.op = 13) : s.ins m x = QZ (s.g.num x.a) fun n => s.outS n := by unfold MS.ins; rw [if_neg (by omega), if_neg (by omega), if_neg (by omega), if_neg (by omega), if_neg (by omega), if_neg (by omega), if_neg (by omega), if_neg (by omega), if_neg (by omega), if_neg (by omega), if_neg (by omega), if_neg (by omega), if_pos h]
theorem xins_14 (h : x.op = 14) : s.ins m x = s.call m x := by unfold MS.ins; rw [if_neg (by omega), if_neg (by omega), if_neg (by omega), if_neg (by omega), if_neg (by omega), if_neg (by omega), if_neg (by omega), if_neg (by omega), if_neg (by omega), if_neg (by omega), if_neg (by omega), if_neg (by omega), if_neg (by omega)]
theorem QgS {v : Val} {e : Int} {k : Stp} (hv : v.kind = 4) (he : e = 1) : Q55 v e k = .halt 2 := by unfold Q55; rw [if_neg (by omega), if_pos he]
theorem QgQ {v : Val} {e : Int} {k : Stp} (he : v.kind = 4 → e ≠ 1 ∧ e ≠ 0) : Q55 v e k = .lost := by
  unfold Q55
  by_cases hv : v.kind = 4
  · obtain ⟨h1, h2⟩ := he hv
    rw [if_neg (by omega), if_neg h1, if_pos h2]
  · rw [if_pos hv]
theorem QgT {v : Val} {e : Int} {k : Stp} (hv : v.kind = 4) (he : e = 0) : Q55 v e k = k := by unfold Q55; rw [if_neg (by omega), if_neg (by omega), if_neg (by omega)]
theorem tuple_no {h : HpS} {v : Val} {l : List Val} (e : h.code v (Q4x l) ≠ 0) : h.tuple v l = h := by unfold HpS.tuple HpS.put; exact if_neg e
theorem open_no {h : HpS} (e : h.full = true) : h.open = h := by unfold HpS.open; exact if_pos e
theorem new_no (e : s.h.full = true) : s.newR = .halt 6 := by unfold MS.newR; exact if_pos e
theorem QmQ (e : s.h.full = false) : s.newR = .go ((⟨s.h.open, ⟨s.g.f, s.g.b, s.g.i, s.g.vals, s.g.regs ++ [s.h.openV.region]⟩, s.st, s.inp, s.out, s.fuel⟩ : MS).put [s.h.openV]) := by unfold MS.newR; exact if_neg (by rw [e]; decide)
theorem in_0 (e : s.inp = []) : s.inS = .halt 4 := by unfold MS.inS; rw [e]
theorem in_s {n : Int} {r : List Int} (e : s.inp = n :: r) : s.inS = .go ((⟨s.h, s.g, s.st, r, s.out, s.fuel⟩ : MS).put [intV n]) := by unfold MS.inS; rw [e]
theorem out_0 {n : Int} (e : s.out.length = 2000) : s.outS n = .halt 8 := if_pos e
theorem out_s {n : Int} (e : s.out.length ≠ 2000) : s.outS n = .go ⟨s.h, s.g, s.st, s.inp, s.out ++ [n], s.fuel⟩ := if_neg e
end
end Go.Lir
namespace Go.Proofs.Yteflkifmgnpbhaa
open Go.Lir
set_option maxHeartbeats 1000000
attribute [local irreducible] LC.wp Q2 Qy QD retQ Q1n LO.wp Ql Calls
set_option linter.unusedSimpArgs false
set_option linter.unusedVariables false
variable {cx : Cx} {w : World} {L : List Res} {p N : Nat} {c : MC} {fr : List FrmV} {g : FrmV} {h : HpS} {out inp : List Int} {fu : Nat} {m : Module}
def FrmV.nx (g : FrmV) : FrmV := ⟨g.f, g.b, g.i + 1, g.vv, g.vals, g.rv, g.regs⟩
theorem QlU {l : List Int} {n : Int} : Qs l ++ [[.int .i64 n]] = Qs (l ++ [n]) := by unfold Qs; rw [List.map_append]; rfl
section
variable {s : MS} {x : Ins}
theorem xins_8 (h : x.op = 8) : s.ins m x = arrX s x := by unfold MS.ins; rw [if_neg (by omega), if_neg (by omega), if_neg (by omega), if_neg (by omega), if_neg (by omega), if_neg (by omega), if_neg (by omega), if_pos h]; rfl
end
attribute [local irreducible] Frm.val Frm.num Frm.args Frm.rgs Frm.reg intsV MS.ins MS.call HpS.get HpS.set HpS.setC HpS.len HpS.code HpS.put HpS.putV HpS.open HpS.shut HpS.full HpS.openV HpS.can HpS.tuple HpS.arr HpS.arrC HpS.arrV opF Q4x
theorem mins_c {x : Ins} {cs : List Value} (hx : insR.at cx cs x) (hfn : funcR.sl cx c.fn m.funcs) (hi : intR.sl cx c.iv inp) (hop : 1 ≤ x.op ∧ x.op ≤ 14) (hk : x.op = 14 → 0 ≤ x.k ∧ x.k < m.funcs.length) (h6 : x.regs.length ≤ 100) (h8 : x.args.length ≤ 100) (hgi : g.i ≤ 1000) (hf : fr.length ≤ 900) (hn : g.vals.length ≤ 800000) (hrn : g.regs.length ≤ 800000) (hN : N ≤ 99999) (hol : out.length ≤ 2000) (hS : St cx w (mS p c fr g N h out L)) :
    Fins Try.prog Q7 [.pointer (some ⟨p, 0, none⟩), .agg ⟨cs⟩] w (GoS p c N fu ((msOf h g.nx fr inp out fu).ins m x) cx L) (BadS p c N h out ((msOf h g.nx fr inp out fu).ins m x) cx L) := by
  obtain ⟨vr, va, rfl, hr, ha⟩ := Q2T hx
  have hil := hi.len
  unfold Fins
  all_goals refine Q8J ?_
  all_goals (unfold ideal_Machine_ins_lc; refine Q0 ?_; refine Q1 ?_; refine zb hS ?_; intro p3 w1 hS; refine zn ?_; refine Q0 ?_; have hS : St cx _ (mS p c fr g N h out (blk p3 42 [.int .i64 x.op, .int .i64 x.a, .int .i64 x.b, .int .i64 x.c, .int .i64 x.k, .int .i64 x.n, vr, va] :: L)) := hS.sp; refine Q1 ?_; refine zm ?_; refine zR1 (c := Q5v (by omega) hS) (h := ?_); rintro v1 w1 ⟨b9, o9, rfl, hel, hS⟩; refine znc ?_; (first | refine zf0 ?_ | refine zfd ?_); refine Q5 hS hel rfl fd (Qa fr g) (Qe fr g) rfl ?_; refine s_add rfl rfl (by omega) (by omega) ?_; rw [show ((g.i : Int) + 1) = ((g.i + 1 : Nat) : Int) by omega]; refine znc ?_; (first | refine zf0 ?_ | refine zfd ?_); refine Q1z hS hel rfl vw fd (Qa fr g) (Qe fr g) (by omega) rfl (Q9Q (g' := g.nx) rfl) ?_; intro w8 hS; have hS := hS.ns; have hS : St cx _ (mS p c fr g.nx N h out (blk p3 42 [.int .i64 x.op, .int .i64 x.a, .int .i64 x.b, .int .i64 x.c, .int .i64 x.k, .int .i64 x.n, vr, va] :: L)) := hS.sp; refine zn ?_; refine Q0 ?_; refine Q1 ?_; refine zf0 ?_; refine zl hS ?_; refine zn ?_; refine Qh ?_; refine Q0 ?_; refine Q1 ?_)
  all_goals (first | (refine Qx ?_) | (refine QE ?_) | (refine Qb rfl rfl (fun hc => ?_) (fun hc => ?_)))
  all_goals (refine zm ?_; refine zn ?_)
  all_goals
    first
    | (refine zct ?_ -- Q7 c0
       all_goals (have hX := xins_1 (m := m) (s := msOf h g.nx fr inp out fu) (x := x) (by omega); refine Q1 ?_; refine zm ?_; refine zf0 ?_; refine zl hS ?_; refine zR1 (c := Q9W hS) (h := ?_); rintro v1 w1 ⟨rfl, hS⟩; unfold Val.v Val.cells; refine zB1 hS [_, _, _, _] ?_; intro b1 w1 hS; have hS := St.slOf (T := 108) (es := 4) (css := [intV x.n].map Val.cells) hS rfl (by simp [Val.cells]) rfl; have hS : St cx _ (mL p c fr g.nx (sl 108 4 (.slice (some ⟨b1, 0, none⟩) 1 1) ([intV x.n].map Val.cells) :: Q1D (N) c.hp (h) :: sl 2 1 c.ov (Qs out) :: blk p3 42 [.int .i64 x.op, .int .i64 x.a, .int .i64 x.b, .int .i64 x.c, .int .i64 x.k, .int .i64 x.n, vr, va] :: L)) := hS.sp; refine zR2 (c := Q7U (j := 0) (by omega) (by show g.vals.length + 1 ≤ 1000000; omega) hS rfl) (h := ?_); rintro u1 w1 ⟨tv, rfl, hS⟩; refine zn ?_; have hG : GoS p c N fu ((msOf h g.nx fr inp out fu).ins m x) cx L (.tuple #[]) w1 := ⟨c.lv, c.iv, c.ov, fr, g.nx.push tv [intV x.n], N, h, inp, out, hX, hi, by omega, rfl, hS.sp⟩)
       all_goals (refine QG ?_; exact .inl ⟨_, rfl, hG⟩))
    | (refine zcf ?_ -- Q7 c0
       all_goals (refine Q0 ?_; refine Q1 ?_)
       all_goals (first | (refine Qx ?_) | (refine QE ?_) | (refine Qb rfl rfl (fun hc => ?_) (fun hc => ?_)))
       all_goals (refine zm ?_; refine zn ?_)
       all_goals
         first
         | (refine zct ?_ -- Q7 c1
            all_goals (refine Q0 ?_; have hX := xins_2 (m := m) (s := msOf h g.nx fr inp out fu) (x := x) (by omega); refine zC [(0, none), (1, none), (2, none), (3, none), (4, none), (6, none), (7, none), (8, none), (5, some (some [1, 8])), (9, some (some [1])), (10, some none), (11, none), (12, none), (13, none), (14, none), (15, some none)] ?_; have hS := hS.drew; refine s_cq ?_; refine zf0 ?_; refine zt ?_; refine s_cq ?_; refine zl hS ?_; refine zt ?_; refine s_cq ?_; refine zm ?_; refine zt ?_; refine s_cq ?_; refine zf0 ?_; refine zt ?_; refine s_cq ?_; refine zl hS ?_; refine zt ?_; refine s_cq ?_; refine zm ?_; refine zt ?_; refine s_cq ?_; refine zf0 ?_; refine zt ?_; refine s_cq ?_; refine zl hS ?_; refine zt ?_; refine Qi ?_; refine zE2 (c := Qb0 (by omega) (show St cx _ (mL p c fr g.nx _) from hS.sp)) (p := by rintro u9 w9 ⟨hna, rfl, hS⟩; (repeat (first | refine Qc ?_ | refine Qd ?_ | refine fun _ => ?_)); refine Qp ?_; refine .inr ⟨_, rfl, ?_⟩; exact .inl ⟨hX.trans (QF hna), rfl, hS.sp⟩) (h := ?_); rintro u1 w2 ⟨na, hna, rfl, hS⟩; refine zt ?_)
            all_goals (refine zy ?_; refine Qi ?_; refine zE2 (c := Qb0 (by omega) (show St cx _ (mL p c fr g.nx _) from hS.sp)) (p := by rintro u9 w9 ⟨hnb, rfl, hS⟩; (repeat (first | refine Qc ?_ | refine Qd ?_ | refine fun _ => ?_)); refine Qp ?_; refine .inr ⟨_, rfl, ?_⟩; exact .inl ⟨hX.trans ((Q4 hna).trans (QF hnb)), rfl, hS.sp⟩) (h := ?_); rintro u1 w2 ⟨nb, hnb, rfl, hS⟩; refine zt ?_; refine zy ?_; refine s_cf ?_)
            all_goals (refine zR3 (c := op_s hS) (h := ?_); rintro v1 w1 ⟨rfl, hS⟩; cases hd : (opF x.k na nb).2)
            all_goals (refine zt ?_; refine s_cq ?_; refine zm ?_; refine zt ?_; refine s_cq ?_; refine zxt ?_; refine zt ?_; refine s_cq ?_; refine zxt ?_; refine zt ?_; refine s_cq ?_; refine zm ?_; refine zt ?_; refine s_cf ?_; refine zm ?_; refine zt ?_; refine zcn ?_; refine Q0 ?_; refine Q1 ?_; refine zm ?_; refine znt ?_)
            all_goals (first | (refine zR2 (c := Q7B hS) (h := ?_); rintro v1 w1 ⟨rfl, hS⟩) | (refine zE2 (c := Q7A hS) (p := by rintro v9 w9 ⟨rfl, hS⟩; (repeat (first | refine Qc ?_ | refine Qd ?_ | refine fun _ => ?_)); refine Qp ?_; refine .inr ⟨_, rfl, ?_⟩; exact .inr ⟨1, hX.trans ((Q4 hna).trans ((Q4 hnb).trans (if_pos hd))), rfl, fr, g.nx, N, by omega, hS.sp⟩) (h := fun _ _ h => h.elim)))
            all_goals (refine zn ?_; refine Q1 ?_; refine zm ?_; refine zm ?_; refine zR1 (c := Q9W hS) (h := ?_); rintro v1 w1 ⟨rfl, hS⟩; unfold Val.v Val.cells; refine zB1 hS [_, _, _, _] ?_; intro b1 w1 hS; have hS := St.slOf (T := 108) (es := 4) (css := [intV (opF x.k na nb).1].map Val.cells) hS rfl (by simp [Val.cells]) rfl; have hS : St cx _ (mL p c fr g.nx (sl 108 4 (.slice (some ⟨b1, 0, none⟩) 1 1) ([intV (opF x.k na nb).1].map Val.cells) :: Q1D (N) c.hp (h) :: sl 2 1 c.ov (Qs out) :: blk p3 42 [.int .i64 x.op, .int .i64 x.a, .int .i64 x.b, .int .i64 x.c, .int .i64 x.k, .int .i64 x.n, vr, va] :: L)) := hS.sp; refine zR2 (c := Q7U (j := 0) (by omega) (by show g.vals.length + 1 ≤ 1000000; omega) hS rfl) (h := ?_); rintro u1 w1 ⟨tv, rfl, hS⟩; refine zn ?_; have hG : GoS p c N fu ((msOf h g.nx fr inp out fu).ins m x) cx L (.tuple #[]) w1 := ⟨c.lv, c.iv, c.ov, fr, g.nx.push tv [intV (opF x.k na nb).1], N, h, inp, out, hX.trans ((Q4 hna).trans ((Q4 hnb).trans (if_neg (by rw [hd]; decide)))), hi, by omega, rfl, hS.sp⟩)
            all_goals (refine QG ?_; exact .inl ⟨_, rfl, hG⟩))
         | (refine zcf ?_ -- Q7 c1
            all_goals (refine Q0 ?_; refine Q1 ?_)
            all_goals (first | (refine Qx ?_) | (refine QE ?_) | (refine Qb rfl rfl (fun hc => ?_) (fun hc => ?_)))
            all_goals (refine zm ?_; refine zn ?_)
            all_goals
              first
              | (refine zct ?_ -- Q7 c2
                 all_goals (refine Q0 ?_; have hX := xins_3 (m := m) (s := msOf h g.nx fr inp out fu) (x := x) (by omega); refine Q1 ?_; refine zm ?_; refine znc ?_; refine zf0 ?_; refine zl hS ?_)
                 all_goals (refine zR1 (c := hopen_c (N := N) (s := h) (h := c.hp) (by omega) hS fd) (h := ?_); rintro v1 w1 ⟨rfl, hS⟩; have hS := hS.ns; unfold Val.v Val.cells; cases hfu : h.full)
                 all_goals (refine zm ?_; refine zxt ?_; refine zxt ?_; refine Q8 hS ?_; intro p6 w1 hS; refine zsn hS ?_; intro w1 hS; have hS := hS.ns; refine zm ?_; refine zn ?_; refine Q0 ?_; refine Q1 ?_; refine zm ?_; refine znt ?_)
                 all_goals (first | (refine zR2 (c := Q7B hS) (h := ?_); rintro v1 w1 ⟨rfl, hS⟩) | (refine zE2 (c := Q7A hS) (p := by rintro v9 w9 ⟨rfl, hS⟩; (repeat (first | refine Qc ?_ | refine Qd ?_ | refine fun _ => ?_)); refine Qp ?_; refine .inr ⟨_, rfl, ?_⟩; rw [open_no hfu] at hS; exact .inr ⟨6, hX.trans (new_no hfu), rfl, fr, g.nx, N + 1, Nat.le_refl _, hS.sp⟩) (h := fun _ _ h => h.elim)))
                 all_goals (refine zn ?_; refine Q0 ?_)
                 refine Q2g 1 9 (by kernel_rfl) ?_ ?_
                 · skip
                   refine Q2g 3 9 (by kernel_rfl) ?_ ?_
                   · skip
                     all_goals (refine zC [(0, none), (2, none), (7, none), (8, none), (1, some (some [8])), (3, some (some [8])), (4, none), (5, none), (6, none), (9, some (some [6])), (10, some none), (11, none), (12, none), (13, some none)] ?_; have hS := hS.drew; refine s_cq ?_; refine zm ?_; refine zt ?_; refine s_cq ?_; refine zm ?_; refine zt ?_; refine s_cq ?_; refine zf0 ?_; refine zt ?_; refine s_cq ?_; refine zl hS ?_; refine zt ?_; refine Qi ?_; refine zR1 (c := Q5v (by omega) (show St cx _ (mL p c fr g.nx _) from hS.sp)) (h := ?_); rintro v1 w1 ⟨b8, o8, rfl, hel8, hS⟩; refine zt ?_; refine zy ?_; refine Qi ?_; refine zR1 (c := Q5v (by omega) (show St cx _ (mL p c fr g.nx _) from hS.sp)) (h := ?_); rintro v1 w1 ⟨b7, o7, rfl, hel7, hS⟩; refine zt ?_; refine zy ?_; refine s_cq ?_; refine znc ?_; refine zt ?_; refine s_cq ?_; (first | refine zf0 ?_ | refine zfd ?_); refine zt ?_; refine s_cq ?_; refine Q5 hS hel7 rfl fd (Qa fr g.nx) (Qe fr g.nx) rfl ?_; refine zt ?_; refine Qi ?_; refine zB1 hS [_] ?_; intro b1 w1 hS; refine zt ?_; refine ⟨List.forall_mem_cons.2 ⟨(by (exact QP hS hel7 rfl fd (Qa fr g.nx) (Qe fr g.nx) rfl)), fun _ h => (List.not_mem_nil h).elim⟩, ?_⟩)
                     all_goals (refine s_cf ?_; refine Q3w Qcv (.inl Qk0) hS vw vw (v := g.rv) (css := Qs g.regs) fd (hS.srcB fd (by rfl) (by simp [oneC])) (by rw [List.length_map]; simp only [List.length_cons, List.length_nil]; omega) ?_; intro v7 w7 hS; have hS := hS.ns; refine zt ?_; refine s_cq ?_; refine znc ?_; refine zt ?_; refine s_cq ?_; (first | refine zf0 ?_ | refine zfd ?_); refine zt ?_; refine s_cf ?_; refine Q1z hS hel8 rfl vw fd (Qa fr g.nx) (Qe fr g.nx) (by omega) (hS.oneC (v := v7) (css := Qs g.regs ++ [[.int .i64 h.openV.region]]) fd) (Q9Q (g' := ⟨g.f, g.b, g.i + 1, g.vv, g.vals, v7, g.regs ++ [h.openV.region]⟩) rfl) ?_; intro w8 hS; have hS := hS.ns; refine zt ?_; refine zcn ?_; have hS : St cx _ (mS p c fr ⟨g.f, g.b, g.i + 1, g.vv, g.vals, v7, g.regs ++ [h.openV.region]⟩ (N + 1) h.open out (blk p6 108 h.openV.cells :: blk p3 42 [.int .i64 x.op, .int .i64 x.a, .int .i64 x.b, .int .i64 x.c, .int .i64 x.k, .int .i64 x.n, vr, va] :: L)) := (by show St cx _ (blk p _ _ :: sl _ 5 c.lv _ :: sl _ 4 g.vv _ :: sl _ 1 v7 (List.map _ (g.regs ++ [h.openV.region])) :: _); rw [List.map_append]; exact hS.sp); refine Q1 ?_; refine zm ?_; refine zv hS ?_; refine zB1 hS [_, _, _, _] ?_; intro b1 w1 hS; have hS := St.slOf (T := 108) (es := 4) (css := [h.openV].map Val.cells) hS rfl (by simp [Val.cells]) rfl; have hS : St cx _ (mL p c fr ⟨g.f, g.b, g.i + 1, g.vv, g.vals, v7, g.regs ++ [h.openV.region]⟩ (sl 108 4 (.slice (some ⟨b1, 0, none⟩) 1 1) ([h.openV].map Val.cells) :: Q1D (N + 1) c.hp (h.open) :: sl 2 1 c.ov (Qs out) :: blk p3 42 [.int .i64 x.op, .int .i64 x.a, .int .i64 x.b, .int .i64 x.c, .int .i64 x.k, .int .i64 x.n, vr, va] :: L)) := hS.sp; refine zR2 (c := Q7U (j := 0) (by omega) (by show g.vals.length + 1 ≤ 1000000; omega) hS rfl) (h := ?_); rintro u1 w1 ⟨tv, rfl, hS⟩)
                     all_goals (refine zn ?_; have hG : GoS p c N fu ((msOf h g.nx fr inp out fu).ins m x) cx L (.tuple #[]) w1 := ⟨c.lv, c.iv, c.ov, fr, FrmV.push ⟨g.f, g.b, g.i + 1, g.vv, g.vals, v7, g.regs ++ [h.openV.region]⟩ tv [h.openV], N + 1, h.open, inp, out, hX.trans (QmQ hfu), hi, Nat.le_refl _, rfl, hS.sp⟩; refine QG ?_; exact .inl ⟨_, rfl, hG⟩)
                   · skip
                     all_goals (refine zC [(0, none), (2, none), (7, none), (8, none), (1, some (some [8])), (9, some (some [])), (3, some (some [8])), (4, none), (5, none), (6, none), (10, some none), (11, none), (12, none), (13, some none)] ?_; have hS := hS.drew; refine s_cq ?_; refine zm ?_; refine zt ?_; refine s_cq ?_; refine zm ?_; refine zt ?_; refine s_cq ?_; refine zf0 ?_; refine zt ?_; refine s_cq ?_; refine zl hS ?_; refine zt ?_; refine Qi ?_; refine zR1 (c := Q5v (by omega) (show St cx _ (mL p c fr g.nx _) from hS.sp)) (h := ?_); rintro v1 w1 ⟨b8, o8, rfl, hel8, hS⟩; refine zt ?_; refine zy ?_; refine Qi ?_; refine zB1 hS [_] ?_; intro b1 w1 hS; refine zt ?_; refine ⟨fun _ h => (List.not_mem_nil h).elim, ?_⟩; refine Qi ?_; refine zR1 (c := Q5v (by omega) (show St cx _ (mL p c fr g.nx _) from hS.sp)) (h := ?_); rintro v1 w1 ⟨b7, o7, rfl, hel7, hS⟩; refine zt ?_; refine zy ?_; refine s_cq ?_; refine znc ?_; refine zt ?_; refine s_cq ?_; (first | refine zf0 ?_ | refine zfd ?_); refine zt ?_; refine s_cq ?_; refine Q5 hS hel7 rfl fd (Qa fr g.nx) (Qe fr g.nx) rfl ?_; refine zt ?_; refine s_cf ?_; refine Q3w Qcv (.inl Qk0) hS vw vw (v := g.rv) (css := Qs g.regs) fd (hS.srcB fd (by rfl) (by simp [oneC])) (by rw [List.length_map]; simp only [List.length_cons, List.length_nil]; omega) ?_; intro v7 w7 hS; have hS := hS.ns)
                     all_goals (refine zt ?_; refine s_cq ?_; refine znc ?_; refine zt ?_; refine s_cq ?_; (first | refine zf0 ?_ | refine zfd ?_); refine zt ?_; refine s_cf ?_; refine Q1z hS hel8 rfl vw fd (Qa fr g.nx) (Qe fr g.nx) (by omega) (hS.oneC (v := v7) (css := Qs g.regs ++ [[.int .i64 h.openV.region]]) fd) (Q9Q (g' := ⟨g.f, g.b, g.i + 1, g.vv, g.vals, v7, g.regs ++ [h.openV.region]⟩) rfl) ?_; intro w8 hS; have hS := hS.ns; refine zt ?_; refine zcn ?_; have hS : St cx _ (mS p c fr ⟨g.f, g.b, g.i + 1, g.vv, g.vals, v7, g.regs ++ [h.openV.region]⟩ (N + 1) h.open out (blk p6 108 h.openV.cells :: blk p3 42 [.int .i64 x.op, .int .i64 x.a, .int .i64 x.b, .int .i64 x.c, .int .i64 x.k, .int .i64 x.n, vr, va] :: L)) := (by show St cx _ (blk p _ _ :: sl _ 5 c.lv _ :: sl _ 4 g.vv _ :: sl _ 1 v7 (List.map _ (g.regs ++ [h.openV.region])) :: _); rw [List.map_append]; exact hS.sp); refine Q1 ?_; refine zm ?_; refine zv hS ?_; refine zB1 hS [_, _, _, _] ?_; intro b1 w1 hS; have hS := St.slOf (T := 108) (es := 4) (css := [h.openV].map Val.cells) hS rfl (by simp [Val.cells]) rfl; have hS : St cx _ (mL p c fr ⟨g.f, g.b, g.i + 1, g.vv, g.vals, v7, g.regs ++ [h.openV.region]⟩ (sl 108 4 (.slice (some ⟨b1, 0, none⟩) 1 1) ([h.openV].map Val.cells) :: Q1D (N + 1) c.hp (h.open) :: sl 2 1 c.ov (Qs out) :: blk p3 42 [.int .i64 x.op, .int .i64 x.a, .int .i64 x.b, .int .i64 x.c, .int .i64 x.k, .int .i64 x.n, vr, va] :: L)) := hS.sp; refine zR2 (c := Q7U (j := 0) (by omega) (by show g.vals.length + 1 ≤ 1000000; omega) hS rfl) (h := ?_); rintro u1 w1 ⟨tv, rfl, hS⟩)
                     all_goals (refine zn ?_; have hG : GoS p c N fu ((msOf h g.nx fr inp out fu).ins m x) cx L (.tuple #[]) w1 := ⟨c.lv, c.iv, c.ov, fr, FrmV.push ⟨g.f, g.b, g.i + 1, g.vv, g.vals, v7, g.regs ++ [h.openV.region]⟩ tv [h.openV], N + 1, h.open, inp, out, hX.trans (QmQ hfu), hi, Nat.le_refl _, rfl, hS.sp⟩; refine QG ?_; exact .inl ⟨_, rfl, hG⟩)
                 · skip
                   all_goals (refine zC [(0, none), (2, none), (7, none), (8, none), (9, some (some [])), (1, some (some [8])), (3, some (some [8])), (4, none), (5, none), (6, none), (10, some none), (11, none), (12, none), (13, some none)] ?_; have hS := hS.drew; refine s_cq ?_; refine zm ?_; refine zt ?_; refine s_cq ?_; refine zm ?_; refine zt ?_; refine s_cq ?_; refine zf0 ?_; refine zt ?_; refine s_cq ?_; refine zl hS ?_; refine zt ?_; refine Qi ?_; refine zB1 hS [_] ?_; intro b1 w1 hS; refine zt ?_; refine ⟨fun _ h => (List.not_mem_nil h).elim, ?_⟩; refine Qi ?_; refine zR1 (c := Q5v (by omega) (show St cx _ (mL p c fr g.nx _) from hS.sp)) (h := ?_); rintro v1 w1 ⟨b8, o8, rfl, hel8, hS⟩; refine zt ?_; refine zy ?_; refine Qi ?_; refine zR1 (c := Q5v (by omega) (show St cx _ (mL p c fr g.nx _) from hS.sp)) (h := ?_); rintro v1 w1 ⟨b7, o7, rfl, hel7, hS⟩; refine zt ?_; refine zy ?_; refine s_cq ?_; refine znc ?_; refine zt ?_; refine s_cq ?_; (first | refine zf0 ?_ | refine zfd ?_); refine zt ?_; refine s_cq ?_; refine Q5 hS hel7 rfl fd (Qa fr g.nx) (Qe fr g.nx) rfl ?_; refine zt ?_; refine s_cf ?_; refine Q3w Qcv (.inl Qk0) hS vw vw (v := g.rv) (css := Qs g.regs) fd (hS.srcB fd (by rfl) (by simp [oneC])) (by rw [List.length_map]; simp only [List.length_cons, List.length_nil]; omega) ?_; intro v7 w7 hS; have hS := hS.ns)
                   all_goals (refine zt ?_; refine s_cq ?_; refine znc ?_; refine zt ?_; refine s_cq ?_; (first | refine zf0 ?_ | refine zfd ?_); refine zt ?_; refine s_cf ?_; refine Q1z hS hel8 rfl vw fd (Qa fr g.nx) (Qe fr g.nx) (by omega) (hS.oneC (v := v7) (css := Qs g.regs ++ [[.int .i64 h.openV.region]]) fd) (Q9Q (g' := ⟨g.f, g.b, g.i + 1, g.vv, g.vals, v7, g.regs ++ [h.openV.region]⟩) rfl) ?_; intro w8 hS; have hS := hS.ns; refine zt ?_; refine zcn ?_; have hS : St cx _ (mS p c fr ⟨g.f, g.b, g.i + 1, g.vv, g.vals, v7, g.regs ++ [h.openV.region]⟩ (N + 1) h.open out (blk p6 108 h.openV.cells :: blk p3 42 [.int .i64 x.op, .int .i64 x.a, .int .i64 x.b, .int .i64 x.c, .int .i64 x.k, .int .i64 x.n, vr, va] :: L)) := (by show St cx _ (blk p _ _ :: sl _ 5 c.lv _ :: sl _ 4 g.vv _ :: sl _ 1 v7 (List.map _ (g.regs ++ [h.openV.region])) :: _); rw [List.map_append]; exact hS.sp); refine Q1 ?_; refine zm ?_; refine zv hS ?_; refine zB1 hS [_, _, _, _] ?_; intro b1 w1 hS; have hS := St.slOf (T := 108) (es := 4) (css := [h.openV].map Val.cells) hS rfl (by simp [Val.cells]) rfl; have hS : St cx _ (mL p c fr ⟨g.f, g.b, g.i + 1, g.vv, g.vals, v7, g.regs ++ [h.openV.region]⟩ (sl 108 4 (.slice (some ⟨b1, 0, none⟩) 1 1) ([h.openV].map Val.cells) :: Q1D (N + 1) c.hp (h.open) :: sl 2 1 c.ov (Qs out) :: blk p3 42 [.int .i64 x.op, .int .i64 x.a, .int .i64 x.b, .int .i64 x.c, .int .i64 x.k, .int .i64 x.n, vr, va] :: L)) := hS.sp; refine zR2 (c := Q7U (j := 0) (by omega) (by show g.vals.length + 1 ≤ 1000000; omega) hS rfl) (h := ?_); rintro u1 w1 ⟨tv, rfl, hS⟩)
                   all_goals (refine zn ?_; have hG : GoS p c N fu ((msOf h g.nx fr inp out fu).ins m x) cx L (.tuple #[]) w1 := ⟨c.lv, c.iv, c.ov, fr, FrmV.push ⟨g.f, g.b, g.i + 1, g.vv, g.vals, v7, g.regs ++ [h.openV.region]⟩ tv [h.openV], N + 1, h.open, inp, out, hX.trans (QmQ hfu), hi, Nat.le_refl _, rfl, hS.sp⟩)
                   all_goals (refine QG ?_; exact .inl ⟨_, rfl, hG⟩))
              | (refine zcf ?_ -- Q7 c2
                 all_goals (refine Q0 ?_; refine Q1 ?_)
                 all_goals (first | (refine Qx ?_) | (refine QE ?_) | (refine Qb rfl rfl (fun hc => ?_) (fun hc => ?_)))
                 all_goals (refine zm ?_; refine zn ?_)
                 all_goals
                   first
                   | (refine zct ?_ -- Q7 c3
                      all_goals (have hX := xins_4 (m := m) (s := msOf h g.nx fr inp out fu) (x := x) (by omega); refine zC [(0, none), (1, none), (2, none), (3, none), (4, none), (5, none), (6, none), (7, some (some [3])), (8, some none), (9, some none)] ?_; have hS := hS.drew; refine s_cq ?_; refine zm ?_; refine zt ?_; refine s_cq ?_; refine znc ?_; refine zt ?_; refine s_cq ?_; refine zf0 ?_; refine zt ?_; refine s_cq ?_; refine zl hS ?_; refine zt ?_; refine s_cq ?_; refine zm ?_; refine zt ?_; refine s_cq ?_; refine zf0 ?_; refine zt ?_; refine s_cq ?_; refine zl hS ?_; refine zt ?_; refine Qi ?_; refine zE2 (c := Q3X (by omega) (show St cx _ (mL p c fr g.nx _) from hS.sp)) (p := by rintro u9 w9 ⟨hv, rfl, hS⟩; (repeat (first | refine Qc ?_ | refine Qd ?_ | refine fun _ => ?_)); refine Qp ?_; refine .inr ⟨_, rfl, ?_⟩; exact .inl ⟨hX.trans (QF hv), rfl, hS.sp⟩) (h := ?_); rintro u1 w2 ⟨v, hv, rfl, hS⟩; refine zt ?_; refine zy ?_; refine s_cf ?_)
                      all_goals (refine zR2 (c := hshut_c (N := N) (s := h) (h := c.hp) v hS fd) (h := ?_); rintro v1 w1 ⟨rfl, hS⟩; have hS := hS.ns; cases hcn : h.can v)
                      all_goals (refine zt ?_; refine s_cf ?_)
                      all_goals (first | (refine zR1 (c := Q2C hS) (h := ?_); rintro v1 w1 ⟨rfl, hS⟩) | (refine zE1 (c := Q2K hS) (p := by rintro v9 w9 ⟨rfl, hS⟩; (repeat (first | refine Qc ?_ | refine Qd ?_ | refine fun _ => ?_)); refine Qp ?_; refine .inr ⟨_, rfl, ?_⟩; exact .inl ⟨hX.trans ((Q4 hv).trans (if_pos hcn)), rfl, hS.sp⟩) (h := fun _ _ h => h.elim)))
                      all_goals (refine zt ?_; refine zcn ?_; have hG : GoS p c N fu ((msOf h g.nx fr inp out fu).ins m x) cx L (.tuple #[]) w1 := ⟨c.lv, c.iv, c.ov, fr, g.nx, N, h.shut v, inp, out, hX.trans ((Q4 hv).trans (if_neg (by rw [show (msOf h g.nx fr inp out fu).h.can v = h.can v from rfl, hcn]; decide))), hi, by omega, rfl, hS.sp⟩)
                      all_goals (refine QG ?_; exact .inl ⟨_, rfl, hG⟩))
                   | (refine zcf ?_ -- Q7 c3
                      all_goals (refine Q0 ?_; refine Q1 ?_)
                      all_goals (first | (refine Qx ?_) | (refine QE ?_) | (refine Qb rfl rfl (fun hc => ?_) (fun hc => ?_)))
                      all_goals (refine zm ?_; refine zn ?_)
                      all_goals
                        first
                        | (refine zct ?_ -- Q7 c4
                           all_goals (have hX := xins_5 (m := m) (s := msOf h g.nx fr inp out fu) (x := x) (by omega); refine zC [(0, none), (1, none), (2, none), (3, none), (4, none), (5, none), (6, none), (7, none), (9, none), (10, none), (11, none), (8, some (some [4, 11])), (12, some (some [4])), (13, some (some [])), (14, none), (15, none), (16, some none)] ?_; have hS := hS.drew; refine s_cq ?_; refine zm ?_; refine zt ?_; refine s_cq ?_; refine zm ?_; refine zt ?_; refine s_cq ?_; refine znc ?_; refine zt ?_; refine s_cq ?_; refine zf0 ?_; refine zt ?_; refine s_cq ?_; refine zl hS ?_; refine zt ?_; refine s_cq ?_; refine zm ?_; refine zt ?_; refine s_cq ?_; refine zf0 ?_; refine zt ?_; refine s_cq ?_; refine zl hS ?_; refine zt ?_; refine s_cq ?_; refine zm ?_; refine zt ?_; refine s_cq ?_; refine zf0 ?_; refine zt ?_; refine s_cq ?_; refine zl hS ?_; refine zt ?_; refine Qi ?_; refine zE2 (c := Q3X (by omega) (show St cx _ (mL p c fr g.nx _) from hS.sp)) (p := by rintro u9 w9 ⟨hv, rfl, hS⟩; (repeat (first | refine Qc ?_ | refine Qd ?_ | refine fun _ => ?_)); refine Qp ?_; refine .inr ⟨_, rfl, ?_⟩; exact .inl ⟨hX.trans (QF hv), rfl, hS.sp⟩) (h := ?_); rintro u1 w2 ⟨v, hv, rfl, hS⟩)
                           all_goals (refine zt ?_; refine zy ?_; refine Qi ?_; refine zE2 (c := Qiq (by omega) (by omega) ha (show St cx _ (mL p c fr g.nx _) from hS.sp)) (p := by rintro u9 w9 ⟨hvs, rfl, hS⟩; (repeat (first | refine Qc ?_ | refine Qd ?_ | refine fun _ => ?_)); refine Qp ?_; refine .inr ⟨_, rfl, ?_⟩; exact .inl ⟨hX.trans ((Q4 hv).trans (QF hvs)), rfl, hS.sp⟩) (h := ?_); rintro u2 w2 ⟨vs, hvs, hvl, ho2, hS⟩; refine zt ?_; refine zy ?_; refine Qi ?_; refine zR3 (c := htuple_c (N := N) (s := h) (h := c.hp) (j := 5) v _ vs (by omega) (by omega) hS fd rfl) (h := ?_); rintro v1 w1 ⟨rfl, hS⟩; have hS := hS.ns; refine zt ?_; refine zy ?_; refine s_cq ?_; refine zxt ?_; refine zt ?_; refine s_cq ?_; refine zxt ?_; refine zt ?_; refine s_cf ?_)
                           all_goals (refine zE3 (c := Qln (v := h.putV v 3 (Q4x vs)) (by omega) (by show g.vals.length ≤ 900000; omega) (show St cx _ (mL p c fr g.nx _) from hS.sp)) (p := by rintro u9 w9 ⟨he, hS⟩; (repeat (first | refine Qc ?_ | refine Qd ?_ | refine fun _ => ?_)); refine Qp ?_; refine .inr ⟨_, rfl, ?_⟩; rcases he with ⟨e0, rfl⟩ | ⟨e0, e1, rfl⟩; rw [tuple_no (by omega)] at hS; exact .inr ⟨6, hX.trans ((Q4 hv).trans ((Q4 hvs).trans (QhF e0))), rfl, fr, g.nx, N + 1, Nat.le_refl _, hS.sp⟩; exact .inl ⟨hX.trans ((Q4 hv).trans ((Q4 hvs).trans (QhE e0 e1))), rfl, hS.sp⟩) (h := ?_); rintro u1 w1 ⟨e0, tv, rfl, hS⟩)
                           all_goals (refine zt ?_; refine zcn ?_; have hG : GoS p c N fu ((msOf h g.nx fr inp out fu).ins m x) cx L (.tuple #[]) w1 := ⟨c.lv, c.iv, c.ov, fr, g.nx.push tv [h.putV v 3 (Q4x vs)], N + 1, h.tuple v vs, inp, out, hX.trans ((Q4 hv).trans ((Q4 hvs).trans (Qlo e0))), hi, Nat.le_refl _, rfl, hS.sp⟩)
                           all_goals (refine QG ?_; exact .inl ⟨_, rfl, hG⟩))
                        | (refine zcf ?_ -- Q7 c4
                           all_goals (refine Q0 ?_; refine Q1 ?_)
                           all_goals (first | (refine Qx ?_) | (refine QE ?_) | (refine Qb rfl rfl (fun hc => ?_) (fun hc => ?_)))
                           all_goals (refine zm ?_; refine zn ?_)
                           all_goals
                             first
                             | (refine zct ?_ -- Q7 c5
                                all_goals (refine Q0 ?_; have hX := xins_6 (m := m) (s := msOf h g.nx fr inp out fu) (x := x) (by omega); refine Q1 ?_; refine zm ?_; refine zf0 ?_; refine zl hS ?_; refine zE2 (c := Q3X (by omega) (show St cx _ (mL p c fr g.nx _) from hS.sp)) (p := by rintro u9 w9 ⟨hv, rfl, hS⟩; (repeat (first | refine Qc ?_ | refine Qd ?_ | refine fun _ => ?_)); refine Qp ?_; refine .inr ⟨_, rfl, ?_⟩; exact .inl ⟨hX.trans (QF hv), rfl, hS.sp⟩) (h := ?_); rintro u1 w2 ⟨v, hv, rfl, hS⟩; unfold Val.v Val.cells; refine Qld rfl rfl ?_)
                                all_goals (first | (refine Qx ?_) | (refine QE ?_) | (refine Qb rfl rfl (fun hc => ?_) (fun hc => ?_)))
                                all_goals (first | (refine zR1 (c := Q2C hS) (h := ?_); rintro v1 w1 ⟨rfl, hS⟩) | (refine zE1 (c := Q2K hS) (p := by rintro v9 w9 ⟨rfl, hS⟩; (repeat (first | refine Qc ?_ | refine Qd ?_ | refine fun _ => ?_)); refine Qp ?_; refine .inr ⟨_, rfl, ?_⟩; exact .inl ⟨hX.trans ((Q4 hv).trans (if_pos (by omega))), rfl, hS.sp⟩) (h := fun _ _ h => h.elim)))
                                all_goals (refine zn ?_; refine Q0 ?_)
                                refine Q2g 7 14 (by kernel_rfl) ?_ ?_
                                · skip
                                  refine Q2g 10 14 (by kernel_rfl) ?_ ?_
                                  · skip
                                    all_goals (refine zC [(0, none), (1, none), (2, none), (3, none), (4, none), (5, none), (6, none), (8, none), (9, none), (7, some (some [3, 9])), (10, some none), (11, none), (12, none), (13, none), (14, some (some [])), (15, some (some [])), (16, some none)] ?_; have hS := hS.drew; refine s_cq ?_; refine zm ?_; refine zt ?_; refine s_cq ?_; refine znc ?_; refine zt ?_; refine s_cq ?_; refine zf0 ?_; refine zt ?_; refine s_cq ?_; refine zl hS ?_; refine zt ?_; refine s_cq ?_; refine zm ?_; refine zt ?_; refine s_cq ?_; refine zf0 ?_; refine zt ?_; refine s_cq ?_; refine zl hS ?_; refine zt ?_; refine s_cq ?_; refine zf0 ?_; refine zt ?_; refine s_cq ?_; refine zl hS ?_; refine zt ?_; refine Qi ?_)
                                    all_goals (refine zE2 (c := Q3X (by omega) (show St cx _ (mL p c fr g.nx _) from hS.sp)) (p := by rintro u9 w9 ⟨hv2, rfl, hS⟩; (repeat (first | refine Qc ?_ | refine Qd ?_ | refine fun _ => ?_)); refine Qp ?_; refine .inr ⟨_, rfl, ?_⟩; rw [hv] at hv2; cases hv2) (h := ?_); rintro u1 w2 ⟨v2, hv2, rfl, hS⟩; obtain rfl : v = v2 := Option.some.inj (hv.symm.trans hv2))
                                    all_goals (refine zt ?_; refine zy ?_; refine s_cf ?_; refine zR3 (c := QeK (N := N) (s := h) (h := c.hp) v x.k hS fd) (h := ?_); rintro v1 w1 ⟨rfl, hS⟩; unfold Val.v Val.cells; refine zt ?_; refine s_cq ?_; refine zm ?_; refine zt ?_; refine s_cq ?_; refine zxt ?_; refine zt ?_; refine s_cq ?_; refine zxt ?_; refine zt ?_; refine Qi ?_; refine Q8 hS ?_; intro p8 w1 hS; refine zt ?_; refine zy ?_; refine Qi ?_; refine zsn hS ?_; intro w1 hS; have hS := hS.ns; refine zt ?_; refine zy ?_; refine s_cf ?_; refine zm ?_; refine zt ?_; refine zcn ?_; refine Q0 ?_; refine Q1 ?_; refine zm ?_)
                                    all_goals (first | (refine Qx ?_) | (refine QE ?_) | (refine Qb rfl rfl (fun hc => ?_) (fun hc => ?_)))
                                    all_goals (first | (refine zR1 (c := Q2C hS) (h := ?_); rintro v1 w1 ⟨rfl, hS⟩) | (refine zE1 (c := Q2K hS) (p := by rintro v9 w9 ⟨rfl, hS⟩; (repeat (first | refine Qc ?_ | refine Qd ?_ | refine fun _ => ?_)); refine Qp ?_; refine .inr ⟨_, rfl, ?_⟩; exact .inl ⟨hX.trans ((Q4 hv).trans ((if_neg (by omega)).trans (if_pos (by show (h.get v x.k).2 ≠ 0; omega)))), rfl, hS.sp⟩) (h := fun _ _ h => h.elim)))
                                    all_goals (refine zn ?_; refine Q1 ?_; refine zm ?_; refine zv hS ?_; refine zB1 hS [_, _, _, _] ?_; intro b1 w1 hS; have hS := St.slOf (T := 108) (es := 4) (css := [(h.get v x.k).1].map Val.cells) hS rfl (by simp [Val.cells]) rfl; have hS : St cx _ (mL p c fr g.nx (sl 108 4 (.slice (some ⟨b1, 0, none⟩) 1 1) ([(h.get v x.k).1].map Val.cells) :: Q1D (N) c.hp (h) :: sl 2 1 c.ov (Qs out) :: blk p3 42 [.int .i64 x.op, .int .i64 x.a, .int .i64 x.b, .int .i64 x.c, .int .i64 x.k, .int .i64 x.n, vr, va] :: L)) := hS.sp; refine zR2 (c := Q7U (j := 0) (by omega) (by show g.vals.length + 1 ≤ 1000000; omega) hS rfl) (h := ?_); rintro u1 w1 ⟨tv, rfl, hS⟩; refine zn ?_; have hG : GoS p c N fu ((msOf h g.nx fr inp out fu).ins m x) cx L (.tuple #[]) w1 := ⟨c.lv, c.iv, c.ov, fr, g.nx.push tv [(h.get v x.k).1], N, h, inp, out, hX.trans ((Q4 hv).trans ((if_neg (by omega)).trans (if_neg (by show ¬ (h.get v x.k).2 ≠ 0; omega)))), hi, by omega, rfl, hS.sp⟩; refine QG ?_; exact .inl ⟨_, rfl, hG⟩)
                                  · skip
                                    all_goals (refine zC [(0, none), (1, none), (2, none), (3, none), (4, none), (5, none), (6, none), (8, none), (9, none), (7, some (some [3, 9])), (14, some (some [3, 9])), (10, some none), (11, none), (12, none), (13, none), (15, some (some [])), (16, some none)] ?_; have hS := hS.drew; refine s_cq ?_; refine zm ?_; refine zt ?_; refine s_cq ?_; refine znc ?_; refine zt ?_; refine s_cq ?_; refine zf0 ?_; refine zt ?_; refine s_cq ?_; refine zl hS ?_; refine zt ?_; refine s_cq ?_; refine zm ?_; refine zt ?_; refine s_cq ?_; refine zf0 ?_; refine zt ?_; refine s_cq ?_; refine zl hS ?_; refine zt ?_; refine s_cq ?_; refine zf0 ?_; refine zt ?_; refine s_cq ?_; refine zl hS ?_; refine zt ?_; refine Qi ?_)
                                    all_goals (refine zE2 (c := Q3X (by omega) (show St cx _ (mL p c fr g.nx _) from hS.sp)) (p := by rintro u9 w9 ⟨hv2, rfl, hS⟩; (repeat (first | refine Qc ?_ | refine Qd ?_ | refine fun _ => ?_)); refine Qp ?_; refine .inr ⟨_, rfl, ?_⟩; rw [hv] at hv2; cases hv2) (h := ?_); rintro u1 w2 ⟨v2, hv2, rfl, hS⟩; obtain rfl : v = v2 := Option.some.inj (hv.symm.trans hv2))
                                    all_goals (refine zt ?_; refine zy ?_; refine Qi ?_; refine Q8 hS ?_; intro p8 w1 hS; refine zt ?_; refine zy ?_; refine s_cf ?_; refine zR3 (c := QeK (N := N) (s := h) (h := c.hp) v x.k hS fd) (h := ?_); rintro v1 w1 ⟨rfl, hS⟩; unfold Val.v Val.cells; refine zt ?_; refine s_cq ?_; refine zm ?_; refine zt ?_; refine s_cq ?_; refine zxt ?_; refine zt ?_; refine s_cq ?_; refine zxt ?_; refine zt ?_; refine Qi ?_; refine zsn hS ?_; intro w1 hS; have hS := hS.ns; refine zt ?_; refine zy ?_; refine s_cf ?_; refine zm ?_; refine zt ?_; refine zcn ?_; refine Q0 ?_; refine Q1 ?_; refine zm ?_)
                                    all_goals (first | (refine Qx ?_) | (refine QE ?_) | (refine Qb rfl rfl (fun hc => ?_) (fun hc => ?_)))
                                    all_goals (first | (refine zR1 (c := Q2C hS) (h := ?_); rintro v1 w1 ⟨rfl, hS⟩) | (refine zE1 (c := Q2K hS) (p := by rintro v9 w9 ⟨rfl, hS⟩; (repeat (first | refine Qc ?_ | refine Qd ?_ | refine fun _ => ?_)); refine Qp ?_; refine .inr ⟨_, rfl, ?_⟩; exact .inl ⟨hX.trans ((Q4 hv).trans ((if_neg (by omega)).trans (if_pos (by show (h.get v x.k).2 ≠ 0; omega)))), rfl, hS.sp⟩) (h := fun _ _ h => h.elim)))
                                    all_goals (refine zn ?_; refine Q1 ?_; refine zm ?_; refine zv hS ?_; refine zB1 hS [_, _, _, _] ?_; intro b1 w1 hS; have hS := St.slOf (T := 108) (es := 4) (css := [(h.get v x.k).1].map Val.cells) hS rfl (by simp [Val.cells]) rfl; have hS : St cx _ (mL p c fr g.nx (sl 108 4 (.slice (some ⟨b1, 0, none⟩) 1 1) ([(h.get v x.k).1].map Val.cells) :: Q1D (N) c.hp (h) :: sl 2 1 c.ov (Qs out) :: blk p3 42 [.int .i64 x.op, .int .i64 x.a, .int .i64 x.b, .int .i64 x.c, .int .i64 x.k, .int .i64 x.n, vr, va] :: L)) := hS.sp; refine zR2 (c := Q7U (j := 0) (by omega) (by show g.vals.length + 1 ≤ 1000000; omega) hS rfl) (h := ?_); rintro u1 w1 ⟨tv, rfl, hS⟩; refine zn ?_; have hG : GoS p c N fu ((msOf h g.nx fr inp out fu).ins m x) cx L (.tuple #[]) w1 := ⟨c.lv, c.iv, c.ov, fr, g.nx.push tv [(h.get v x.k).1], N, h, inp, out, hX.trans ((Q4 hv).trans ((if_neg (by omega)).trans (if_neg (by show ¬ (h.get v x.k).2 ≠ 0; omega)))), hi, by omega, rfl, hS.sp⟩; refine QG ?_; exact .inl ⟨_, rfl, hG⟩)
                                · skip
                                  all_goals (refine zC [(0, none), (1, none), (2, none), (3, none), (4, none), (5, none), (6, none), (8, none), (9, none), (14, some (some [3, 6, 9])), (7, some (some [3, 9])), (10, some none), (11, none), (12, none), (13, none), (15, some (some [])), (16, some none)] ?_; have hS := hS.drew; refine s_cq ?_; refine zm ?_; refine zt ?_; refine s_cq ?_; refine znc ?_; refine zt ?_; refine s_cq ?_; refine zf0 ?_; refine zt ?_; refine s_cq ?_; refine zl hS ?_; refine zt ?_; refine s_cq ?_; refine zm ?_; refine zt ?_; refine s_cq ?_; refine zf0 ?_; refine zt ?_; refine s_cq ?_; refine zl hS ?_; refine zt ?_; refine s_cq ?_; refine zf0 ?_; refine zt ?_; refine s_cq ?_; refine zl hS ?_; refine zt ?_; refine Qi ?_; refine Q8 hS ?_; intro p8 w1 hS; refine zt ?_; refine zy ?_; refine Qi ?_)
                                  all_goals (refine zE2 (c := Q3X (by omega) (show St cx _ (mL p c fr g.nx _) from hS.sp)) (p := by rintro u9 w9 ⟨hv2, rfl, hS⟩; (repeat (first | refine Qc ?_ | refine Qd ?_ | refine fun _ => ?_)); refine Qp ?_; refine .inr ⟨_, rfl, ?_⟩; rw [hv] at hv2; cases hv2) (h := ?_); rintro u1 w2 ⟨v2, hv2, rfl, hS⟩; obtain rfl : v = v2 := Option.some.inj (hv.symm.trans hv2))
                                  all_goals (refine zt ?_; refine zy ?_; refine s_cf ?_; refine zR3 (c := QeK (N := N) (s := h) (h := c.hp) v x.k hS fd) (h := ?_); rintro v1 w1 ⟨rfl, hS⟩; unfold Val.v Val.cells; refine zt ?_; refine s_cq ?_; refine zm ?_; refine zt ?_; refine s_cq ?_; refine zxt ?_; refine zt ?_; refine s_cq ?_; refine zxt ?_; refine zt ?_; refine Qi ?_; refine zsn hS ?_; intro w1 hS; have hS := hS.ns; refine zt ?_; refine zy ?_; refine s_cf ?_; refine zm ?_; refine zt ?_; refine zcn ?_; refine Q0 ?_; refine Q1 ?_; refine zm ?_)
                                  all_goals (first | (refine Qx ?_) | (refine QE ?_) | (refine Qb rfl rfl (fun hc => ?_) (fun hc => ?_)))
                                  all_goals (first | (refine zR1 (c := Q2C hS) (h := ?_); rintro v1 w1 ⟨rfl, hS⟩) | (refine zE1 (c := Q2K hS) (p := by rintro v9 w9 ⟨rfl, hS⟩; (repeat (first | refine Qc ?_ | refine Qd ?_ | refine fun _ => ?_)); refine Qp ?_; refine .inr ⟨_, rfl, ?_⟩; exact .inl ⟨hX.trans ((Q4 hv).trans ((if_neg (by omega)).trans (if_pos (by show (h.get v x.k).2 ≠ 0; omega)))), rfl, hS.sp⟩) (h := fun _ _ h => h.elim)))
                                  all_goals (refine zn ?_; refine Q1 ?_; refine zm ?_; refine zv hS ?_; refine zB1 hS [_, _, _, _] ?_; intro b1 w1 hS; have hS := St.slOf (T := 108) (es := 4) (css := [(h.get v x.k).1].map Val.cells) hS rfl (by simp [Val.cells]) rfl; have hS : St cx _ (mL p c fr g.nx (sl 108 4 (.slice (some ⟨b1, 0, none⟩) 1 1) ([(h.get v x.k).1].map Val.cells) :: Q1D (N) c.hp (h) :: sl 2 1 c.ov (Qs out) :: blk p3 42 [.int .i64 x.op, .int .i64 x.a, .int .i64 x.b, .int .i64 x.c, .int .i64 x.k, .int .i64 x.n, vr, va] :: L)) := hS.sp; refine zR2 (c := Q7U (j := 0) (by omega) (by show g.vals.length + 1 ≤ 1000000; omega) hS rfl) (h := ?_); rintro u1 w1 ⟨tv, rfl, hS⟩; refine zn ?_; have hG : GoS p c N fu ((msOf h g.nx fr inp out fu).ins m x) cx L (.tuple #[]) w1 := ⟨c.lv, c.iv, c.ov, fr, g.nx.push tv [(h.get v x.k).1], N, h, inp, out, hX.trans ((Q4 hv).trans ((if_neg (by omega)).trans (if_neg (by show ¬ (h.get v x.k).2 ≠ 0; omega)))), hi, by omega, rfl, hS.sp⟩)
                                  all_goals (refine QG ?_; exact .inl ⟨_, rfl, hG⟩))
                             | (refine zcf ?_ -- Q7 c5
                                all_goals (refine Q0 ?_; refine Q1 ?_)
                                all_goals (first | (refine Qx ?_) | (refine QE ?_) | (refine Qb rfl rfl (fun hc => ?_) (fun hc => ?_)))
                                all_goals (refine zm ?_; refine zn ?_)
                                all_goals
                                  first
                                  | (refine zct ?_ -- Q7 c6
                                     all_goals (refine Q0 ?_; have hX := xins_7 (m := m) (s := msOf h g.nx fr inp out fu) (x := x) (by omega); refine Q1 ?_; refine zm ?_; refine zf0 ?_; refine zl hS ?_; refine zE2 (c := Q3X (by omega) (show St cx _ (mL p c fr g.nx _) from hS.sp)) (p := by rintro u9 w9 ⟨hv, rfl, hS⟩; (repeat (first | refine Qc ?_ | refine Qd ?_ | refine fun _ => ?_)); refine Qp ?_; refine .inr ⟨_, rfl, ?_⟩; exact .inl ⟨hX.trans (QF hv), rfl, hS.sp⟩) (h := ?_); rintro u1 w2 ⟨v, hv, rfl, hS⟩; unfold Val.v Val.cells; refine Qld rfl rfl ?_)
                                     all_goals (first | (refine Qx ?_) | (refine QE ?_) | (refine Qb rfl rfl (fun hc => ?_) (fun hc => ?_)))
                                     all_goals (first | (refine zR1 (c := Q2C hS) (h := ?_); rintro v1 w1 ⟨rfl, hS⟩) | (refine zE1 (c := Q2K hS) (p := by rintro v9 w9 ⟨rfl, hS⟩; (repeat (first | refine Qc ?_ | refine Qd ?_ | refine fun _ => ?_)); refine Qp ?_; refine .inr ⟨_, rfl, ?_⟩; exact .inl ⟨hX.trans ((Q4 hv).trans (if_pos (by omega))), rfl, hS.sp⟩) (h := fun _ _ h => h.elim)))
                                     all_goals (refine zn ?_; refine zC [(0, none), (1, none), (2, none), (3, none), (4, none), (5, none), (6, none), (8, none), (9, none), (10, none), (11, none), (12, none), (7, some (some [3, 9, 12])), (13, some (some [3, 9])), (14, some none), (15, none), (16, some none)] ?_; have hS := hS.drew; refine s_cq ?_; refine zm ?_; refine zt ?_; refine s_cq ?_; refine znc ?_; refine zt ?_; refine s_cq ?_; refine zf0 ?_; refine zt ?_; refine s_cq ?_; refine zl hS ?_; refine zt ?_; refine s_cq ?_; refine zm ?_; refine zt ?_; refine s_cq ?_; refine zf0 ?_; refine zt ?_; refine s_cq ?_; refine zl hS ?_; refine zt ?_; refine s_cq ?_; refine zf0 ?_; refine zt ?_; refine s_cq ?_; refine zl hS ?_; refine zt ?_; refine s_cq ?_; refine zm ?_; refine zt ?_; refine s_cq ?_; refine zf0 ?_; refine zt ?_; refine s_cq ?_; refine zl hS ?_; refine zt ?_; refine Qi ?_)
                                     all_goals (refine zE2 (c := Q3X (by omega) (show St cx _ (mL p c fr g.nx _) from hS.sp)) (p := by rintro u9 w9 ⟨hv2, rfl, hS⟩; (repeat (first | refine Qc ?_ | refine Qd ?_ | refine fun _ => ?_)); refine Qp ?_; refine .inr ⟨_, rfl, ?_⟩; rw [hv] at hv2; cases hv2) (h := ?_); rintro u1 w2 ⟨v2, hv2, rfl, hS⟩; obtain rfl : v = v2 := Option.some.inj (hv.symm.trans hv2))
                                     all_goals (refine zt ?_; refine zy ?_; refine Qi ?_; refine zE2 (c := Q3X (by omega) (show St cx _ (mL p c fr g.nx _) from hS.sp)) (p := by rintro u9 w9 ⟨hy, rfl, hS⟩; (repeat (first | refine Qc ?_ | refine Qd ?_ | refine fun _ => ?_)); refine Qp ?_; refine .inr ⟨_, rfl, ?_⟩; exact .inl ⟨hX.trans ((Q4 hv).trans ((if_neg (by omega)).trans (QF hy))), rfl, hS.sp⟩) (h := ?_); rintro u1 w2 ⟨y, hy, rfl, hS⟩; refine zt ?_; refine zy ?_; refine s_cf ?_; refine zR4 (c := hset_c (N := N) (s := h) (h := c.hp) v x.k y hS fd) (h := ?_); rintro v1 w1 ⟨rfl, hS⟩; have hS := hS.ns; refine zt ?_; refine s_cq ?_)
                                     all_goals (first | (refine Qx ?_) | (refine QE ?_) | (refine Qb rfl rfl (fun hc => ?_) (fun hc => ?_)))
                                     all_goals (refine zt ?_; refine s_cf ?_)
                                     all_goals (first | (refine zR1 (c := Q2C hS) (h := ?_); rintro v1 w1 ⟨rfl, hS⟩) | (refine zE1 (c := Q2K hS) (p := by rintro v9 w9 ⟨rfl, hS⟩; (repeat (first | refine Qc ?_ | refine Qd ?_ | refine fun _ => ?_)); refine Qp ?_; refine .inr ⟨_, rfl, ?_⟩; exact .inl ⟨hX.trans ((Q4 hv).trans ((if_neg (by omega)).trans ((Q4 hy).trans (if_pos (by show h.setC v x.k y ≠ 0; omega))))), rfl, hS.sp⟩) (h := fun _ _ h => h.elim)))
                                     all_goals (refine zt ?_; refine zcn ?_; have hG : GoS p c N fu ((msOf h g.nx fr inp out fu).ins m x) cx L (.tuple #[]) w1 := ⟨c.lv, c.iv, c.ov, fr, g.nx, N, h.set v x.k y, inp, out, hX.trans ((Q4 hv).trans ((if_neg (by omega)).trans ((Q4 hy).trans (if_neg (by show ¬ h.setC v x.k y ≠ 0; omega))))), hi, by omega, rfl, hS.sp⟩)
                                     all_goals (refine QG ?_; exact .inl ⟨_, rfl, hG⟩))
                                  | (refine zcf ?_ -- Q7 c6
                                     all_goals (refine Q0 ?_; refine Q1 ?_)
                                     all_goals (first | (refine Qx ?_) | (refine QE ?_) | (refine Qb rfl rfl (fun hc => ?_) (fun hc => ?_)))
                                     all_goals (refine zm ?_; refine zn ?_)
                                     all_goals
                                       first
                                       | (refine zct ?_ -- Q7 c7
                                          all_goals (have hX := xins_8 (m := m) (s := msOf h g.nx fr inp out fu) (x := x) (by omega); rw [hX]; refine Q1 ?_; refine zm ?_; refine zv hS ?_; refine zE2 (c := array_c (inp := inp) (fu := fu) (x := x) hx hi (by omega) (by show g.vals.length ≤ 900000; omega) hN hS) (p := by rintro u9 w9 hB; (repeat (first | refine Qc ?_ | refine Qd ?_ | refine fun _ => ?_)); refine Qp ?_; refine .inr ⟨_, rfl, ?_⟩; exact hB.drop) (h := ?_); rintro u1 w1 hG; refine zn ?_; have hG := hG.drop; obtain ⟨rfl, hG⟩ := hG.tup)
                                          all_goals (refine QG ?_; exact .inl ⟨_, rfl, hG⟩))
                                       | (refine zcf ?_ -- Q7 c7
                                          all_goals (refine Q0 ?_; refine Q1 ?_)
                                          all_goals (first | (refine Qx ?_) | (refine QE ?_) | (refine Qb rfl rfl (fun hc => ?_) (fun hc => ?_)))
                                          all_goals (refine zm ?_; refine zn ?_)
                                          all_goals
                                            first
                                            | (refine zct ?_ -- Q7 c8
                                               all_goals (refine Q0 ?_; have hX := xins_9 (m := m) (s := msOf h g.nx fr inp out fu) (x := x) (by omega))
                                               refine Q2g 7 16 (by kernel_rfl) ?_ ?_
                                               · skip
                                                 refine Q2g 11 16 (by kernel_rfl) ?_ ?_
                                                 · skip
                                                   refine Q2g 12 16 (by kernel_rfl) ?_ ?_
                                                   · skip
                                                     all_goals (refine zC [(0, none), (1, none), (2, none), (3, none), (4, none), (5, none), (6, none), (8, none), (9, none), (10, none), (7, some (some [3, 10])), (11, some (some [3])), (12, some none), (13, none), (14, none), (15, none), (16, some (some [])), (17, some (some [])), (18, some none)] ?_; have hS := hS.drew; refine s_cq ?_; refine zm ?_; refine zt ?_; refine s_cq ?_; refine znc ?_; refine zt ?_; refine s_cq ?_; refine zf0 ?_; refine zt ?_; refine s_cq ?_; refine zl hS ?_; refine zt ?_; refine s_cq ?_; refine zm ?_; refine zt ?_; refine s_cq ?_; refine zf0 ?_; refine zt ?_; refine s_cq ?_; refine zl hS ?_; refine zt ?_; refine s_cq ?_; refine zm ?_; refine zt ?_; refine s_cq ?_; refine zf0 ?_; refine zt ?_; refine s_cq ?_; refine zl hS ?_; refine zt ?_; refine Qi ?_; refine zE2 (c := Q3X (by omega) (show St cx _ (mL p c fr g.nx _) from hS.sp)) (p := by rintro u9 w9 ⟨hv, rfl, hS⟩; (repeat (first | refine Qc ?_ | refine Qd ?_ | refine fun _ => ?_)); refine Qp ?_; refine .inr ⟨_, rfl, ?_⟩; exact .inl ⟨hX.trans (QF hv), rfl, hS.sp⟩) (h := ?_); rintro u1 w2 ⟨v, hv, rfl, hS⟩)
                                                     all_goals (refine zt ?_; refine zy ?_; refine Qi ?_; refine zE2 (c := Qb0 (by omega) (show St cx _ (mL p c fr g.nx _) from hS.sp)) (p := by rintro u9 w9 ⟨hnn, rfl, hS⟩; (repeat (first | refine Qc ?_ | refine Qd ?_ | refine fun _ => ?_)); refine Qp ?_; refine .inr ⟨_, rfl, ?_⟩; exact .inl ⟨hX.trans ((Q4 hv).trans (QF hnn)), rfl, hS.sp⟩) (h := ?_); rintro u1 w2 ⟨n, hnn, rfl, hS⟩; refine zt ?_; refine zy ?_; refine s_cf ?_; refine zR3 (c := QeK (N := N) (s := h) (h := c.hp) v n hS fd) (h := ?_); rintro v1 w1 ⟨rfl, hS⟩; unfold Val.v Val.cells; refine zt ?_; refine s_cq ?_; refine zm ?_; refine zt ?_; refine s_cq ?_; refine zxt ?_; refine zt ?_; refine s_cq ?_; refine zxt ?_; refine zt ?_; refine Qi ?_; refine Q8 hS ?_; intro p10 w1 hS; refine zt ?_; refine zy ?_; refine Qi ?_; refine zsn hS ?_; intro w1 hS; have hS := hS.ns; refine zt ?_; refine zy ?_; refine s_cf ?_; refine zm ?_; refine zt ?_; refine zcn ?_; refine Q0 ?_; refine Q1 ?_; refine zm ?_; refine zv hS ?_; refine zm ?_)
                                                     all_goals (refine zE3 (c := QgR (x := x) hx (by omega) (show St cx _ (mL p c fr g.nx _) from hS.sp)) (p := by rintro u9 w9 ⟨he, hS⟩; (repeat (first | refine Qc ?_ | refine Qd ?_ | refine fun _ => ?_)); refine Qp ?_; refine .inr ⟨_, rfl, ?_⟩; rcases he with ⟨e0, rfl⟩ | ⟨⟨v3, hv3, hk4⟩, e0, rfl⟩; exact .inl ⟨hX.trans ((Q4 hv).trans ((Q4 hnn).trans (QgQ (e0 v hv)))), rfl, hS.sp⟩; obtain rfl : v = v3 := Option.some.inj (hv.symm.trans hv3); exact .inr ⟨2, hX.trans ((Q4 hv).trans ((Q4 hnn).trans (QgS hk4 e0))), rfl, fr, g.nx, N, by omega, hS.sp⟩) (h := ?_); rintro u1 w1 ⟨⟨v3, hv3, hk4⟩, e0, rfl, hS⟩; obtain rfl : v = v3 := Option.some.inj (hv.symm.trans hv3))
                                                     all_goals (refine zn ?_; refine Q1 ?_; refine zm ?_; refine zv hS ?_; refine zB1 hS [_, _, _, _] ?_; intro b1 w1 hS; have hS := St.slOf (T := 108) (es := 4) (css := [(h.get v n).1].map Val.cells) hS rfl (by simp [Val.cells]) rfl; have hS : St cx _ (mL p c fr g.nx (sl 108 4 (.slice (some ⟨b1, 0, none⟩) 1 1) ([(h.get v n).1].map Val.cells) :: Q1D (N) c.hp (h) :: sl 2 1 c.ov (Qs out) :: blk p3 42 [.int .i64 x.op, .int .i64 x.a, .int .i64 x.b, .int .i64 x.c, .int .i64 x.k, .int .i64 x.n, vr, va] :: L)) := hS.sp; refine zR2 (c := Q7U (j := 0) (by omega) (by show g.vals.length + 1 ≤ 1000000; omega) hS rfl) (h := ?_); rintro u1 w1 ⟨tv, rfl, hS⟩; refine zn ?_; have hG : GoS p c N fu ((msOf h g.nx fr inp out fu).ins m x) cx L (.tuple #[]) w1 := ⟨c.lv, c.iv, c.ov, fr, g.nx.push tv [(h.get v n).1], N, h, inp, out, hX.trans ((Q4 hv).trans ((Q4 hnn).trans (QgT hk4 e0))), hi, by omega, rfl, hS.sp⟩; refine QG ?_; exact .inl ⟨_, rfl, hG⟩)
                                                   · skip
                                                     all_goals (refine zC [(0, none), (1, none), (2, none), (3, none), (4, none), (5, none), (6, none), (8, none), (9, none), (10, none), (7, some (some [3, 10])), (11, some (some [3])), (16, some (some [3])), (12, some none), (13, none), (14, none), (15, none), (17, some (some [])), (18, some none)] ?_; have hS := hS.drew; refine s_cq ?_; refine zm ?_; refine zt ?_; refine s_cq ?_; refine znc ?_; refine zt ?_; refine s_cq ?_; refine zf0 ?_; refine zt ?_; refine s_cq ?_; refine zl hS ?_; refine zt ?_; refine s_cq ?_; refine zm ?_; refine zt ?_; refine s_cq ?_; refine zf0 ?_; refine zt ?_; refine s_cq ?_; refine zl hS ?_; refine zt ?_; refine s_cq ?_; refine zm ?_; refine zt ?_; refine s_cq ?_; refine zf0 ?_; refine zt ?_; refine s_cq ?_; refine zl hS ?_; refine zt ?_; refine Qi ?_; refine zE2 (c := Q3X (by omega) (show St cx _ (mL p c fr g.nx _) from hS.sp)) (p := by rintro u9 w9 ⟨hv, rfl, hS⟩; (repeat (first | refine Qc ?_ | refine Qd ?_ | refine fun _ => ?_)); refine Qp ?_; refine .inr ⟨_, rfl, ?_⟩; exact .inl ⟨hX.trans (QF hv), rfl, hS.sp⟩) (h := ?_); rintro u1 w2 ⟨v, hv, rfl, hS⟩)
                                                     all_goals (refine zt ?_; refine zy ?_; refine Qi ?_; refine zE2 (c := Qb0 (by omega) (show St cx _ (mL p c fr g.nx _) from hS.sp)) (p := by rintro u9 w9 ⟨hnn, rfl, hS⟩; (repeat (first | refine Qc ?_ | refine Qd ?_ | refine fun _ => ?_)); refine Qp ?_; refine .inr ⟨_, rfl, ?_⟩; exact .inl ⟨hX.trans ((Q4 hv).trans (QF hnn)), rfl, hS.sp⟩) (h := ?_); rintro u1 w2 ⟨n, hnn, rfl, hS⟩; refine zt ?_; refine zy ?_; refine Qi ?_; refine Q8 hS ?_; intro p10 w1 hS; refine zt ?_; refine zy ?_; refine s_cf ?_; refine zR3 (c := QeK (N := N) (s := h) (h := c.hp) v n hS fd) (h := ?_); rintro v1 w1 ⟨rfl, hS⟩; unfold Val.v Val.cells; refine zt ?_; refine s_cq ?_; refine zm ?_; refine zt ?_; refine s_cq ?_; refine zxt ?_; refine zt ?_; refine s_cq ?_; refine zxt ?_; refine zt ?_; refine Qi ?_; refine zsn hS ?_; intro w1 hS; have hS := hS.ns; refine zt ?_; refine zy ?_; refine s_cf ?_; refine zm ?_; refine zt ?_; refine zcn ?_; refine Q0 ?_; refine Q1 ?_; refine zm ?_; refine zv hS ?_; refine zm ?_)
                                                     all_goals (refine zE3 (c := QgR (x := x) hx (by omega) (show St cx _ (mL p c fr g.nx _) from hS.sp)) (p := by rintro u9 w9 ⟨he, hS⟩; (repeat (first | refine Qc ?_ | refine Qd ?_ | refine fun _ => ?_)); refine Qp ?_; refine .inr ⟨_, rfl, ?_⟩; rcases he with ⟨e0, rfl⟩ | ⟨⟨v3, hv3, hk4⟩, e0, rfl⟩; exact .inl ⟨hX.trans ((Q4 hv).trans ((Q4 hnn).trans (QgQ (e0 v hv)))), rfl, hS.sp⟩; obtain rfl : v = v3 := Option.some.inj (hv.symm.trans hv3); exact .inr ⟨2, hX.trans ((Q4 hv).trans ((Q4 hnn).trans (QgS hk4 e0))), rfl, fr, g.nx, N, by omega, hS.sp⟩) (h := ?_); rintro u1 w1 ⟨⟨v3, hv3, hk4⟩, e0, rfl, hS⟩; obtain rfl : v = v3 := Option.some.inj (hv.symm.trans hv3))
                                                     all_goals (refine zn ?_; refine Q1 ?_; refine zm ?_; refine zv hS ?_; refine zB1 hS [_, _, _, _] ?_; intro b1 w1 hS; have hS := St.slOf (T := 108) (es := 4) (css := [(h.get v n).1].map Val.cells) hS rfl (by simp [Val.cells]) rfl; have hS : St cx _ (mL p c fr g.nx (sl 108 4 (.slice (some ⟨b1, 0, none⟩) 1 1) ([(h.get v n).1].map Val.cells) :: Q1D (N) c.hp (h) :: sl 2 1 c.ov (Qs out) :: blk p3 42 [.int .i64 x.op, .int .i64 x.a, .int .i64 x.b, .int .i64 x.c, .int .i64 x.k, .int .i64 x.n, vr, va] :: L)) := hS.sp; refine zR2 (c := Q7U (j := 0) (by omega) (by show g.vals.length + 1 ≤ 1000000; omega) hS rfl) (h := ?_); rintro u1 w1 ⟨tv, rfl, hS⟩; refine zn ?_; have hG : GoS p c N fu ((msOf h g.nx fr inp out fu).ins m x) cx L (.tuple #[]) w1 := ⟨c.lv, c.iv, c.ov, fr, g.nx.push tv [(h.get v n).1], N, h, inp, out, hX.trans ((Q4 hv).trans ((Q4 hnn).trans (QgT hk4 e0))), hi, by omega, rfl, hS.sp⟩; refine QG ?_; exact .inl ⟨_, rfl, hG⟩)
                                                 · skip
                                                   all_goals (refine zC [(0, none), (1, none), (2, none), (3, none), (4, none), (5, none), (6, none), (8, none), (9, none), (10, none), (7, some (some [3, 10])), (16, some (some [3, 10])), (11, some (some [3])), (12, some none), (13, none), (14, none), (15, none), (17, some (some [])), (18, some none)] ?_; have hS := hS.drew; refine s_cq ?_; refine zm ?_; refine zt ?_; refine s_cq ?_; refine znc ?_; refine zt ?_; refine s_cq ?_; refine zf0 ?_; refine zt ?_; refine s_cq ?_; refine zl hS ?_; refine zt ?_; refine s_cq ?_; refine zm ?_; refine zt ?_; refine s_cq ?_; refine zf0 ?_; refine zt ?_; refine s_cq ?_; refine zl hS ?_; refine zt ?_; refine s_cq ?_; refine zm ?_; refine zt ?_; refine s_cq ?_; refine zf0 ?_; refine zt ?_; refine s_cq ?_; refine zl hS ?_; refine zt ?_; refine Qi ?_; refine zE2 (c := Q3X (by omega) (show St cx _ (mL p c fr g.nx _) from hS.sp)) (p := by rintro u9 w9 ⟨hv, rfl, hS⟩; (repeat (first | refine Qc ?_ | refine Qd ?_ | refine fun _ => ?_)); refine Qp ?_; refine .inr ⟨_, rfl, ?_⟩; exact .inl ⟨hX.trans (QF hv), rfl, hS.sp⟩) (h := ?_); rintro u1 w2 ⟨v, hv, rfl, hS⟩)
                                                   all_goals (refine zt ?_; refine zy ?_; refine Qi ?_; refine Q8 hS ?_; intro p10 w1 hS; refine zt ?_; refine zy ?_; refine Qi ?_; refine zE2 (c := Qb0 (by omega) (show St cx _ (mL p c fr g.nx _) from hS.sp)) (p := by rintro u9 w9 ⟨hnn, rfl, hS⟩; (repeat (first | refine Qc ?_ | refine Qd ?_ | refine fun _ => ?_)); refine Qp ?_; refine .inr ⟨_, rfl, ?_⟩; exact .inl ⟨hX.trans ((Q4 hv).trans (QF hnn)), rfl, hS.sp⟩) (h := ?_); rintro u1 w2 ⟨n, hnn, rfl, hS⟩; refine zt ?_; refine zy ?_; refine s_cf ?_; refine zR3 (c := QeK (N := N) (s := h) (h := c.hp) v n hS fd) (h := ?_); rintro v1 w1 ⟨rfl, hS⟩; unfold Val.v Val.cells; refine zt ?_; refine s_cq ?_; refine zm ?_; refine zt ?_; refine s_cq ?_; refine zxt ?_; refine zt ?_; refine s_cq ?_; refine zxt ?_; refine zt ?_; refine Qi ?_; refine zsn hS ?_; intro w1 hS; have hS := hS.ns; refine zt ?_; refine zy ?_; refine s_cf ?_; refine zm ?_; refine zt ?_; refine zcn ?_; refine Q0 ?_; refine Q1 ?_; refine zm ?_; refine zv hS ?_; refine zm ?_)
                                                   all_goals (refine zE3 (c := QgR (x := x) hx (by omega) (show St cx _ (mL p c fr g.nx _) from hS.sp)) (p := by rintro u9 w9 ⟨he, hS⟩; (repeat (first | refine Qc ?_ | refine Qd ?_ | refine fun _ => ?_)); refine Qp ?_; refine .inr ⟨_, rfl, ?_⟩; rcases he with ⟨e0, rfl⟩ | ⟨⟨v3, hv3, hk4⟩, e0, rfl⟩; exact .inl ⟨hX.trans ((Q4 hv).trans ((Q4 hnn).trans (QgQ (e0 v hv)))), rfl, hS.sp⟩; obtain rfl : v = v3 := Option.some.inj (hv.symm.trans hv3); exact .inr ⟨2, hX.trans ((Q4 hv).trans ((Q4 hnn).trans (QgS hk4 e0))), rfl, fr, g.nx, N, by omega, hS.sp⟩) (h := ?_); rintro u1 w1 ⟨⟨v3, hv3, hk4⟩, e0, rfl, hS⟩; obtain rfl : v = v3 := Option.some.inj (hv.symm.trans hv3))
                                                   all_goals (refine zn ?_; refine Q1 ?_; refine zm ?_; refine zv hS ?_; refine zB1 hS [_, _, _, _] ?_; intro b1 w1 hS; have hS := St.slOf (T := 108) (es := 4) (css := [(h.get v n).1].map Val.cells) hS rfl (by simp [Val.cells]) rfl; have hS : St cx _ (mL p c fr g.nx (sl 108 4 (.slice (some ⟨b1, 0, none⟩) 1 1) ([(h.get v n).1].map Val.cells) :: Q1D (N) c.hp (h) :: sl 2 1 c.ov (Qs out) :: blk p3 42 [.int .i64 x.op, .int .i64 x.a, .int .i64 x.b, .int .i64 x.c, .int .i64 x.k, .int .i64 x.n, vr, va] :: L)) := hS.sp; refine zR2 (c := Q7U (j := 0) (by omega) (by show g.vals.length + 1 ≤ 1000000; omega) hS rfl) (h := ?_); rintro u1 w1 ⟨tv, rfl, hS⟩; refine zn ?_; have hG : GoS p c N fu ((msOf h g.nx fr inp out fu).ins m x) cx L (.tuple #[]) w1 := ⟨c.lv, c.iv, c.ov, fr, g.nx.push tv [(h.get v n).1], N, h, inp, out, hX.trans ((Q4 hv).trans ((Q4 hnn).trans (QgT hk4 e0))), hi, by omega, rfl, hS.sp⟩; refine QG ?_; exact .inl ⟨_, rfl, hG⟩)
                                               · skip
                                                 all_goals (refine zC [(0, none), (1, none), (2, none), (3, none), (4, none), (5, none), (6, none), (8, none), (9, none), (10, none), (16, some (some [3, 6, 10])), (7, some (some [3, 10])), (11, some (some [3])), (12, some none), (13, none), (14, none), (15, none), (17, some (some [])), (18, some none)] ?_; have hS := hS.drew; refine s_cq ?_; refine zm ?_; refine zt ?_; refine s_cq ?_; refine znc ?_; refine zt ?_; refine s_cq ?_; refine zf0 ?_; refine zt ?_; refine s_cq ?_; refine zl hS ?_; refine zt ?_; refine s_cq ?_; refine zm ?_; refine zt ?_; refine s_cq ?_; refine zf0 ?_; refine zt ?_; refine s_cq ?_; refine zl hS ?_; refine zt ?_; refine s_cq ?_; refine zm ?_; refine zt ?_; refine s_cq ?_; refine zf0 ?_; refine zt ?_; refine s_cq ?_; refine zl hS ?_; refine zt ?_; refine Qi ?_; refine Q8 hS ?_; intro p10 w1 hS; refine zt ?_; refine zy ?_; refine Qi ?_; refine zE2 (c := Q3X (by omega) (show St cx _ (mL p c fr g.nx _) from hS.sp)) (p := by rintro u9 w9 ⟨hv, rfl, hS⟩; (repeat (first | refine Qc ?_ | refine Qd ?_ | refine fun _ => ?_)); refine Qp ?_; refine .inr ⟨_, rfl, ?_⟩; exact .inl ⟨hX.trans (QF hv), rfl, hS.sp⟩) (h := ?_); rintro u1 w2 ⟨v, hv, rfl, hS⟩)
                                                 all_goals (refine zt ?_; refine zy ?_; refine Qi ?_; refine zE2 (c := Qb0 (by omega) (show St cx _ (mL p c fr g.nx _) from hS.sp)) (p := by rintro u9 w9 ⟨hnn, rfl, hS⟩; (repeat (first | refine Qc ?_ | refine Qd ?_ | refine fun _ => ?_)); refine Qp ?_; refine .inr ⟨_, rfl, ?_⟩; exact .inl ⟨hX.trans ((Q4 hv).trans (QF hnn)), rfl, hS.sp⟩) (h := ?_); rintro u1 w2 ⟨n, hnn, rfl, hS⟩; refine zt ?_; refine zy ?_; refine s_cf ?_; refine zR3 (c := QeK (N := N) (s := h) (h := c.hp) v n hS fd) (h := ?_); rintro v1 w1 ⟨rfl, hS⟩; unfold Val.v Val.cells; refine zt ?_; refine s_cq ?_; refine zm ?_; refine zt ?_; refine s_cq ?_; refine zxt ?_; refine zt ?_; refine s_cq ?_; refine zxt ?_; refine zt ?_; refine Qi ?_; refine zsn hS ?_; intro w1 hS; have hS := hS.ns; refine zt ?_; refine zy ?_; refine s_cf ?_; refine zm ?_; refine zt ?_; refine zcn ?_; refine Q0 ?_; refine Q1 ?_; refine zm ?_; refine zv hS ?_; refine zm ?_)
                                                 all_goals (refine zE3 (c := QgR (x := x) hx (by omega) (show St cx _ (mL p c fr g.nx _) from hS.sp)) (p := by rintro u9 w9 ⟨he, hS⟩; (repeat (first | refine Qc ?_ | refine Qd ?_ | refine fun _ => ?_)); refine Qp ?_; refine .inr ⟨_, rfl, ?_⟩; rcases he with ⟨e0, rfl⟩ | ⟨⟨v3, hv3, hk4⟩, e0, rfl⟩; exact .inl ⟨hX.trans ((Q4 hv).trans ((Q4 hnn).trans (QgQ (e0 v hv)))), rfl, hS.sp⟩; obtain rfl : v = v3 := Option.some.inj (hv.symm.trans hv3); exact .inr ⟨2, hX.trans ((Q4 hv).trans ((Q4 hnn).trans (QgS hk4 e0))), rfl, fr, g.nx, N, by omega, hS.sp⟩) (h := ?_); rintro u1 w1 ⟨⟨v3, hv3, hk4⟩, e0, rfl, hS⟩; obtain rfl : v = v3 := Option.some.inj (hv.symm.trans hv3))
                                                 all_goals (refine zn ?_; refine Q1 ?_; refine zm ?_; refine zv hS ?_; refine zB1 hS [_, _, _, _] ?_; intro b1 w1 hS; have hS := St.slOf (T := 108) (es := 4) (css := [(h.get v n).1].map Val.cells) hS rfl (by simp [Val.cells]) rfl; have hS : St cx _ (mL p c fr g.nx (sl 108 4 (.slice (some ⟨b1, 0, none⟩) 1 1) ([(h.get v n).1].map Val.cells) :: Q1D (N) c.hp (h) :: sl 2 1 c.ov (Qs out) :: blk p3 42 [.int .i64 x.op, .int .i64 x.a, .int .i64 x.b, .int .i64 x.c, .int .i64 x.k, .int .i64 x.n, vr, va] :: L)) := hS.sp; refine zR2 (c := Q7U (j := 0) (by omega) (by show g.vals.length + 1 ≤ 1000000; omega) hS rfl) (h := ?_); rintro u1 w1 ⟨tv, rfl, hS⟩; refine zn ?_; have hG : GoS p c N fu ((msOf h g.nx fr inp out fu).ins m x) cx L (.tuple #[]) w1 := ⟨c.lv, c.iv, c.ov, fr, g.nx.push tv [(h.get v n).1], N, h, inp, out, hX.trans ((Q4 hv).trans ((Q4 hnn).trans (QgT hk4 e0))), hi, by omega, rfl, hS.sp⟩)
                                                 all_goals (refine QG ?_; exact .inl ⟨_, rfl, hG⟩))
                                            | (refine zcf ?_ -- Q7 c8
                                               all_goals (refine Q0 ?_; refine Q1 ?_)
                                               all_goals (first | (refine Qx ?_) | (refine QE ?_) | (refine Qb rfl rfl (fun hc => ?_) (fun hc => ?_)))
                                               all_goals (refine zm ?_; refine zn ?_)
                                               all_goals
                                                 first
                                                 | (refine zct ?_ -- Q7 c9
                                                    all_goals (refine Q0 ?_; have hX := xins_10 (m := m) (s := msOf h g.nx fr inp out fu) (x := x) (by omega); refine zC [(0, none), (1, none), (2, none), (3, none), (4, none), (5, none), (6, none), (8, none), (9, none), (10, none), (12, none), (13, none), (14, none), (7, some (some [3, 10, 14])), (11, some (some [3, 14])), (15, some (some [3])), (16, some (some [3])), (17, some none), (18, some none)] ?_; have hS := hS.drew; refine s_cq ?_; refine zm ?_; refine zt ?_; refine s_cq ?_; refine znc ?_; refine zt ?_; refine s_cq ?_; refine zf0 ?_; refine zt ?_; refine s_cq ?_; refine zl hS ?_; refine zt ?_; refine s_cq ?_; refine zm ?_; refine zt ?_; refine s_cq ?_; refine zf0 ?_; refine zt ?_; refine s_cq ?_; refine zl hS ?_; refine zt ?_; refine s_cq ?_; refine zm ?_; refine zt ?_; refine s_cq ?_; refine zf0 ?_; refine zt ?_; refine s_cq ?_; refine zl hS ?_; refine zt ?_; refine s_cq ?_; refine zm ?_; refine zt ?_; refine s_cq ?_; refine zf0 ?_; refine zt ?_; refine s_cq ?_; refine zl hS ?_)
                                                    all_goals (refine zt ?_; refine Qi ?_; refine zE2 (c := Q3X (by omega) (show St cx _ (mL p c fr g.nx _) from hS.sp)) (p := by rintro u9 w9 ⟨hv, rfl, hS⟩; (repeat (first | refine Qc ?_ | refine Qd ?_ | refine fun _ => ?_)); refine Qp ?_; refine .inr ⟨_, rfl, ?_⟩; exact .inl ⟨hX.trans (QF hv), rfl, hS.sp⟩) (h := ?_); rintro u1 w2 ⟨v, hv, rfl, hS⟩; refine zt ?_; refine zy ?_; refine Qi ?_; refine zE2 (c := Qb0 (by omega) (show St cx _ (mL p c fr g.nx _) from hS.sp)) (p := by rintro u9 w9 ⟨hnn, rfl, hS⟩; (repeat (first | refine Qc ?_ | refine Qd ?_ | refine fun _ => ?_)); refine Qp ?_; refine .inr ⟨_, rfl, ?_⟩; exact .inl ⟨hX.trans ((Q4 hv).trans (QF hnn)), rfl, hS.sp⟩) (h := ?_); rintro u1 w2 ⟨n, hnn, rfl, hS⟩; refine zt ?_; refine zy ?_; refine Qi ?_; refine zE2 (c := Qb0 (by omega) (show St cx _ (mL p c fr g.nx _) from hS.sp)) (p := by rintro u9 w9 ⟨hyy, rfl, hS⟩; (repeat (first | refine Qc ?_ | refine Qd ?_ | refine fun _ => ?_)); refine Qp ?_; refine .inr ⟨_, rfl, ?_⟩; exact .inl ⟨hX.trans ((Q4 hv).trans ((Q4 hnn).trans (QF hyy))), rfl, hS.sp⟩) (h := ?_); rintro u1 w2 ⟨y, hyy, rfl, hS⟩; refine zt ?_; refine zy ?_; refine Qi ?_; refine zR1 (c := Q9W hS) (h := ?_); rintro v1 w1 ⟨rfl, hS⟩; refine zt ?_; refine zy ?_; refine s_cf ?_; refine zR4 (c := hset_c (N := N) (s := h) (h := c.hp) v n (intV y) hS fd) (h := ?_); rintro v1 w1 ⟨rfl, hS⟩; have hS := hS.ns)
                                                    all_goals (refine zt ?_; refine s_cf ?_; refine zm ?_; refine zt ?_; refine zcn ?_; refine Q1 ?_; refine zm ?_; refine zv hS ?_; refine zm ?_)
                                                    all_goals (refine zE3 (c := QgR (x := x) hx (by omega) (show St cx _ (mL p c fr g.nx _) from hS.sp)) (p := by rintro u9 w9 ⟨he, hS⟩; (repeat (first | refine Qc ?_ | refine Qd ?_ | refine fun _ => ?_)); refine Qp ?_; refine .inr ⟨_, rfl, ?_⟩; rcases he with ⟨e0, rfl⟩ | ⟨⟨v3, hv3, hk4⟩, e0, rfl⟩; exact .inl ⟨hX.trans ((Q4 hv).trans ((Q4 hnn).trans ((Q4 hyy).trans (QgQ (e0 v hv))))), rfl, hS.sp⟩; obtain rfl : v = v3 := Option.some.inj (hv.symm.trans hv3); rw [Q9P (by omega)] at hS; exact .inr ⟨2, hX.trans ((Q4 hv).trans ((Q4 hnn).trans ((Q4 hyy).trans (QgS hk4 e0)))), rfl, fr, g.nx, N, by omega, hS.sp⟩) (h := ?_); rintro u1 w1 ⟨⟨v3, hv3, hk4⟩, e0, rfl, hS⟩; obtain rfl : v = v3 := Option.some.inj (hv.symm.trans hv3))
                                                    all_goals (refine zn ?_)
                                                    all_goals (have hG : GoS p c N fu ((msOf h g.nx fr inp out fu).ins m x) cx L (.tuple #[]) w1 := ⟨c.lv, c.iv, c.ov, fr, g.nx, N, h.set v n (intV y), inp, out, hX.trans ((Q4 hv).trans ((Q4 hnn).trans ((Q4 hyy).trans (QgT hk4 e0)))), hi, by omega, rfl, hS.sp⟩))
                                                 | (refine zcf ?_ -- Q7 c9
                                                    all_goals (refine Q0 ?_; refine Q1 ?_)
                                                    all_goals (first | (refine Qx ?_) | (refine QE ?_) | (refine Qb rfl rfl (fun hc => ?_) (fun hc => ?_)))
                                                    all_goals (refine zm ?_; refine zn ?_)
                                                    all_goals
                                                      first
                                                      | (refine zct ?_ -- Q7 c10
                                                         all_goals (refine Q0 ?_; have hX := xins_11 (m := m) (s := msOf h g.nx fr inp out fu) (x := x) (by omega); refine zC [(0, none), (1, none), (2, none), (3, none), (4, none), (5, none), (6, none), (7, some (some [3])), (8, some none), (9, none), (10, none), (11, none), (12, none), (13, some none)] ?_; have hS := hS.drew; refine s_cq ?_; refine zm ?_; refine zt ?_; refine s_cq ?_; refine znc ?_; refine zt ?_; refine s_cq ?_; refine zf0 ?_; refine zt ?_; refine s_cq ?_; refine zl hS ?_; refine zt ?_; refine s_cq ?_; refine zm ?_; refine zt ?_; refine s_cq ?_; refine zf0 ?_; refine zt ?_; refine s_cq ?_; refine zl hS ?_; refine zt ?_; refine Qi ?_; refine zE2 (c := Q3X (by omega) (show St cx _ (mL p c fr g.nx _) from hS.sp)) (p := by rintro u9 w9 ⟨hv, rfl, hS⟩; (repeat (first | refine Qc ?_ | refine Qd ?_ | refine fun _ => ?_)); refine Qp ?_; refine .inr ⟨_, rfl, ?_⟩; exact .inl ⟨hX.trans (QF hv), rfl, hS.sp⟩) (h := ?_); rintro u1 w2 ⟨v, hv, rfl, hS⟩; refine zt ?_; refine zy ?_; refine s_cf ?_; refine zR2 (c := hlen_c (N := N) (s := h) (h := c.hp) v hS fd) (h := ?_); rintro v1 w1 ⟨rfl, hS⟩; refine zt ?_; refine s_cq ?_; refine zm ?_)
                                                         all_goals (refine zt ?_; refine s_cq ?_; refine zxt ?_; refine zt ?_; refine s_cq ?_; refine zxt ?_; refine zt ?_; refine s_cq ?_; refine zm ?_; refine zt ?_; refine s_cf ?_; refine zm ?_; refine zt ?_; refine zcn ?_; refine Q0 ?_; refine Q1 ?_; refine zm ?_; refine zv hS ?_; refine zm ?_)
                                                         all_goals (refine zE3 (c := QgR (x := x) hx (by omega) (show St cx _ (mL p c fr g.nx _) from hS.sp)) (p := by rintro u9 w9 ⟨he, hS⟩; (repeat (first | refine Qc ?_ | refine Qd ?_ | refine fun _ => ?_)); refine Qp ?_; refine .inr ⟨_, rfl, ?_⟩; rcases he with ⟨e0, rfl⟩ | ⟨⟨v3, hv3, hk4⟩, e0, rfl⟩; exact .inl ⟨hX.trans ((Q4 hv).trans (QgQ (e0 v hv))), rfl, hS.sp⟩; obtain rfl : v = v3 := Option.some.inj (hv.symm.trans hv3); exact .inr ⟨2, hX.trans ((Q4 hv).trans (QgS hk4 e0)), rfl, fr, g.nx, N, by omega, hS.sp⟩) (h := ?_); rintro u1 w1 ⟨⟨v3, hv3, hk4⟩, e0, rfl, hS⟩; obtain rfl : v = v3 := Option.some.inj (hv.symm.trans hv3))
                                                         all_goals (refine zn ?_; refine Q1 ?_; refine zm ?_; refine zm ?_; refine zR1 (c := Q9W hS) (h := ?_); rintro v1 w1 ⟨rfl, hS⟩; unfold Val.v Val.cells; refine zB1 hS [_, _, _, _] ?_; intro b1 w1 hS; have hS := St.slOf (T := 108) (es := 4) (css := [intV (h.len v).1].map Val.cells) hS rfl (by simp [Val.cells]) rfl; have hS : St cx _ (mL p c fr g.nx (sl 108 4 (.slice (some ⟨b1, 0, none⟩) 1 1) ([intV (h.len v).1].map Val.cells) :: Q1D (N) c.hp (h) :: sl 2 1 c.ov (Qs out) :: blk p3 42 [.int .i64 x.op, .int .i64 x.a, .int .i64 x.b, .int .i64 x.c, .int .i64 x.k, .int .i64 x.n, vr, va] :: L)) := hS.sp; refine zR2 (c := Q7U (j := 0) (by omega) (by show g.vals.length + 1 ≤ 1000000; omega) hS rfl) (h := ?_); rintro u1 w1 ⟨tv, rfl, hS⟩; refine zn ?_)
                                                         all_goals (have hG : GoS p c N fu ((msOf h g.nx fr inp out fu).ins m x) cx L (.tuple #[]) w1 := ⟨c.lv, c.iv, c.ov, fr, g.nx.push tv [intV (h.len v).1], N, h, inp, out, hX.trans ((Q4 hv).trans (QgT hk4 e0)), hi, by omega, rfl, hS.sp⟩))
                                                      | (refine zcf ?_ -- Q7 c10
                                                         all_goals (refine Q0 ?_; refine Q1 ?_)
                                                         all_goals (first | (refine Qx ?_) | (refine QE ?_) | (refine Qb rfl rfl (fun hc => ?_) (fun hc => ?_)))
                                                         all_goals (refine zm ?_; refine zn ?_)
                                                         all_goals
                                                           first
                                                           | (refine zct ?_ -- Q7 c11
                                                              all_goals (refine Q0 ?_; have hX := xins_12 (m := m) (s := msOf h g.nx fr inp out fu) (x := x) (by omega); obtain ⟨av, nv, hiv⟩ := Rep.SR.shape hi; refine Q1 ?_; refine zm ?_; refine znc ?_; refine zf0 ?_; refine zl hS ?_; refine s_lenL vw hi ?_)
                                                              all_goals (first | (refine Qx ?_) | (refine QE ?_) | (refine Qb rfl rfl (fun hc => ?_) (fun hc => ?_)))
                                                              all_goals (first | (refine zR2 (c := Q7B hS) (h := ?_); rintro v1 w1 ⟨rfl, hS⟩) | (refine zE2 (c := Q7A hS) (p := by rintro v9 w9 ⟨rfl, hS⟩; (repeat (first | refine Qc ?_ | refine Qd ?_ | refine fun _ => ?_)); refine Qp ?_; refine .inr ⟨_, rfl, ?_⟩; first | (first | exact .inr ⟨8, hX.trans ((Q4 hnn).trans (out_0 (by show out.length = 2000; omega))), rfl, fr, g.nx, N, by omega, hS.sp⟩ | exact .inr ⟨4, hX.trans (in_0 (List.length_eq_zero_iff.1 (by show inp.length = 0; omega))), rfl, fr, g.nx, N, by omega, hS.sp⟩)) (h := fun _ _ h => h.elim)))
                                                              all_goals (refine zn ?_; refine Q0 ?_; obtain ⟨n0, r0, hir⟩ : ∃ n0 r0, inp = n0 :: r0 := List.exists_cons_of_length_pos (by omega); refine Q1 ?_; refine zm ?_; refine zm ?_; refine znc ?_; refine zf0 ?_; refine zl hS ?_)
                                                              all_goals (refine Qk5 (m := 0) vw rfl hi rfl (by omega) ?_; intro b8 o8 cs8 x8 hat8 hx8 he8; rw [hir, List.getElem?_cons_zero] at hx8; cases hx8; obtain rfl := Q4I he8)
                                                              all_goals ((first | (refine zl hS ?_) | (refine zlk hS ?_)); refine zR1 (c := Q9W hS) (h := ?_); rintro v1 w1 ⟨rfl, hS⟩; unfold Val.v Val.cells; refine zB1 hS [_, _, _, _] ?_; intro b1 w1 hS; have hS := St.slOf (T := 108) (es := 4) (css := [intV n0].map Val.cells) hS rfl (by simp [Val.cells]) rfl; have hS : St cx _ (mL p c fr g.nx (sl 108 4 (.slice (some ⟨b1, 0, none⟩) 1 1) ([intV n0].map Val.cells) :: Q1D (N) c.hp (h) :: sl 2 1 c.ov (Qs out) :: blk p3 42 [.int .i64 x.op, .int .i64 x.a, .int .i64 x.b, .int .i64 x.c, .int .i64 x.k, .int .i64 x.n, vr, va] :: L)) := hS.sp; refine zR2 (c := Q7U (j := 0) (by omega) (by show g.vals.length + 1 ≤ 1000000; omega) hS rfl) (h := ?_); rintro u1 w1 ⟨tv, rfl, hS⟩; refine zn ?_; refine Q1 ?_; refine zm ?_; refine zm ?_; refine znc ?_; refine zf0 ?_; refine zl hS ?_; refine s_subL (l' := 1) (h' := inp.length) vw hi rfl rfl rfl ⟨_, rfl⟩ (by omega) (by omega) ?_; intro v7 hk7; have hk7 : intR.sl cx v7 r0 := (by rw [hir] at hk7; simpa using hk7); obtain ⟨a7, n7, rfl⟩ := Rep.SR.shape hk7; refine znc ?_; refine zf0 ?_; refine zst hS ?_; intro w1 hS; have hS := hS.ns)
                                                              all_goals (refine zn ?_)
                                                              all_goals (have hG : GoS p c N fu ((msOf h g.nx fr inp out fu).ins m x) cx L (.tuple #[]) w1 := ⟨c.lv, _, c.ov, fr, g.nx.push tv [intV n0], N, h, r0, out, hX.trans (in_s hir), hk7, by omega, rfl, hS.sp⟩))
                                                           | (refine zcf ?_ -- Q7 c11
                                                              all_goals (refine Q0 ?_; refine Q1 ?_)
                                                              all_goals (first | (refine Qx ?_) | (refine QE ?_) | (refine Qb rfl rfl (fun hc => ?_) (fun hc => ?_)))
                                                              all_goals (refine zm ?_; refine zn ?_)
                                                              all_goals
                                                                first
                                                                | (refine zct ?_ -- Q7 c12
                                                                   all_goals (refine Q0 ?_; have hX := xins_13 (m := m) (s := msOf h g.nx fr inp out fu) (x := x) (by omega); refine Q1 ?_; refine zm ?_; refine zf0 ?_; refine zl hS ?_; refine zE2 (c := Qb0 (by omega) (show St cx _ (mL p c fr g.nx _) from hS.sp)) (p := by rintro u9 w9 ⟨hnn, rfl, hS⟩; (repeat (first | refine Qc ?_ | refine Qd ?_ | refine fun _ => ?_)); refine Qp ?_; refine .inr ⟨_, rfl, ?_⟩; exact .inl ⟨hX.trans (QF hnn), rfl, hS.sp⟩) (h := ?_); rintro u1 w2 ⟨n, hnn, rfl, hS⟩; refine zm ?_; refine zn ?_; refine Q0 ?_; refine Q1 ?_; refine zm ?_; refine znc ?_; refine zf0 ?_; (first | refine zf0 ?_ | refine zfd ?_); refine zl hS ?_; refine Q2h (n := out.length) hS vw fd (List.length_map _) ?_)
                                                                   all_goals (first | (refine Qx ?_) | (refine QE ?_) | (refine Qb rfl rfl (fun hc => ?_) (fun hc => ?_)))
                                                                   all_goals (first | (refine zR2 (c := Q7B hS) (h := ?_); rintro v1 w1 ⟨rfl, hS⟩) | (refine zE2 (c := Q7A hS) (p := by rintro v9 w9 ⟨rfl, hS⟩; (repeat (first | refine Qc ?_ | refine Qd ?_ | refine fun _ => ?_)); refine Qp ?_; refine .inr ⟨_, rfl, ?_⟩; first | (exact .inr ⟨8, hX.trans ((Q4 hnn).trans (out_0 (by show out.length = 2000; omega))), rfl, fr, g.nx, N, by omega, hS.sp⟩)) (h := fun _ _ h => h.elim)))
                                                                   all_goals (refine zn ?_; refine Q1 ?_; refine zm ?_; refine zm ?_; refine znc ?_; refine zf0 ?_; (first | refine zf0 ?_ | refine zfd ?_); refine zl hS ?_; refine zm ?_; refine zB1 hS [_] ?_; intro b1 w1 hS; refine Q3w QgX (.inl Qma) hS vw vw (v := c.ov) (css := Qs out) fd (hS.srcB fd (by rfl) (by simp [oneC])) (by rw [List.length_map]; simp only [List.length_cons, List.length_nil]; omega) ?_; intro v7 w7 hS; have hS := hS.ns; have ho7 := hS.oneC (v := v7) (css := Qs out ++ [[.int .i64 n]]) fd; rw [QlU] at hS; refine znc ?_; refine zf0 ?_; (first | refine zf0 ?_ | refine zfd ?_); refine zst hS ?_; intro w1 hS; have hS := hS.ns; refine zn ?_)
                                                                   all_goals (have hG : GoS p c N fu ((msOf h g.nx fr inp out fu).ins m x) cx L (.tuple #[]) w1 := ⟨c.lv, c.iv, v7, fr, g.nx, N, h, inp, out ++ [n], hX.trans ((Q4 hnn).trans (out_s (by show out.length ≠ 2000; omega))), hi, by omega, rfl, hS.sp⟩))
                                                                | (refine zcf ?_ -- Q7 c12
                                                                   all_goals (refine Q0 ?_; refine Q1 ?_)
                                                                   all_goals (refine Qx ?_)
                                                                   all_goals (refine zm ?_; refine zn ?_)
                                                                   all_goals
                                                                     first
                                                                     | (refine zct ?_ -- Q7 c13
                                                                        all_goals (have hX := xins_14 (m := m) (s := msOf h g.nx fr inp out fu) (x := x) (by omega); rw [hX]; obtain ⟨hk0, hk1⟩ := hk (by omega); refine Q1 ?_; refine zm ?_; refine zv hS ?_; refine zE2 (c := call_c (inp := inp) (fu := fu) (x := x) hx hfn hi hk0 hk1 h6 h8 (by omega) hS) (p := by rintro u9 w9 hB; (repeat (first | refine Qc ?_ | refine Qd ?_ | refine fun _ => ?_)); refine Qp ?_; refine .inr ⟨_, rfl, ?_⟩; exact hB.drop) (h := ?_); rintro u1 w1 hG; refine zn ?_)
                                                                        all_goals (have hG := hG.drop; obtain ⟨rfl, hG⟩ := hG.tup))))))
                                               all_goals (refine QG ?_; exact .inl ⟨_, rfl, hG⟩))))))))))
end Go.Proofs.Yteflkifmgnpbhaa
namespace Go.Proofs.Yteflkifmgnpbhaa
open Go.Lir
set_option maxHeartbeats 1000000
attribute [local irreducible] LC.wp Q2 Qy QD retQ Q1n LO.wp Ql Calls
set_option linter.unusedSimpArgs false
set_option linter.unusedVariables false
variable {cx : Cx} {w : World} {L : List Res}
theorem QmO (f : Nat) (hf : f ≤ 1000000) (hS : St cx w L) : Rets Try.prog Qfe [.int .i64 f] w fun u w' => u = .int .i64 (Q3E f) ∧ St cx w' L := by
  unfold Q3E
  all_goals refine Qgg ?_
  all_goals (unfold code_FuncAt_lc; refine Q0 ?_; refine Q1 ?_; refine zm ?_; refine zn ?_; refine Q0 ?_; refine Q1 ?_; refine zm ?_; refine zmu ?_; refine zad ?_; refine zm ?_; refine zn ?_; refine zr ?_; refine zf ?_; refine ⟨_, rfl, ?_, hS.sp⟩; (rfl); done)
theorem QlL (f b : Nat) (hf : f ≤ 1000000) (hb : b ≤ 1000000) (hS : St cx w L) : Rets Try.prog Qcx [.int .i64 f, .int .i64 b] w fun u w' => u = .int .i64 (Q4a f b) ∧ St cx w' L := by
  unfold Q4a
  all_goals refine Qfk ?_
  all_goals (unfold code_BlockAt_lc; refine Q0 ?_; refine Q1 ?_; refine zm ?_; refine zn ?_; refine Q0 ?_; refine Q1 ?_; refine zm ?_; refine zmu ?_; refine zm ?_; refine zmu ?_; refine zad ?_; refine zad ?_; refine zm ?_; refine zn ?_; refine zr ?_; refine zf ?_; refine ⟨_, rfl, ?_, hS.sp⟩; (rfl); done)
theorem Qlm (f b : Nat) (hf : f ≤ 1000000) (hb : b ≤ 1000000) (hS : St cx w L) : Rets Try.prog Qh1 [.int .i64 f, .int .i64 b] w fun u w' => u = .int .i64 (Qgs f b) ∧ St cx w' L := by
  unfold Qgs
  all_goals refine Qi1 ?_
  all_goals (unfold code_EndAt_lc; refine Q0 ?_; refine Q1 ?_; refine zm ?_; refine zn ?_; refine Q0 ?_; refine Q1 ?_; refine zm ?_; refine zmu ?_; refine zm ?_; refine zmu ?_; refine zad ?_; refine zad ?_; refine zm ?_; refine zn ?_; refine zr ?_; refine zf ?_; refine ⟨_, rfl, ?_, hS.sp⟩; (rfl); done)
theorem Qll (f b i : Nat) (hf : f ≤ 1000000) (hb : b ≤ 1000000) (hi : i ≤ 1000000) (hS : St cx w L) : Rets Try.prog Qh0 [.int .i64 f, .int .i64 b, .int .i64 i] w fun u w' => u = .int .i64 (Qjz f b i) ∧ St cx w' L := by
  unfold Qjz
  all_goals refine QhY ?_
  all_goals (unfold code_InsAt_lc; refine Q0 ?_; refine Q1 ?_; refine zm ?_; refine zn ?_; refine Q0 ?_; refine Q1 ?_; refine zm ?_; refine zmu ?_; refine zm ?_; refine zmu ?_; refine zad ?_; refine zm ?_; refine zad ?_; refine zm ?_; refine zn ?_; refine zr ?_; refine zf ?_; refine ⟨_, rfl, ?_, hS.sp⟩; (rfl); done)
theorem rF_c {c a : Int} (hS : St cx w L) : Rets Try.prog R_F [.int .i64 c, .int .i64 a] w fun u w' => u = .agg ⟨[.int .i64 c, .int .i64 a]⟩ ∧ St cx w' L := by
  all_goals refine R_F_in ?_
  all_goals (unfold R_F_lc; refine Q0 ?_; refine Q1 ?_; refine Q8 hS ?_; intro p4 w1 hS; refine zn ?_; refine Q0 ?_; refine Q1 ?_; refine zm ?_; refine zm ?_; refine zb2 [_, _] ?_; refine zsn hS ?_; intro w1 hS; have hS := hS.ns; refine zn ?_; refine zr ?_; refine Q2W vw (Qg (n := 2) (by kernel_rfl) (by kernel_rfl) (hS.blkAt fd) (by rfl) (by rfl)) ?_; refine ⟨_, rfl, ?_, hS.sp⟩; (rfl); done)
end Go.Proofs.Yteflkifmgnpbhaa
