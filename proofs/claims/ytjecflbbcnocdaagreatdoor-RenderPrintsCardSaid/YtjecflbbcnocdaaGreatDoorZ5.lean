/- Lemmas of the proof, part 5: what the functions of the program do (contracts), and what follows. -/
import Derived.Test.YtjecflbbcnocdaaGreatDoorZ2
import Derived.Test.YtjecflbbcnocdaaGreatDoorZ3
import Derived.Test.YtjecflbbcnocdaaGreatDoorZ4
import Derived.Test.YtjecflbbcnocdaaGreatDoorZ1
import Derived.Test.YtjecflbbcnocdaaGreatDoorRows
import Derived.ProofKit
import Derived.LaidMore
import Derived.OpenShut
import Derived.Stop.LaidErr
import Derived.Lib.LaidTab
import Derived.MakeChecks
namespace Go.Proofs.YtjecflbbcnocdaaGreatDoor
open Go.Lir
set_option maxHeartbeats 1000000
attribute [local irreducible] LC.wp Q3 QW Q13 retQ Q2i LO.wp Qv Calls
set_option linter.unusedSimpArgs false
set_option linter.unusedVariables false
variable {cx : Cx} {w : World} {L : List Res}
theorem Q3L {l : List Int} {j : Nat} {n : Int} (h : l[j]? = some n) : smallL (l.drop j) = (smallN n && smallL (l.drop (j + 1))) := by unfold smallL; rw [Q7 h, List.all_cons]
theorem Qmv {l : List Int} {j : Nat} (h : l.length ≤ j) : smallL (l.drop j) = true := by unfold smallL; rw [List.drop_of_length_le h]; rfl
theorem Q3e {l : List Int} {v : Value} (hl : intR.sl cx v l) (hS : St cx w L) : Rets Tryz.prog QaR [v] w fun u w' => u = .bool (smallL l) ∧ St cx w' L := by
  have hlen := hl.len
  all_goals refine Qnw ?_
  all_goals (unfold R_small_lc; refine Q0 ?_; refine Q2 ?_; refine zm ?_; refine zn ?_; refine Q0 ?_; refine Q0 ?_; refine Q2 ?_; refine zm ?_; refine zn ?_; refine Q8 ?_)
  refine zoL hS [0] (fun A LL ρ' w' => ∃ (j : Nat), Has ρ' A ∧ Has ρ' [(3, .int .i64 j)] ∧ (j ≤ l.length) ∧ (smallL l = smallL (l.drop j)) ∧ St cx w' (LL)) (fun ρ' _ => (l.length - iv (ρ' 3)).toNat) ?_ ?_
  · exact ⟨0, zh, zh, (by omega), by rw [List.drop_zero], hS.sp⟩
  rintro ρ w1 ⟨j, hA, hρ, hj, hd, hS⟩; obtain ⟨ρ, rfl⟩ := env2 hA hρ
  unfold Qfu
  all_goals (refine Q0 ?_; refine Q0 ?_; refine Q2 ?_; refine zm ?_; refine zm ?_; refine zL ?_; refine Qp rfl rfl ?_; refine zn ?_)
  refine Ql rfl (fun hc => ?_) (fun hc => ?_)
  · skip
    all_goals (refine zsk ?_; refine Q0 ?_; refine Q8 ?_; refine Q0 ?_; refine Q2 ?_; refine zm ?_; refine zm ?_; refine zi ?_; intro b1 o1 cs1 x1 hat1 hx1 he1; obtain rfl := Q3i he1; (first | (refine zl hS ?_) | (refine zlk hS ?_)))
    all_goals (first | (refine Q1z ?_) | (refine Q1A ?_) | (refine QK rfl rfl (fun hc => ?_) (fun hc => ?_)))
    all_goals (refine zm ?_; (first | refine s_gn rfl rfl ?_ | (refine s_gy rfl ?_; refine zm ?_)); (first | refine s_gn rfl rfl ?_ | (refine s_gy rfl ?_; refine zm ?_)); (first | refine s_gn rfl rfl ?_ | (refine s_gy rfl ?_; refine zi ?_; intro b2 o2 cs2 x2 hat2 hx2 he2; obtain rfl := Q3i he2)); (first | refine s_gn rfl rfl ?_ | (refine s_gy rfl ?_; (first | (refine zl hS ?_) | (refine zlk hS ?_)))))
    all_goals (first | refine s_gn rfl rfl ?_ | (refine s_gy rfl ?_; (first | (refine Qz ?_) | (refine QF ?_) | (refine Qh rfl rfl (fun hc => ?_) (fun hc => ?_)))))
    all_goals ((first | (refine zpt ?_) | (refine zpf ?_)); refine zn ?_)
    all_goals
      first
      | (refine Q5 rfl ?_ -- QaR c1
         all_goals (refine Q0 ?_; refine Q2 ?_; refine zm ?_; refine zn ?_; refine zr ?_; refine zf ?_)
         all_goals (first | (refine ⟨_, rfl, ?_, hS.sp⟩; rw [hd, Q3L hx1, show smallN x1 = false from decide_eq_false (by omega), Bool.false_and]; done) | (refine ⟨_, rfl, ?_, hS.sp⟩; rw [hd, Q3L hx2, show smallN x2 = false from decide_eq_false (by omega), Bool.false_and]; done)))
      | (refine Q4 rfl ?_ -- QaR c1
         all_goals refine zsk ?_)
    all_goals (refine Q2 ?_; refine zm ?_; refine zad ?_; refine zm ?_; refine zn ?_; exact ⟨⟨j + 1, zh, zh, (by omega), by have e9 := Option.some.inj (hx1.symm.trans hx2); rw [hd, Q3L hx1, show smallN x1 = true from decide_eq_true (by omega), Bool.true_and], hS.sp⟩, Qk (by omega)⟩)
  · skip
    all_goals (refine zex ?_; refine Q0 ?_; refine Q2 ?_; refine zm ?_; refine zn ?_; refine zr ?_; refine zf ?_; (first | (refine ⟨_, rfl, ?_, hS.sp⟩; rw [hd, Q3L hx1, show smallN x1 = false from decide_eq_false (by omega), Bool.false_and]; done) | (refine ⟨_, rfl, ?_, hS.sp⟩; rw [hd, Q3L hx2, show smallN x2 = false from decide_eq_false (by omega), Bool.false_and]; done) | (refine ⟨_, rfl, ?_, hS.sp⟩; rw [hd, Qmv (by omega)]; done)))
theorem see_c {l : List Int} {v : Value} {q : Bool} {b : Nat} (hl : intR.sl cx v l) (hS : St cx w (blk b 4 [.bool q] :: L)) :
    Rets Tryz.prog Q2f [v, .pointer (some ⟨b, 0, none⟩)] w fun u w' => u = .tuple #[] ∧ St cx w' (blk b 4 [.bool (q && smallL l)] :: L) := by
  have hlen := hl.len
  all_goals refine Q5m ?_
  all_goals (unfold render_numbers_1_lc; refine Q0 ?_; refine Q2 ?_; refine zm ?_; refine zL ?_; refine zm ?_; refine zn ?_; refine Q8 ?_)
  refine zo [1, 5, 6] (fun A ρ' w' => ∃ (j : Nat) (q2 : Bool), Has ρ' A ∧ Has ρ' [(7, .int .i64 j)] ∧ (j ≤ l.length) ∧ ((q && smallL l) = (q2 && smallL (l.drop j))) ∧ St cx w' (blk b 4 [.bool q2] :: L)) (fun ρ' _ => (l.length - iv (ρ' 7)).toNat) ?_ ?_
  · exact ⟨0, q, zh, zh, (by omega), by rw [List.drop_zero], hS.sp⟩
  rintro ρ w1 ⟨j, q2, hA, hρ, hj, hd, hS⟩; obtain ⟨ρ, rfl⟩ := env2 hA hρ
  unfold Q35
  all_goals (refine Q0 ?_; refine Q2 ?_; refine Qp rfl rfl ?_; refine zn ?_; refine Q0 ?_)
  refine Ql rfl (fun hc => ?_) (fun hc => ?_)
  · skip
    all_goals (refine zsk ?_; refine Q0 ?_; refine Q8 ?_; refine Q0 ?_; refine Q2 ?_; refine zi ?_; intro b1 o1 cs1 x1 hat1 hx1 he1; obtain rfl := Q3i he1; (first | (refine zl hS ?_) | (refine zlk hS ?_)); refine zm ?_; refine zn ?_)
    all_goals (cases q2)
    all_goals (refine Q2 ?_; refine zl hS ?_; refine zm ?_; (first | refine s_gn rfl rfl ?_ | (refine s_gy rfl ?_; refine zm ?_)))
    all_goals (first | refine s_gn rfl rfl ?_ | (refine s_gy rfl ?_; (first | (refine Q9k ?_) | (refine Q9l ?_) | (refine Q34 rfl rfl (fun hc => ?_) (fun hc => ?_)))))
    all_goals ((first | (refine zpt ?_) | (refine zpf ?_)); refine zm ?_; (first | refine s_gn rfl rfl ?_ | (refine s_gy rfl ?_; refine zm ?_)))
    all_goals (first | refine s_gn rfl rfl ?_ | (refine s_gy rfl ?_; (first | (refine zleqt ?_) | (refine zleqf ?_) | (refine QnV rfl rfl (fun hc => ?_) (fun hc => ?_)))))
    all_goals ((first | (refine zpt ?_) | (refine zpf ?_)); refine zst hS ?_; intro w1 hS; have hS := hS.ns; refine zn ?_; refine Q2 ?_; refine zad ?_; refine zm ?_; refine zn ?_; (first | (exact ⟨⟨j + 1, false, zh, zh, (by omega), by rw [hd, Bool.false_and, Bool.false_and], hS.sp⟩, Qk (by omega)⟩) | (exact ⟨⟨j + 1, true, zh, zh, (by omega), by rw [hd, Q3L hx1, show smallN x1 = true from decide_eq_true (by omega), Bool.true_and], hS.sp⟩, Qk (by omega)⟩) | (exact ⟨⟨j + 1, false, zh, zh, (by omega), by rw [hd, Q3L hx1, show smallN x1 = false from decide_eq_false (by omega), Bool.false_and, Bool.true_and], hS.sp⟩, Qk (by omega)⟩)))
  · skip
    all_goals (refine zex ?_; refine Q3U ?_; rw [Qmv (by omega), Bool.and_true] at hd; rw [hd]; exact ⟨_, rfl, rfl, hS.sp⟩)
theorem Qji {l : List Int} {v : Value} {q : Bool} {b i : Nat} (hl : intR.sl cx v l) (hS : St cx w L) (hi : nth L i = some (blk b 4 [.bool q])) :
    Rets Tryz.prog Q2f [v, .pointer (some ⟨b, 0, none⟩)] w fun u w' => u = .tuple #[] ∧ St cx w' (L.set i (blk b 4 [.bool (q && smallL l)])) :=
  (see_c hl (hS.out hi)).mono fun _ _ ⟨h1, h2⟩ => ⟨h1, St.back h2 hi⟩
theorem Q7j : ∀ (l : List Int), (l.map QgK).flatten = l.map fun n => Value.int .i64 n
  | [] => rfl
  | x :: l => by rw [List.map_cons, List.flatten_cons, Q7j l]; rfl
/-- Some numbers that were just laid. -/
theorem QnN {T : Nat} {l : List Int} {q : Bool} {b b2 n i : Nat} (hS : St cx w (blk b2 T (l.map fun n => Value.int .i64 n) :: L)) (hi : nth L i = some (blk b 4 [.bool q])) (hn : l.length = n) (hm : n ≤ 10) :
    Rets Tryz.prog Q2f [.slice (some ⟨b2, 0, none⟩) n n, .pointer (some ⟨b, 0, none⟩)] w fun u w' => u = .tuple #[] ∧ St cx w' (L.set i (blk b 4 [.bool (q && smallL l)])) := by
  have hS2 : St cx w (sl T 1 (.slice (some ⟨b2, 0, none⟩) n n) (l.map QgK) :: L) := St.slOf hS (Q7j l) (by intro c hc; obtain ⟨x, _, rfl⟩ := List.mem_map.1 hc; rfl) (by rw [List.length_map]; exact hn)
  obtain ⟨c7, hle7, hS, hk7, hback⟩ := St.lend (r := intR) hS2 (l := l) ⟨by simp, fun m x hx => ⟨QgK x, by rw [List.getElem?_map, hx]; rfl, rfl⟩⟩ rfl (by omega)
  exact (Qji hk7 hS hi).mono fun _ _ ⟨h1, h2⟩ => ⟨h1, (hback h2).drop⟩
/-- All numbers of a module. -/
theorem Qno {α : Type} {p : α → Bool} {l : List α} {j : Nat} {x : α} (h : l[j]? = some x) : (l.drop j).all p = (p x && (l.drop (j + 1)).all p) := by rw [Q7 h, List.all_cons]
theorem QlM {α : Type} {p : α → Bool} {l : List α} {j : Nat} (h : l.length ≤ j) : (l.drop j).all p = true := by rw [List.drop_of_length_le h]; rfl
theorem Qoj {m : Module} {cs : List Value} (hx : modR.at cx cs m) (hS : St cx w L) : Rets Tryz.prog Q52 [.agg ⟨cs⟩] w fun u w' => u = .bool m.small ∧ St cx w' L := by
  obtain ⟨vf, rfl, hf⟩ := Q1B hx
  obtain ⟨l⟩ := m
  have hf : funcR.sl cx vf l := hf
  have hfl := hf.len
  all_goals refine Q7f ?_
  all_goals (unfold render_numbers_lc; refine Q0 ?_; refine Q2 ?_; refine zb hS ?_; intro p1 w1 hS; refine zm ?_; refine zn ?_; refine Q0 ?_; refine Q2 ?_; refine Qc hS ?_; intro p3 w1 hS; refine zst hS ?_; intro w1 hS; have hS := hS.ns; refine zn ?_; refine Q0 ?_; refine Q2 ?_; refine QnR (u := [.pointer (some ⟨p3, 0, none⟩)]) rfl ?_; refine zm ?_; refine zn ?_; refine Q0 ?_; refine Q0 ?_; refine Q2 ?_; refine Q1 rfl ?_; refine zl hS ?_; refine zL ?_; refine zm ?_; refine zn ?_; refine Q8 ?_)
  refine zo [3, 4, 15, 16] (fun A ρ' w' => ∃ (j : Nat) (q : Bool), Has ρ' A ∧ Has ρ' [(17, .int .i64 j)] ∧ (j ≤ l.length) ∧ (Module.small ⟨l⟩ = (q && (l.drop j).all Fun.small)) ∧ St cx w' (blk p3 4 [.bool q] :: blk p1 24 [vf] :: L)) (fun ρ' _ => (l.length - iv (ρ' 17)).toNat) ?_ ?_
  · exact ⟨0, true, zh, zh, (by omega), by rw [List.drop_zero, Bool.true_and]; rfl, hS.sp⟩
  rintro ρ w1 ⟨j, q, hA, hρ, hj, hd, hS⟩; obtain ⟨ρ, rfl⟩ := env2 hA hρ
  unfold Q3E
  all_goals (refine Q0 ?_; refine Q2 ?_; refine Qp rfl rfl ?_; refine zn ?_; refine Q0 ?_)
  refine Ql rfl (fun hc => ?_) (fun hc => ?_)
  · skip
    all_goals (refine zsk ?_; refine Q0 ?_; refine Q8 ?_; refine Q0 ?_; refine Q2 ?_; refine zi ?_; intro b1 o1 cs1 x1 hat1 hx1 he1; obtain ⟨vp1, vr1, vb1, rfl, hp1, hr1, hb1⟩ := QQ he1; (first | (refine zv hS ?_) | (refine zvk hS ?_)); refine Qc hS ?_; intro p6 w1 hS; refine zsn hS ?_; intro w1 hS; have hS := hS.ns; refine zn ?_; refine Q0 ?_; refine Q2 ?_; refine Q1 rfl ?_; refine zl hS ?_; refine zL ?_; refine zm ?_; refine zn ?_; refine Q8 ?_; have hbl := hb1.len)
    refine zo [3, 4, 15, 16, 17, 22, 23] (fun A ρ' w' => ∃ (j1 : Nat) (q1 : Bool), Has ρ' A ∧ Has ρ' [(24, .int .i64 j1)] ∧ (j1 ≤ x1.blocks.length) ∧ (Module.small ⟨l⟩ = (q1 && ((x1.blocks.drop j1).all Block.small && (l.drop (j + 1)).all Fun.small))) ∧ St cx w' (blk p6 43 [.int .i64 x1.regs, vp1, vr1, vb1] :: blk p3 4 [.bool q1] :: blk p1 24 [vf] :: L)) (fun ρ' _ => (x1.blocks.length - iv (ρ' 24)).toNat) ?_ ?_
    · exact ⟨0, q, zh, zh, (by omega), by rw [hd, Qno hx1, List.drop_zero]; rfl, hS.sp⟩
    rintro ρ w1 ⟨j1, q1, hA, hρ, hj1, hd1, hS⟩; obtain ⟨ρ, rfl⟩ := env2 hA hρ
    unfold Q3D
    all_goals (refine Q0 ?_; refine Q2 ?_; refine Qp rfl rfl ?_; refine zn ?_; refine Q0 ?_)
    refine Ql rfl (fun hc => ?_) (fun hc => ?_)
    · skip
      all_goals (refine zsk ?_; refine Q0 ?_; refine Q8 ?_; refine Q0 ?_; refine Q2 ?_; refine zi ?_; intro b2 o2 cs2 x2 hat2 hx2 he2; obtain ⟨vp2, vc2, ve21, ve22, ve23, ve24, ve25, rfl, hp2, hc2, he21, he22, he23, he24, he25⟩ := Q12 he2; (first | (refine zv hS ?_) | (refine zvk hS ?_)); refine Qc hS ?_; intro p8 w1 hS; refine zsn hS ?_; intro w1 hS; have hS := hS.ns; refine zn ?_; refine Q0 ?_; refine Q0 ?_; refine Q2 ?_; refine Q1 rfl ?_; refine zl hS ?_; refine zL ?_; refine zm ?_; refine zn ?_; refine Q8 ?_; have hcl := hc2.len)
      refine zo [3, 4, 8, 15, 16, 17, 22, 23, 24, 29, 30] (fun A ρ' w' => ∃ (j2 : Nat) (q2 : Bool), Has ρ' A ∧ Has ρ' [(31, .int .i64 j2)] ∧ (j2 ≤ x2.code.length) ∧ (Module.small ⟨l⟩ = (q2 && ((x2.code.drop j2).all Ins.small && (x2.fin.small && ((x1.blocks.drop (j1 + 1)).all Block.small && (l.drop (j + 1)).all Fun.small))))) ∧ St cx w' (blk p8 52 [.int .i64 x2.regs, vp2, vc2, .int .i64 x2.fin.op, .int .i64 x2.fin.a, .int .i64 x2.fin.yes.block, ve21, ve22, .int .i64 x2.fin.no.block, ve23, ve24, ve25] :: blk p6 43 [.int .i64 x1.regs, vp1, vr1, vb1] :: blk p3 4 [.bool q2] :: blk p1 24 [vf] :: L)) (fun ρ' _ => (x2.code.length - iv (ρ' 31)).toNat) ?_ ?_
      · exact ⟨0, q1, zh, zh, (by omega), by rw [hd1, Qno hx2, List.drop_zero]; unfold Block.small; simp only [Bool.and_assoc], hS.sp⟩
      rintro ρ w1 ⟨j2, q2, hA, hρ, hj2, hd2, hS⟩; obtain ⟨ρ, rfl⟩ := env2 hA hρ
      unfold Q3g
      all_goals (refine Q0 ?_; refine Q2 ?_; refine Qp rfl rfl ?_; refine zn ?_; refine Q0 ?_)
      refine Ql rfl (fun hc => ?_) (fun hc => ?_)
      · skip
        all_goals (refine zsk ?_; refine Q0 ?_; refine Q8 ?_; refine Q0 ?_; refine Q2 ?_; refine zi ?_; intro b3 o3 cs3 x3 hat3 hx3 he3; obtain ⟨vr3, va3, rfl, hr3, ha3⟩ := Q1u he3; (first | (refine zv hS ?_) | (refine zvk hS ?_)); refine Qc hS ?_; intro p10 w1 hS; refine zsn hS ?_; intro w1 hS; have hS := hS.ns; refine zn ?_; refine Q0 ?_; refine Q2 ?_; refine zm ?_; refine Q1 rfl ?_; refine zl hS ?_; refine Q1 rfl ?_; refine zl hS ?_; refine Q1 rfl ?_; refine zl hS ?_; refine Q1 rfl ?_; refine zl hS ?_; refine zB4 hS [_, _, _, _] ?_; intro b1 w1 hS; refine Q1K rfl (by kernel_rfl) rfl (QnN (l := [x3.a, x3.b, x3.c, x3.k]) (q := q2) (i := 3) hS rfl rfl (by decide)) ?_; rintro v1 w1 ⟨rfl, hS⟩; have hS := hS.ns; refine zn ?_; refine Q0 ?_; refine Q2 ?_; refine zm ?_; refine Q1 rfl ?_; refine zl hS ?_; refine Q1K rfl (by kernel_rfl) rfl (Qji (i := 3) hr3 hS rfl) ?_; rintro v1 w1 ⟨rfl, hS⟩; have hS := hS.ns)
        all_goals (refine zn ?_; refine Q2 ?_; refine zm ?_; refine Q1 rfl ?_; refine zl hS ?_; refine Q1K rfl (by kernel_rfl) rfl (Qji (i := 3) ha3 hS rfl) ?_; rintro v1 w1 ⟨rfl, hS⟩; have hS := hS.ns; refine zn ?_; refine Q2 ?_; refine zad ?_; refine zm ?_; refine zn ?_; exact ⟨⟨j2 + 1, (((q2 && smallL [x3.a, x3.b, x3.c, x3.k]) && smallL x3.regs) && smallL x3.args), zh, zh, (by omega), by rw [hd2, Qno hx3]; unfold Ins.small; simp only [Bool.and_assoc], hS.sp⟩, Qk (by omega)⟩)
      · skip
        all_goals (refine zex ?_; refine Q0 ?_; refine Q2 ?_; refine zm ?_; refine Q1 rfl ?_; (first | refine Q1 rfl ?_ | refine QS rfl ?_); refine zl hS ?_; refine zB1 hS [_] ?_; intro b1 w1 hS; refine Q1K rfl (by kernel_rfl) rfl (QnN (l := [x2.fin.a]) (q := q2) (i := 2) hS rfl rfl (by decide)) ?_; rintro v1 w1 ⟨rfl, hS⟩; have hS := hS.ns; refine zn ?_; refine Q0 ?_; refine Q2 ?_; refine zm ?_; refine Q1 rfl ?_; (first | refine Q1 rfl ?_ | refine QS rfl ?_); refine zl hS ?_; refine Q1K rfl (by kernel_rfl) rfl (Qji (i := 2) he25 hS rfl) ?_; rintro v1 w1 ⟨rfl, hS⟩; have hS := hS.ns; refine zn ?_; refine Q0 ?_; refine Q2 ?_; refine Q1 rfl ?_; (first | refine Q1 rfl ?_ | refine QS rfl ?_); refine zv hS ?_; refine Q1 rfl ?_; (first | refine Q1 rfl ?_ | refine QS rfl ?_); refine zv hS ?_)
        all_goals (refine Qjn (cs := [.int .i64 x2.fin.yes.block, ve21, ve22, .int .i64 x2.fin.no.block, ve23, ve24]) vw vw (by rfl) ?_; intro b1 w1 hb1 hf1 _ hk1; have hS := hS.laid hb1 hf1 hk1; have hS := St.slOf (es := 3) (n := 2) (css := [[.int .i64 x2.fin.yes.block, ve21, ve22], [.int .i64 x2.fin.no.block, ve23, ve24]]) hS rfl (by intro c hc; simp at hc; rcases hc with rfl | rfl <;> rfl) rfl)
        all_goals (refine s_len rfl ?_; refine zm ?_; refine zn ?_; refine Q8 ?_)
        refine zo [3, 4, 15, 16, 17, 22, 23, 24, 72, 73] (fun A ρ' w' => ∃ (j3 : Nat) (q3 : Bool), Has ρ' A ∧ Has ρ' [(74, .int .i64 j3)] ∧ (j3 ≤ 2) ∧ (Module.small ⟨l⟩ = (q3 && (([x2.fin.yes, x2.fin.no].drop j3).all To.small && ((x1.blocks.drop (j1 + 1)).all Block.small && (l.drop (j + 1)).all Fun.small)))) ∧ St cx w' (sl 48 3 (.slice (some ⟨b1, 0, none⟩) 2 2) [[.int .i64 x2.fin.yes.block, ve21, ve22], [.int .i64 x2.fin.no.block, ve23, ve24]] :: blk p8 52 [.int .i64 x2.regs, vp2, vc2, .int .i64 x2.fin.op, .int .i64 x2.fin.a, .int .i64 x2.fin.yes.block, ve21, ve22, .int .i64 x2.fin.no.block, ve23, ve24, ve25] :: blk p6 43 [.int .i64 x1.regs, vp1, vr1, vb1] :: blk p3 4 [.bool q3] :: blk p1 24 [vf] :: L)) (fun ρ' _ => (2 - iv (ρ' 74)).toNat) ?_ ?_
        · exact ⟨0, ((q2 && smallL [x2.fin.a]) && smallL x2.fin.args), zh, zh, (by omega), by rw [hd2, QlM (by omega)]; unfold Tail.small smallL; simp [Bool.and_assoc], hS.sp⟩
        rintro ρ w1 ⟨j3, q3, hA, hρ, hj3, hd3, hS⟩; obtain ⟨ρ, rfl⟩ := env2 hA hρ
        unfold Q3f
        all_goals (refine Q0 ?_; refine Q2 ?_; refine Qp rfl rfl ?_; refine zn ?_; refine Q0 ?_)
        refine Ql rfl (fun hc => ?_) (fun hc => ?_)
        · skip
          all_goals (refine zsk ?_; refine Q0 ?_; refine Q8 ?_; refine Q0 ?_)
          all_goals (have oo1 := Rep.SR.oneC he21; have oo2 := Rep.SR.oneC he22; have oo3 := Rep.SR.oneC he23; have oo4 := Rep.SR.oneC he24; rcases (show j3 = 0 ∨ j3 = 1 by omega) with rfl | rfl)
          all_goals (refine Q2 ?_; (first | refine s_idxE (m := 0) hS rfl rfl (i := 0) rfl (by show 0 < 2; omega) ?_ | refine s_idxE (m := 1) hS rfl rfl (i := 0) rfl (by show 1 < 2; omega) ?_); intro b4 o4 hel4; refine s_loadnE hS hel4 rfl (i := 0) rfl rfl rfl ?_; refine Qc hS ?_; intro p12 w1 hS; refine zsn hS ?_; intro w1 hS; have hS := hS.ns; refine zn ?_; refine Q0 ?_; refine Q2 ?_; refine zm ?_; refine Q1 rfl ?_; refine zl hS ?_; (first | refine Q1K rfl (by kernel_rfl) rfl (Qji (i := 4) he21 hS rfl) ?_ | refine Q1K rfl (by kernel_rfl) rfl (Qji (i := 4) he23 hS rfl) ?_); rintro v1 w1 ⟨rfl, hS⟩; have hS := hS.ns; refine zn ?_; refine Q2 ?_; refine zm ?_; refine Q1 rfl ?_; refine zl hS ?_; (first | refine Q1K rfl (by kernel_rfl) rfl (Qji (i := 4) he22 hS rfl) ?_ | refine Q1K rfl (by kernel_rfl) rfl (Qji (i := 4) he24 hS rfl) ?_); rintro v1 w1 ⟨rfl, hS⟩; have hS := hS.ns; refine zn ?_; refine Q2 ?_; refine zad ?_; refine zm ?_; refine zn ?_; (first | (exact ⟨⟨1, ((q3 && smallL x2.fin.yes.regs) && smallL x2.fin.yes.args), zh, zh, (by omega), by rw [hd3]; simp [To.small, Bool.and_assoc], hS.sp⟩, Qk (by omega)⟩) | (exact ⟨⟨2, ((q3 && smallL x2.fin.no.regs) && smallL x2.fin.no.args), zh, zh, (by omega), by rw [hd3]; simp [To.small, Bool.and_assoc], hS.sp⟩, Qk (by omega)⟩)))
        · skip
          all_goals (refine zex ?_; refine Q2 ?_; refine zad ?_; refine zm ?_; refine zn ?_; exact ⟨⟨j1 + 1, q3, zh, zh, (by omega), by rw [hd3, QlM (by show 2 ≤ j3; omega), Bool.true_and], hS.sp⟩, Qk (by omega)⟩)
    · skip
      all_goals (refine zex ?_; refine Q2 ?_; refine zad ?_; refine zm ?_; refine zn ?_; exact ⟨⟨j + 1, q1, zh, zh, (by omega), by rw [hd1, QlM (by omega), Bool.true_and], hS.sp⟩, Qk (by omega)⟩)
  · skip
    all_goals (refine zex ?_; refine Q0 ?_; refine Q2 ?_; refine zl hS ?_; refine zm ?_; refine zn ?_; refine zr ?_; refine zf ?_; refine ⟨_, rfl, ?_, hS.sp⟩; rw [hd, QlM (by omega), Bool.and_true]; done)
end Go.Proofs.YtjecflbbcnocdaaGreatDoor
namespace Go.Proofs.YtjecflbbcnocdaaGreatDoor
open Go.Lir
set_option maxHeartbeats 1000000
attribute [local irreducible] LC.wp Q3 QW Q13 retQ Q2i LO.wp Qv Calls
set_option linter.unusedSimpArgs false
set_option linter.unusedVariables false
attribute [local irreducible] Lib.itoa Lib.join Q3c QV Ins.txt Tail.txt To.txt
variable {cx : Cx} {w : World} {L : List Res}
def Fun.head (f : Fun) : List UInt8 := Q4N ++ [32] ++ Lib.itoa f.regs ++ [32] ++ Q3c f.params ++ [32] ++ Q32 ++ [32] ++ Q3c f.results ++ [32, 123, 10]
def Block.head (b : Block) : List UInt8 := Q31 ++ [32] ++ Lib.itoa b.regs ++ [32] ++ Q3c b.params ++ [32, 123, 10]
theorem QlA (f : Fun) : f.txt = Fun.head f ++ (QN f.blocks ++ [125, 10]) := by
  unfold Fun.txt Fun.head; simp only [List.append_assoc]
theorem QjS (b : Block) : b.txt = Block.head b ++ (Q1x b.code ++ ([9] ++ (b.fin.txt ++ [59, 10, 125, 10]))) := by
  unfold Block.txt Block.head; simp only [List.append_assoc]
theorem funs_s {l : List Fun} {j : Nat} {x : Fun} (h : l[j]? = some x) : Q1D (l.take (j + 1)) = Q1D (l.take j) ++ x.txt := by
  rw [Q1T h, Qap, Q1D, Q1D, List.append_nil]
theorem QmQ {l : List Block} {j : Nat} {x : Block} (h : l[j]? = some x) : QN (l.take (j + 1)) = QN (l.take j) ++ x.txt := by
  rw [Q1T h, Q6P, QN, QN, List.append_nil]
theorem code_s {l : List Ins} {j : Nat} {x : Ins} (h : l[j]? = some x) : Q1x (l.take (j + 1)) = Q1x (l.take j) ++ ([9] ++ (x.txt ++ [59, 10])) := by
  rw [Q1T h, QaE, Q1x, Q1x, List.append_nil]; simp only [List.append_assoc]
theorem QgN {l : List Fun} (hn : l.length ≤ 8) (h : ∀ f ∈ l, f.Pr) (j : Nat) : (Q1D (l.take j)).length ≤ 280000000 := by
  have := Q7l (l := l.take j) fun f hf => h f (List.mem_of_mem_take hf)
  rw [List.length_take] at this; omega
theorem Q4K {l : List Block} (hn : l.length ≤ 12) (h : ∀ f ∈ l, f.Pr) (j : Nat) : (QN (l.take j)).length ≤ 30000000 := by
  have := Q4s (l := l.take j) fun f hf => h f (List.mem_of_mem_take hf)
  rw [List.length_take] at this; omega
theorem Q6r {l : List Ins} (hn : l.length ≤ 40) (h : ∀ f ∈ l, f.Pr) (j : Nat) : (Q1x (l.take j)).length ≤ 40000 := by
  have := Q7G (l := l.take j) fun f hf => h f (List.mem_of_mem_take hf)
  rw [List.length_take] at this; omega
theorem x2cs {v1 v2 v3 v4 v5 : Value} {e : Tail} (h1 : intR.sl cx v1 e.yes.regs) (h2 : intR.sl cx v2 e.yes.args) (h3 : intR.sl cx v3 e.no.regs) (h4 : intR.sl cx v4 e.no.args) (h5 : intR.sl cx v5 e.args) :
    endR.at cx [.int .i64 e.op, .int .i64 e.a, .int .i64 e.yes.block, v1, v2, .int .i64 e.no.block, v3, v4, v5] e := ⟨_, _, _, _, _, rfl, h1, h2, h3, h4, h5⟩
theorem funs_ne {l : List Fun} (h : 0 < l.length) : Q1D l ≠ [] := by
  cases l with
  | nil => simp at h
  | cons f l => rw [Q1D, QlA]; unfold Fun.head; simp [Q4N]
theorem whole_c {m : Module} {cs : List Value} (hp : m.Pr) (h0 : 0 < m.funcs.length) (hx : modR.at cx cs m) (hT : PowT cx) (hS : St cx w L) : Rets Tryz.prog Q7W [.agg ⟨cs⟩] w fun u w' => u = strV m.txt ∧ St cx w' L := by
  obtain ⟨vf, rfl, hf⟩ := Q1B hx
  obtain ⟨l⟩ := m
  obtain ⟨hn, hpf⟩ := hp
  simp only at hn hpf h0
  have hf : funcR.sl cx vf l := hf
  have hfl := hf.len
  unfold Module.txt
  all_goals refine Q9U ?_
  all_goals (unfold render_whole_lc; refine Q0 ?_; refine Q2 ?_; refine zb hS ?_; intro p1 w1 hS; refine zm ?_; refine zn ?_; refine Q0 ?_; refine Q2 ?_; refine Qc hS ?_; intro p3 w1 hS; refine zn ?_; refine Q0 ?_; refine Q0 ?_; refine Q2 ?_; refine Q1 rfl ?_; refine zl hS ?_; refine zL ?_; refine zm ?_; refine zn ?_; refine Q8 ?_)
  refine zo [3, 11, 12] (fun A ρ' w' => ∃ (j : Nat) (pv v : Value) (t : List UInt8), Has ρ' A ∧ Has ρ' [(13, .int .i64 j)] ∧ (j ≤ l.length) ∧ (pv = .pointer none ∨ pv = .pointer (some ⟨p3, 0, none⟩)) ∧ (t = Q1D (l.take j)) ∧ St cx w' (bldr p3 pv v :: sl 5 1 v ((t : List UInt8).map Q2p) :: blk p1 24 [vf] :: L)) (fun ρ' _ => (l.length - iv (ρ' 13)).toNat) ?_ ?_
  · exact ⟨0, .pointer none, .slice none 0 0, [], zh, zh, (by omega), .inl rfl, by rw [List.take_zero]; rfl, by have hS := hS.nil (T := 5) (es := 1); exact hS.sp⟩
  rintro ρ w1 ⟨j, pv, v, t, hA, hρ, hj, hpv, ht, hS⟩; obtain ⟨ρ, rfl⟩ := env2 hA hρ
  unfold Q4c
  all_goals (refine Q0 ?_; refine Q2 ?_; refine Qp rfl rfl ?_; refine zn ?_; refine Q0 ?_)
  refine Ql rfl (fun hc => ?_) (fun hc => ?_)
  · skip
    all_goals (refine zsk ?_; refine Q0 ?_; refine Q8 ?_; refine Q0 ?_; refine Q2 ?_; refine zi ?_; intro b1 o1 cs1 x1 hat1 hx1 he1; obtain ⟨vp1, vr1, vb1, rfl, hp1, hr1, hb1⟩ := QQ he1; (first | (refine zv hS ?_) | (refine zvk hS ?_)); refine Qc hS ?_; intro p5 w1 hS; refine zsn hS ?_; intro w1 hS; have hS := hS.ns; refine zn ?_; refine Q0 ?_; obtain ⟨i1, q1, q2, q3, q4⟩ := hpf _ (List.mem_of_getElem? hx1); have l1 := Q1f i1; have l2 := Q2r q1; have l3 := Q2r q2; have l4 := QgN hn hpf j; rw [← ht] at l4; refine zC [(0, none), (1, none), (5, none), (6, none), (10, none), (11, none), (2, some (some [6, 11])), (3, none), (4, none), (7, some (some [11])), (8, none), (9, none), (12, some (some [])), (13, none), (14, none), (15, some none)] ?_; have hS := hS.drew; refine s_cq ?_; refine Q1 rfl ?_; refine zt ?_; refine s_cq ?_; refine zl hS ?_; refine zt ?_; refine s_cq ?_; refine Q1 rfl ?_; refine zt ?_; refine s_cq ?_; refine zl hS ?_; refine zt ?_; refine s_cq ?_; refine Q1 rfl ?_; refine zt ?_; refine s_cq ?_; refine zl hS ?_)
    all_goals (refine zt ?_; refine Qx ?_; refine zR1 (c := Q3G (by assumption) hT hS) (h := ?_); rintro v1 w1 ⟨rfl, hS⟩; refine zt ?_; refine zy ?_; refine s_cq ?_; refine Qi rfl rfl (by first | omega | (simp only [List.length_append, List.length_cons, List.length_nil]; omega)) ?_; refine zt ?_; refine s_cq ?_; refine Qi rfl rfl (by first | omega | (simp only [List.length_append, List.length_cons, List.length_nil]; omega)) ?_; refine zt ?_; refine Qx ?_; refine zR1 (c := Qla q1 hp1 hT hS) (h := ?_); rintro v1 w1 ⟨rfl, hS⟩; refine zt ?_; refine zy ?_; refine s_cq ?_; refine Qi rfl rfl (by first | omega | (simp only [List.length_append, List.length_cons, List.length_nil]; omega)) ?_; refine zt ?_; refine s_cq ?_; refine Qi rfl rfl (by first | omega | (simp only [List.length_append, List.length_cons, List.length_nil]; omega)) ?_; refine zt ?_; refine Qx ?_; refine zR1 (c := Qla q2 hr1 hT hS) (h := ?_); rintro v1 w1 ⟨rfl, hS⟩; refine zt ?_; refine zy ?_; refine s_cq ?_; refine Qi rfl rfl (by first | omega | (simp only [List.length_append, List.length_cons, List.length_nil]; omega)) ?_; refine zt ?_; refine s_cq ?_; refine Qi rfl rfl (by first | omega | (simp only [List.length_append, List.length_cons, List.length_nil]; omega)) ?_; refine zt ?_; refine s_cf ?_; have hS : St cx _ (bldr p3 pv v :: sl 5 1 v ((t : List UInt8).map Q2p) :: blk p5 43 [.int .i64 x1.regs, vp1, vr1, vb1] :: blk p1 24 [vf] :: L) := hS.sp; refine zR2 (c := Q6O hpv (by simp only [List.length_append, List.length_cons, List.length_nil]; omega) hS) (h := ?_); rintro v1 w1 ⟨u1, t6, ht6, rfl, hu1, hS⟩)
    all_goals (refine zt ?_; refine zcn ?_; refine Q0 ?_; refine Q0 ?_; refine Q2 ?_; refine Q1 rfl ?_; refine zl hS ?_; refine zL ?_; refine zm ?_; refine zn ?_; refine Q8 ?_; have hbl := hb1.len)
    refine zo [3, 11, 12, 13, 34, 35] (fun A ρ' w' => ∃ (j1 : Nat) (v1 : Value) (t1 : List UInt8), Has ρ' A ∧ Has ρ' [(36, .int .i64 j1)] ∧ (j1 ≤ x1.blocks.length) ∧ (t1 = t ++ (Fun.head x1 ++ QN (x1.blocks.take j1))) ∧ St cx w' (bldr p3 (.pointer (some ⟨p3, 0, none⟩)) v1 :: sl 5 1 v1 ((t1 : List UInt8).map Q2p) :: blk p5 43 [.int .i64 x1.regs, vp1, vr1, vb1] :: blk p1 24 [vf] :: L)) (fun ρ' _ => (x1.blocks.length - iv (ρ' 36)).toNat) ?_ ?_
    · exact ⟨0, u1, t6, zh, zh, (by omega), by rw [List.take_zero, ht6]; unfold Fun.head QN; simp only [Q4N, Q32, Q31, Q5d, tIf, tTo, Q5e, tRet, List.append_assoc, List.cons_append, List.nil_append], hS.sp⟩
    rintro ρ w1 ⟨j1, v1, t1, hA, hρ, hj1, ht1, hS⟩; obtain ⟨ρ, rfl⟩ := env2 hA hρ
    unfold Q4b
    all_goals (refine Q0 ?_; refine Q2 ?_; refine Qp rfl rfl ?_; refine zn ?_; refine Q0 ?_)
    refine Ql rfl (fun hc => ?_) (fun hc => ?_)
    · skip
      all_goals (refine zsk ?_; refine Q0 ?_; refine Q8 ?_; refine Q0 ?_; refine Q2 ?_; refine zi ?_; intro b2 o2 cs2 x2 hat2 hx2 he2; obtain ⟨vp2, vc2, ve21, ve22, ve23, ve24, ve25, rfl, hp2, hc2, he21, he22, he23, he24, he25⟩ := Q12 he2; (first | (refine zv hS ?_) | (refine zvk hS ?_)); refine Qc hS ?_; intro p7 w1 hS; refine zsn hS ?_; intro w1 hS; have hS := hS.ns; refine zn ?_; refine Q0 ?_; obtain ⟨i2, q5, ⟨q6, q7⟩, q8⟩ := q4 _ (List.mem_of_getElem? hx2); have l5 := Q1f i2; have l6 := Q2r q5; have l7 := Q4K q3 q4 j1; have l8 := Tail.txt_le q8; have l9 : t1.length ≤ 400000000 := (by rw [ht1]; unfold Fun.head; simp only [List.length_append, List.length_cons, List.length_nil]; omega); refine zC [(0, none), (1, none), (5, none), (6, none), (2, some (some [6])), (3, none), (4, none), (7, some (some [])), (8, none), (9, none), (10, some none)] ?_; have hS := hS.drew; refine s_cq ?_; refine Q1 rfl ?_; refine zt ?_; refine s_cq ?_; refine zl hS ?_; refine zt ?_; refine s_cq ?_; refine Q1 rfl ?_; refine zt ?_; refine s_cq ?_; refine zl hS ?_; refine zt ?_; refine Qx ?_; refine zR1 (c := Q3G (by assumption) hT hS) (h := ?_); rintro v1 w1 ⟨rfl, hS⟩)
      all_goals (refine zt ?_; refine zy ?_; refine s_cq ?_; refine Qi rfl rfl (by first | omega | (simp only [List.length_append, List.length_cons, List.length_nil]; omega)) ?_; refine zt ?_; refine s_cq ?_; refine Qi rfl rfl (by first | omega | (simp only [List.length_append, List.length_cons, List.length_nil]; omega)) ?_; refine zt ?_; refine Qx ?_; refine zR1 (c := Qla q5 hp2 hT hS) (h := ?_); rintro v2 w1 ⟨rfl, hS⟩; refine zt ?_; refine zy ?_; refine s_cq ?_; refine Qi rfl rfl (by first | omega | (simp only [List.length_append, List.length_cons, List.length_nil]; omega)) ?_; refine zt ?_; refine s_cq ?_; refine Qi rfl rfl (by first | omega | (simp only [List.length_append, List.length_cons, List.length_nil]; omega)) ?_; refine zt ?_; refine s_cf ?_; have hS : St cx _ (bldr p3 (.pointer (some ⟨p3, 0, none⟩)) v1 :: sl 5 1 v1 ((t1 : List UInt8).map Q2p) :: blk p7 52 [.int .i64 x2.regs, vp2, vc2, .int .i64 x2.fin.op, .int .i64 x2.fin.a, .int .i64 x2.fin.yes.block, ve21, ve22, .int .i64 x2.fin.no.block, ve23, ve24, ve25] :: blk p5 43 [.int .i64 x1.regs, vp1, vr1, vb1] :: blk p1 24 [vf] :: L) := hS.sp; refine zR2 (c := Q6O (.inr rfl) (by simp only [List.length_append, List.length_cons, List.length_nil]; omega) hS) (h := ?_); rintro v2 w1 ⟨u2, t7, ht7, rfl, hu2, hS⟩; refine zt ?_; refine zcn ?_; refine Q0 ?_; refine Q0 ?_; refine Q2 ?_; refine Q1 rfl ?_)
      all_goals (refine zl hS ?_; refine zL ?_; refine zm ?_; refine zn ?_; refine Q8 ?_; have hcl := hc2.len)
      refine zo [3, 7, 11, 12, 13, 34, 35, 36, 52, 53] (fun A ρ' w' => ∃ (j2 : Nat) (v2 : Value) (t2 : List UInt8), Has ρ' A ∧ Has ρ' [(54, .int .i64 j2)] ∧ (j2 ≤ x2.code.length) ∧ (t2 = t1 ++ (Block.head x2 ++ Q1x (x2.code.take j2))) ∧ St cx w' (bldr p3 (.pointer (some ⟨p3, 0, none⟩)) v2 :: sl 5 1 v2 ((t2 : List UInt8).map Q2p) :: blk p7 52 [.int .i64 x2.regs, vp2, vc2, .int .i64 x2.fin.op, .int .i64 x2.fin.a, .int .i64 x2.fin.yes.block, ve21, ve22, .int .i64 x2.fin.no.block, ve23, ve24, ve25] :: blk p5 43 [.int .i64 x1.regs, vp1, vr1, vb1] :: blk p1 24 [vf] :: L)) (fun ρ' _ => (x2.code.length - iv (ρ' 54)).toNat) ?_ ?_
      · exact ⟨0, u2, t7, zh, zh, (by omega), by rw [List.take_zero, ht7]; unfold Block.head Q1x; simp only [Q4N, Q32, Q31, Q5d, tIf, tTo, Q5e, tRet, List.append_assoc, List.cons_append, List.nil_append], hS.sp⟩
      rintro ρ w1 ⟨j2, v2, t2, hA, hρ, hj2, ht2, hS⟩; obtain ⟨ρ, rfl⟩ := env2 hA hρ
      unfold Q3T
      all_goals (refine Q0 ?_; refine Q2 ?_; refine Qp rfl rfl ?_; refine zn ?_; refine Q0 ?_)
      refine Ql rfl (fun hc => ?_) (fun hc => ?_)
      · skip
        all_goals (refine zsk ?_; refine Q0 ?_; refine Q8 ?_; refine Q0 ?_; refine Q2 ?_; refine zi ?_; intro b3 o3 cs3 x3 hat3 hx3 he3; obtain ⟨vr3, va3, rfl, hr3, ha3⟩ := Q1u he3; (first | (refine zv hS ?_) | (refine zvk hS ?_)); refine Qc hS ?_; intro p9 w1 hS; refine zsn hS ?_; intro w1 hS; have hS := hS.ns; refine zn ?_; have q9 := q7 _ (List.mem_of_getElem? hx3); have l10 := Ins.txt_le q9; have l11 := Q6r q6 q7 j2; have l12 : t2.length ≤ 500000000 := (by rw [ht2]; unfold Block.head; simp only [List.length_append, List.length_cons, List.length_nil]; omega); refine Q2 ?_; refine zv hS ?_; refine zR1 (c := ins_txt q9 he3 hT hS) (h := ?_); rintro v3 w1 ⟨rfl, hS⟩; refine Qi rfl rfl (by first | omega | (simp only [List.length_append, List.length_cons, List.length_nil]; omega)) ?_; refine Qi rfl rfl (by first | omega | (simp only [List.length_append, List.length_cons, List.length_nil]; omega)) ?_; have hS : St cx _ (bldr p3 (.pointer (some ⟨p3, 0, none⟩)) v2 :: sl 5 1 v2 ((t2 : List UInt8).map Q2p) :: blk p9 54 [.int .i64 x3.op, .int .i64 x3.a, .int .i64 x3.b, .int .i64 x3.c, .int .i64 x3.k, .int .i64 x3.n, vr3, va3] :: blk p7 52 [.int .i64 x2.regs, vp2, vc2, .int .i64 x2.fin.op, .int .i64 x2.fin.a, .int .i64 x2.fin.yes.block, ve21, ve22, .int .i64 x2.fin.no.block, ve23, ve24, ve25] :: blk p5 43 [.int .i64 x1.regs, vp1, vr1, vb1] :: blk p1 24 [vf] :: L) := hS.sp; refine zR2 (c := Q6O (.inr rfl) (by simp only [List.length_append, List.length_cons, List.length_nil]; omega) hS) (h := ?_); rintro v3 w1 ⟨u3, t8, ht8, rfl, hu3, hS⟩)
        all_goals (refine zn ?_; refine Q2 ?_; refine zad ?_; refine zm ?_; refine zn ?_; exact ⟨⟨j2 + 1, u3, t8, zh, zh, (by omega), by rw [ht8, code_s hx3, ht2]; simp only [Q4N, Q32, Q31, Q5d, tIf, tTo, Q5e, tRet, List.append_assoc, List.cons_append, List.nil_append], hS.sp⟩, Qk (by omega)⟩)
      · skip
        all_goals (refine zex ?_; have l11 := Q6r q6 q7 j2; have l12 : t2.length ≤ 500000000 := (by rw [ht2]; unfold Block.head; simp only [List.length_append, List.length_cons, List.length_nil]; omega); refine Q2 ?_; refine Q1 rfl ?_; refine zv hS ?_; refine zR1 (c := end_txt q8 (x2cs he21 he22 he23 he24 he25) hT hS) (h := ?_); rintro v3 w1 ⟨rfl, hS⟩; refine Qi rfl rfl (by first | omega | (simp only [List.length_append, List.length_cons, List.length_nil]; omega)) ?_; refine Qi rfl rfl (by first | omega | (simp only [List.length_append, List.length_cons, List.length_nil]; omega)) ?_; have hS : St cx _ (bldr p3 (.pointer (some ⟨p3, 0, none⟩)) v2 :: sl 5 1 v2 ((t2 : List UInt8).map Q2p) :: blk p7 52 [.int .i64 x2.regs, vp2, vc2, .int .i64 x2.fin.op, .int .i64 x2.fin.a, .int .i64 x2.fin.yes.block, ve21, ve22, .int .i64 x2.fin.no.block, ve23, ve24, ve25] :: blk p5 43 [.int .i64 x1.regs, vp1, vr1, vb1] :: blk p1 24 [vf] :: L) := hS.sp; refine zR2 (c := Q6O (.inr rfl) (by simp only [List.length_append, List.length_cons, List.length_nil]; omega) hS) (h := ?_); rintro v3 w1 ⟨u3, t8, ht8, rfl, hu3, hS⟩; refine zn ?_; refine Q2 ?_; refine zad ?_; refine zm ?_; refine zn ?_; exact ⟨⟨j1 + 1, u3, t8, zh, zh, (by omega), by rw [ht8, QmQ hx2, QjS, ht2, ht1, List.take_of_length_le (l := x2.code) (by omega)]; simp only [Q4N, Q32, Q31, Q5d, tIf, tTo, Q5e, tRet, List.append_assoc, List.cons_append, List.nil_append], hS.sp⟩, Qk (by omega)⟩)
    · skip
      all_goals (refine zex ?_; have l7 := Q4K q3 q4 j1; have l9 : t1.length ≤ 400000000 := (by rw [ht1]; unfold Fun.head; simp only [List.length_append, List.length_cons, List.length_nil]; omega); refine Q2 ?_; have hS : St cx _ (bldr p3 (.pointer (some ⟨p3, 0, none⟩)) v1 :: sl 5 1 v1 ((t1 : List UInt8).map Q2p) :: blk p5 43 [.int .i64 x1.regs, vp1, vr1, vb1] :: blk p1 24 [vf] :: L) := hS.sp; refine zR2 (c := Q6O (s := [125, 10]) (.inr rfl) (by show _ + 2 ≤ _; omega) hS) (h := ?_); rintro v3 w1 ⟨u3, t8, ht8, rfl, hu3, hS⟩; refine zn ?_; refine Q2 ?_; refine zad ?_; refine zm ?_; refine zn ?_; exact ⟨⟨j + 1, _, u3, t8, zh, zh, (by omega), .inr rfl, by rw [ht8, funs_s hx1, QlA, ht1, ht, List.take_of_length_le (l := x1.blocks) (by omega)]; simp only [Q4N, Q32, Q31, Q5d, tIf, tTo, Q5e, tRet, List.append_assoc, List.cons_append, List.nil_append], hS.sp⟩, Qk (by omega)⟩)
  · skip
    all_goals (refine zex ?_; refine Q0 ?_; have l4 := QgN hn hpf j; rw [List.take_of_length_le (by omega)] at ht l4; have hne : t ≠ [] := (by rw [ht]; exact funs_ne h0); refine Q2 ?_; refine zR1 (c := QoG hne (by rw [ht]; omega) hS) (h := ?_); rintro v3 w1 ⟨rfl, hS⟩; refine zm ?_; refine zn ?_; refine zr ?_; refine zf ?_; refine ⟨_, rfl, ?_, hS.sp⟩; rw [ht]; done)
end Go.Proofs.YtjecflbbcnocdaaGreatDoor
namespace Go.Proofs.YtjecflbbcnocdaaGreatDoor
open Go.Lir
set_option maxHeartbeats 1000000
attribute [local irreducible] LC.wp Q3 QW Q13 retQ Q2i LO.wp Qv Calls
set_option linter.unusedSimpArgs false
set_option linter.unusedVariables false
attribute [local irreducible] Lib.itoa Lib.join Q3c QV Ins.txt Tail.txt To.txt
variable {cx : Cx} {w : World} {L : List Res}
/-- The sum of two strings, by a name. -/
theorem Q46 {P : Program} {l : List GO} {Q : QT} {ρ : Env} {d T : Nat} {x y : Operand} {a b : List UInt8} (hx : ρ.ev x = .string ⟨a.toArray⟩) (hy : ρ.ev y = .string ⟨b.toArray⟩) (hn : (a ++ b).length ≤ 140737488355328)
    (h : ∀ s : List UInt8, s = a ++ b → Q3 P l Q (upd ρ d (.string ⟨s.toArray⟩)) w) : Q3 P (⟨none, .bin d .add T x y⟩ :: l) Q ρ w := Qi hx hy (by rw [List.length_append] at hn; omega) (h _ rfl)
theorem tail_1 {t : Tail} (h : t.op = 1) : t.txt = Q5d ++ [32] ++ t.yes.txt := by unfold Tail.txt; rw [if_pos h]
theorem tail_2 {t : Tail} (h : t.op = 2) : t.txt = tIf ++ [32] ++ Lib.itoa t.a ++ [32] ++ tTo ++ [32] ++ t.yes.txt ++ [32] ++ Q5e ++ [32] ++ t.no.txt := by unfold Tail.txt; rw [if_neg (by omega), if_pos h]
theorem tail_3 {t : Tail} (h : t.op ≠ 1) (h2 : t.op ≠ 2) : t.txt = tRet ++ [32] ++ QV [40] t.args [41] := by unfold Tail.txt; rw [if_neg h, if_neg h2]
theorem rmod_txt {m : Module} {cs : List Value} (hp : m.Pr) (hx : modR.at cx cs m) (hT : PowT cx) (hS : St cx w L) : Rets Tryz.prog Q2o [.agg ⟨cs⟩] w fun u w' => u = strV m.txt ∧ St cx w' L := by
  obtain ⟨vf, rfl, hf⟩ := Q1B hx
  obtain ⟨l⟩ := m
  obtain ⟨hn, hpf⟩ := hp
  simp only at hn hpf
  have hf : funcR.sl cx vf l := hf
  have hfl := hf.len
  unfold Module.txt
  all_goals refine QbV ?_
  all_goals (unfold R_ModuleText_lc; refine Q0 ?_; refine Q2 ?_; refine zb hS ?_; intro p1 w1 hS; refine zm ?_; refine zn ?_; refine Q0 ?_; refine Q2 ?_; refine zm ?_; refine zn ?_; refine Q0 ?_; refine Q0 ?_; refine Q2 ?_; refine zm ?_; refine zn ?_; refine Q8 ?_)
  refine zo [1] (fun A ρ' w' => ∃ (j : Nat) (t : List UInt8), Has ρ' A ∧ Has ρ' [(3, .string ⟨t.toArray⟩), (4, .int .i64 j)] ∧ (j ≤ l.length) ∧ (t = Q1D (l.take j)) ∧ St cx w' (blk p1 24 [vf] :: L)) (fun ρ' _ => (l.length - iv (ρ' 4)).toNat) ?_ ?_
  · exact ⟨0, [], zh, zh, (by omega), by rw [List.take_zero]; rfl, hS.sp⟩
  rintro ρ w1 ⟨j, t, hA, hρ, hj, ht, hS⟩; obtain ⟨ρ, rfl⟩ := env2 hA hρ
  unfold Q4z
  all_goals (refine Q0 ?_; refine Q0 ?_; refine Q2 ?_; refine zm ?_; refine Q1 rfl ?_; refine zl hS ?_; refine zL ?_; refine Qp rfl rfl ?_; refine zn ?_)
  refine Ql rfl (fun hc => ?_) (fun hc => ?_)
  · skip
    all_goals (refine zsk ?_; refine Q0 ?_; refine Q8 ?_; refine Q0 ?_; refine Q2 ?_; refine Q1 rfl ?_; refine zl hS ?_; refine zm ?_; refine zi ?_; intro b1 o1 cs1 x1 hat1 hx1 he1; obtain ⟨vp1, vr1, vb1, rfl, hp1, hr1, hb1⟩ := QQ he1; (first | (refine zv hS ?_) | (refine zvk hS ?_)); refine Qc hS ?_; intro p5 w1 hS; refine zsn hS ?_; intro w1 hS; have hS := hS.ns; refine zn ?_; refine Q0 ?_; obtain ⟨i1, q1, q2, q3, q4⟩ := hpf _ (List.mem_of_getElem? hx1); have l1 := Q1f i1; have l2 := Q2r q1; have l3 := Q2r q2; have l4 := QgN hn hpf j; rw [← ht] at l4; refine zC [(0, none), (1, none), (2, none), (6, none), (7, none), (11, none), (12, none), (3, some (some [7, 12])), (4, none), (5, none), (8, some (some [12])), (9, none), (10, none), (13, some (some [])), (14, none), (15, none), (16, none), (17, some none)] ?_; have hS := hS.drew; refine s_cq ?_; refine zm ?_; refine zt ?_; refine s_cq ?_; refine Q1 rfl ?_; refine zt ?_; refine s_cq ?_; refine zl hS ?_; refine zt ?_; refine s_cq ?_; refine Q1 rfl ?_; refine zt ?_; refine s_cq ?_; refine zl hS ?_)
    all_goals (refine zt ?_; refine s_cq ?_; refine Q1 rfl ?_; refine zt ?_; refine s_cq ?_; refine zl hS ?_; refine zt ?_; refine Qx ?_; refine zR1 (c := Q4m i1.1 i1.2 hT hS) (h := ?_); rintro v1 w1 ⟨rfl, hS⟩; refine zt ?_; refine zy ?_; refine s_cq ?_; refine Qi rfl rfl (by first | omega | (simp only [List.length_append, List.length_cons, List.length_nil]; omega)) ?_; refine zt ?_; refine s_cq ?_; refine Qi rfl rfl (by first | omega | (simp only [List.length_append, List.length_cons, List.length_nil]; omega)) ?_; refine zt ?_; refine Qx ?_; refine zR1 (c := Qg3 q1 hp1 hT hS) (h := ?_); rintro v1 w1 ⟨rfl, hS⟩; refine zt ?_; refine zy ?_; refine s_cq ?_; refine Qi rfl rfl (by first | omega | (simp only [List.length_append, List.length_cons, List.length_nil]; omega)) ?_; refine zt ?_; refine s_cq ?_; refine Qi rfl rfl (by first | omega | (simp only [List.length_append, List.length_cons, List.length_nil]; omega)) ?_; refine zt ?_; refine Qx ?_; refine zR1 (c := Qg3 q2 hr1 hT hS) (h := ?_); rintro v1 w1 ⟨rfl, hS⟩; refine zt ?_; refine zy ?_; refine s_cq ?_; refine Qi rfl rfl (by first | omega | (simp only [List.length_append, List.length_cons, List.length_nil]; omega)) ?_; refine zt ?_; refine s_cq ?_; refine Qi rfl rfl (by first | omega | (simp only [List.length_append, List.length_cons, List.length_nil]; omega)) ?_; refine zt ?_; refine s_cq ?_)
    all_goals (refine Q46 rfl rfl (by simp only [List.length_append, List.length_cons, List.length_nil]; omega) ?_; intro t6 ht6; refine zt ?_; refine s_cf ?_; refine zm ?_; refine zt ?_; refine zcn ?_; refine Q0 ?_; refine Q0 ?_; refine Q2 ?_; refine zm ?_; refine zn ?_; refine Q8 ?_; have hbl := hb1.len)
    refine zo [1, 4, 5] (fun A ρ' w' => ∃ (j1 : Nat) (t1 : List UInt8), Has ρ' A ∧ Has ρ' [(3, .string ⟨t1.toArray⟩), (6, .int .i64 j1)] ∧ (j1 ≤ x1.blocks.length) ∧ (t1 = t ++ (Fun.head x1 ++ QN (x1.blocks.take j1))) ∧ St cx w' (blk p5 43 [.int .i64 x1.regs, vp1, vr1, vb1] :: blk p1 24 [vf] :: L)) (fun ρ' _ => (x1.blocks.length - iv (ρ' 6)).toNat) ?_ ?_
    · exact ⟨0, t6, zh, zh, (by omega), by rw [List.take_zero, ht6]; unfold Fun.head QN; simp only [Q4N, Q32, Q31, Q5d, tIf, tTo, Q5e, tRet, List.append_assoc, List.cons_append, List.nil_append], hS.sp⟩
    rintro ρ w1 ⟨j1, t1, hA, hρ, hj1, ht1, hS⟩; obtain ⟨ρ, rfl⟩ := env2 hA hρ
    unfold Q4y
    all_goals (refine Q0 ?_; refine Q0 ?_; refine Q2 ?_; refine zm ?_; refine Q1 rfl ?_; refine zl hS ?_; refine zL ?_; refine Qp rfl rfl ?_; refine zn ?_)
    refine Ql rfl (fun hc => ?_) (fun hc => ?_)
    · skip
      all_goals (refine zsk ?_; refine Q0 ?_; refine Q8 ?_; refine Q0 ?_; refine Q2 ?_; refine Q1 rfl ?_; refine zl hS ?_; refine zm ?_; refine zi ?_; intro b2 o2 cs2 x2 hat2 hx2 he2; obtain ⟨vp2, vc2, ve21, ve22, ve23, ve24, ve25, rfl, hp2, hc2, he21, he22, he23, he24, he25⟩ := Q12 he2; (first | (refine zv hS ?_) | (refine zvk hS ?_)); refine Qc hS ?_; intro p7 w1 hS; refine zsn hS ?_; intro w1 hS; have hS := hS.ns; refine zn ?_; refine Q0 ?_; obtain ⟨i2, q5, ⟨q6, q7⟩, q8⟩ := q4 _ (List.mem_of_getElem? hx2); have l5 := Q1f i2; have l6 := Q2r q5; have l7 := Q4K q3 q4 j1; have l8 := Tail.txt_le q8; have l9 : t1.length ≤ 400000000 := (by rw [ht1]; unfold Fun.head; simp only [List.length_append, List.length_cons, List.length_nil]; omega); refine zC [(0, none), (1, none), (2, none), (6, none), (7, none), (3, some (some [7])), (4, none), (5, none), (8, some (some [])), (9, none), (10, none), (11, none), (12, some none)] ?_; have hS := hS.drew; refine s_cq ?_; refine zm ?_; refine zt ?_; refine s_cq ?_; refine Q1 rfl ?_; refine zt ?_; refine s_cq ?_; refine zl hS ?_; refine zt ?_; refine s_cq ?_; refine Q1 rfl ?_)
      all_goals (refine zt ?_; refine s_cq ?_; refine zl hS ?_; refine zt ?_; refine Qx ?_; refine zR1 (c := Q4m i2.1 i2.2 hT hS) (h := ?_); rintro v1 w1 ⟨rfl, hS⟩; refine zt ?_; refine zy ?_; refine s_cq ?_; refine Qi rfl rfl (by first | omega | (simp only [List.length_append, List.length_cons, List.length_nil]; omega)) ?_; refine zt ?_; refine s_cq ?_; refine Qi rfl rfl (by first | omega | (simp only [List.length_append, List.length_cons, List.length_nil]; omega)) ?_; refine zt ?_; refine Qx ?_; refine zR1 (c := Qg3 q5 hp2 hT hS) (h := ?_); rintro v2 w1 ⟨rfl, hS⟩; refine zt ?_; refine zy ?_; refine s_cq ?_; refine Qi rfl rfl (by first | omega | (simp only [List.length_append, List.length_cons, List.length_nil]; omega)) ?_; refine zt ?_; refine s_cq ?_; refine Qi rfl rfl (by first | omega | (simp only [List.length_append, List.length_cons, List.length_nil]; omega)) ?_; refine zt ?_; refine s_cq ?_; refine Q46 rfl rfl (by simp only [List.length_append, List.length_cons, List.length_nil]; omega) ?_; intro t7 ht7; refine zt ?_; refine s_cf ?_; refine zm ?_; refine zt ?_; refine zcn ?_; refine Q0 ?_; refine Q0 ?_; refine Q2 ?_; refine zm ?_; refine zn ?_; refine Q8 ?_; have hcl := hc2.len)
      refine zo [1, 4, 5, 6, 7] (fun A ρ' w' => ∃ (j2 : Nat) (t2 : List UInt8), Has ρ' A ∧ Has ρ' [(3, .string ⟨t2.toArray⟩), (8, .int .i64 j2)] ∧ (j2 ≤ x2.code.length) ∧ (t2 = t1 ++ (Block.head x2 ++ Q1x (x2.code.take j2))) ∧ St cx w' (blk p7 52 [.int .i64 x2.regs, vp2, vc2, .int .i64 x2.fin.op, .int .i64 x2.fin.a, .int .i64 x2.fin.yes.block, ve21, ve22, .int .i64 x2.fin.no.block, ve23, ve24, ve25] :: blk p5 43 [.int .i64 x1.regs, vp1, vr1, vb1] :: blk p1 24 [vf] :: L)) (fun ρ' _ => (x2.code.length - iv (ρ' 8)).toNat) ?_ ?_
      · exact ⟨0, t7, zh, zh, (by omega), by rw [List.take_zero, ht7]; unfold Block.head Q1x; simp only [Q4N, Q32, Q31, Q5d, tIf, tTo, Q5e, tRet, List.append_assoc, List.cons_append, List.nil_append], hS.sp⟩
      rintro ρ w1 ⟨j2, t2, hA, hρ, hj2, ht2, hS⟩; obtain ⟨ρ, rfl⟩ := env2 hA hρ
      unfold Q3Y
      all_goals (refine Q0 ?_; refine Q0 ?_; refine Q2 ?_; refine zm ?_; refine Q1 rfl ?_; refine zl hS ?_; refine zL ?_; refine Qp rfl rfl ?_; refine zn ?_)
      refine Ql rfl (fun hc => ?_) (fun hc => ?_)
      · skip
        all_goals (refine zsk ?_; refine Q0 ?_; refine Q8 ?_; have l11 := Q6r q6 q7 j2; have l12 : t2.length ≤ 500000000 := (by rw [ht2]; unfold Block.head; simp only [List.length_append, List.length_cons, List.length_nil]; omega); refine Q2 ?_; refine zm ?_; refine Q1 rfl ?_; refine zl hS ?_; refine zm ?_; refine zi ?_; intro b3 o3 cs3 x3 hat3 hx3 he3; obtain ⟨vr3, va3, rfl, hr3, ha3⟩ := Q1u he3; (first | (refine zv hS ?_) | (refine zvk hS ?_)); have q9 := q7 _ (List.mem_of_getElem? hx3); have l10 := Ins.txt_le q9; refine zR1 (c := rins_txt q9 he3 hT hS) (h := ?_); rintro v3 w1 ⟨rfl, hS⟩; refine Qi rfl rfl (by first | omega | (simp only [List.length_append, List.length_cons, List.length_nil]; omega)) ?_; refine Qi rfl rfl (by first | omega | (simp only [List.length_append, List.length_cons, List.length_nil]; omega)) ?_; refine Q46 rfl rfl (by simp only [List.length_append, List.length_cons, List.length_nil]; omega) ?_; intro t8 ht8; refine zm ?_; refine zn ?_; refine Q2 ?_; refine zm ?_; refine zad ?_; refine zm ?_; refine zn ?_; exact ⟨⟨j2 + 1, t8, zh, zh, (by omega), by rw [ht8, code_s hx3, ht2]; simp only [Q4N, Q32, Q31, Q5d, tIf, tTo, Q5e, tRet, List.append_assoc, List.cons_append, List.nil_append], hS.sp⟩, Qk (by omega)⟩)
      · skip
        all_goals (refine zex ?_)
        refine zM [1, 4, 5, 6] (fun A ρ' w' => ∃ (t3 : List UInt8), Has ρ' A ∧ Has ρ' [(3, .string ⟨t3.toArray⟩)] ∧ (t3 = t2 ++ ([9] ++ x2.fin.txt)) ∧ St cx w' (blk p7 52 [.int .i64 x2.regs, vp2, vc2, .int .i64 x2.fin.op, .int .i64 x2.fin.a, .int .i64 x2.fin.yes.block, ve21, ve22, .int .i64 x2.fin.no.block, ve23, ve24, ve25] :: blk p5 43 [.int .i64 x1.regs, vp1, vr1, vb1] :: blk p1 24 [vf] :: L)) ?_ ?_
        · skip
          all_goals (refine Q0 ?_; have l11 := Q6r q6 q7 j2; have l12 : t2.length ≤ 500000000 := (by rw [ht2]; unfold Block.head; simp only [List.length_append, List.length_cons, List.length_nil]; omega); obtain ⟨i3, q10, q11, q12⟩ := q8; have l13 := Q1f i3; have l14 := To.txt_le q10; have l15 := To.txt_le q11; have l16 := Q1l q12 (b := [40]) (e := [41]) rfl rfl; refine Q2 ?_; refine Q1 rfl ?_; (first | refine Q1 rfl ?_ | refine QS rfl ?_); refine zl hS ?_; refine zn ?_; refine Q8 ?_; refine Q0 ?_; refine Q2 ?_)
          all_goals (first | (refine Qq ?_) | (refine Qr ?_) | (refine Qf rfl rfl (fun hc => ?_) (fun hc => ?_)))
          all_goals (refine zm ?_; refine zn ?_)
          all_goals
            first
            | (refine Q5 rfl ?_ -- Q2o c3
               all_goals (refine Q2 ?_; refine zm ?_; refine Q1 rfl ?_; (first | refine Q1 rfl ?_ | refine QS rfl ?_); refine zv hS ?_; refine zR1 (c := Qli q10 ⟨_, _, rfl, he21, he22⟩ hT hS) (h := ?_); rintro v3 w1 ⟨rfl, hS⟩; refine Qi rfl rfl (by first | omega | (simp only [List.length_append, List.length_cons, List.length_nil]; omega)) ?_; refine Q46 rfl rfl (by simp only [List.length_append, List.length_cons, List.length_nil]; omega) ?_; intro t9 ht9; refine zm ?_)
               all_goals refine zn ?_)
            | (refine Q4 rfl ?_ -- Q2o c3
               all_goals (refine Q0 ?_; refine Q2 ?_)
               all_goals (first | (refine Qq ?_) | (refine Qr ?_) | (refine Qf rfl rfl (fun hc => ?_) (fun hc => ?_)))
               all_goals (refine zm ?_; refine zn ?_)
               all_goals
                 first
                 | (refine Q5 rfl ?_ -- Q2o c4
                    all_goals (refine zC [(0, none), (1, none), (2, none), (3, none), (7, none), (8, none), (9, none), (13, none), (14, none), (15, none), (4, some (some [9, 15])), (5, none), (6, none), (10, some (some [15])), (11, none), (12, none), (16, some (some [])), (17, none), (18, none), (19, some none)] ?_; have hS := hS.drew; refine s_cq ?_; refine zm ?_; refine zt ?_; refine s_cq ?_; refine Q1 rfl ?_; refine zt ?_; refine s_cq ?_; (first | refine Q1 rfl ?_ | refine QS rfl ?_); refine zt ?_; refine s_cq ?_; refine zl hS ?_; refine zt ?_; refine s_cq ?_; refine Q1 rfl ?_; refine zt ?_; refine s_cq ?_; (first | refine Q1 rfl ?_ | refine QS rfl ?_); refine zt ?_; refine s_cq ?_; refine zv hS ?_; refine zt ?_; refine s_cq ?_; refine Q1 rfl ?_; refine zt ?_; refine s_cq ?_; (first | refine Q1 rfl ?_ | refine QS rfl ?_); refine zt ?_; refine s_cq ?_; refine zv hS ?_; refine zt ?_; refine Qx ?_; refine zR1 (c := Q4m i3.1 i3.2 hT hS) (h := ?_); rintro v1 w1 ⟨rfl, hS⟩; refine zt ?_; refine zy ?_; refine s_cq ?_; refine Qi rfl rfl (by first | omega | (simp only [List.length_append, List.length_cons, List.length_nil]; omega)) ?_; refine zt ?_; refine s_cq ?_; refine Qi rfl rfl (by first | omega | (simp only [List.length_append, List.length_cons, List.length_nil]; omega)) ?_)
                    all_goals (refine zt ?_; refine Qx ?_; refine zR1 (c := Qli q10 ⟨_, _, rfl, he21, he22⟩ hT hS) (h := ?_); rintro v3 w1 ⟨rfl, hS⟩; refine zt ?_; refine zy ?_; refine s_cq ?_; refine Qi rfl rfl (by first | omega | (simp only [List.length_append, List.length_cons, List.length_nil]; omega)) ?_; refine zt ?_; refine s_cq ?_; refine Qi rfl rfl (by first | omega | (simp only [List.length_append, List.length_cons, List.length_nil]; omega)) ?_; refine zt ?_; refine Qx ?_; refine zR1 (c := Qli q11 ⟨_, _, rfl, he23, he24⟩ hT hS) (h := ?_); rintro v3 w1 ⟨rfl, hS⟩; refine zt ?_; refine zy ?_; refine s_cq ?_; refine Qi rfl rfl (by first | omega | (simp only [List.length_append, List.length_cons, List.length_nil]; omega)) ?_; refine zt ?_; refine s_cq ?_; refine Q46 rfl rfl (by simp only [List.length_append, List.length_cons, List.length_nil]; omega) ?_; intro t9 ht9; refine zt ?_; refine s_cf ?_; refine zm ?_; refine zt ?_)
                    all_goals refine zcn ?_)
                 | (refine Q4 rfl ?_ -- Q2o c4
                    all_goals (refine Q2 ?_; refine zm ?_; refine Q1 rfl ?_; (first | refine Q1 rfl ?_ | refine QS rfl ?_); refine zl hS ?_; refine zR3 (c := Q4a (by decide) (by decide) q12 he25 hT hS) (h := ?_); rintro v3 w1 ⟨rfl, hS⟩; refine Qi rfl rfl (by first | omega | (simp only [List.length_append, List.length_cons, List.length_nil]; omega)) ?_; refine Q46 rfl rfl (by simp only [List.length_append, List.length_cons, List.length_nil]; omega) ?_; intro t9 ht9; refine zm ?_)
                    all_goals refine zn ?_))
          all_goals ((first | (exact ⟨t9, zh, zh, by rw [ht9, tail_1 (by omega)]; simp only [Q4N, Q32, Q31, Q5d, tIf, tTo, Q5e, tRet, List.append_assoc, List.cons_append, List.nil_append], hS.sp⟩) | (exact ⟨t9, zh, zh, by rw [ht9, tail_2 (by omega)]; simp only [Q4N, Q32, Q31, Q5d, tIf, tTo, Q5e, tRet, List.append_assoc, List.cons_append, List.nil_append], hS.sp⟩) | (exact ⟨t9, zh, zh, by rw [ht9, tail_3 (by omega) (by omega)]; simp only [Q4N, Q32, Q31, Q5d, tIf, tTo, Q5e, tRet, List.append_assoc, List.cons_append, List.nil_append], hS.sp⟩)))
        rintro ρ w1 ⟨t3, hA, hρ, ht3, hS⟩; obtain ⟨ρ, rfl⟩ := env2 hA hρ
        all_goals (have l11 := Q6r q6 q7 j2; have l12 : t2.length ≤ 500000000 := (by rw [ht2]; unfold Block.head; simp only [List.length_append, List.length_cons, List.length_nil]; omega); have l17 : t3.length ≤ 600000000 := (by rw [ht3]; simp only [List.length_append, List.length_cons, List.length_nil]; omega); refine Q2 ?_; refine zm ?_; refine Q46 rfl rfl (by simp only [List.length_append, List.length_cons, List.length_nil]; omega) ?_; intro t9 ht9; refine zm ?_; refine zn ?_; refine Q2 ?_; refine zm ?_; refine zad ?_; refine zm ?_; refine zn ?_; exact ⟨⟨j1 + 1, t9, zh, zh, (by omega), by rw [ht9, QmQ hx2, QjS, ht3, ht2, ht1, List.take_of_length_le (l := x2.code) (by omega)]; simp only [Q4N, Q32, Q31, Q5d, tIf, tTo, Q5e, tRet, List.append_assoc, List.cons_append, List.nil_append], hS.sp⟩, Qk (by omega)⟩)
    · skip
      all_goals (refine zex ?_; have l7 := Q4K q3 q4 j1; have l9 : t1.length ≤ 400000000 := (by rw [ht1]; unfold Fun.head; simp only [List.length_append, List.length_cons, List.length_nil]; omega); refine Q2 ?_; refine zm ?_; refine Q46 rfl rfl (by simp only [List.length_append, List.length_cons, List.length_nil]; omega) ?_; intro t9 ht9; refine zm ?_; refine zn ?_; refine Q2 ?_; refine zm ?_; refine zad ?_; refine zm ?_; refine zn ?_; exact ⟨⟨j + 1, t9, zh, zh, (by omega), by rw [ht9, funs_s hx1, QlA, ht1, ht, List.take_of_length_le (l := x1.blocks) (by omega)]; simp only [Q4N, Q32, Q31, Q5d, tIf, tTo, Q5e, tRet, List.append_assoc, List.cons_append, List.nil_append], hS.sp⟩, Qk (by omega)⟩)
  · skip
    all_goals (refine zex ?_; refine Q0 ?_; refine Q2 ?_; refine zm ?_; refine zm ?_; refine zn ?_; refine zr ?_; refine zf ?_; refine ⟨_, rfl, ?_, hS.sp⟩; rw [ht, List.take_of_length_le (by omega)]; done)
end Go.Proofs.YtjecflbbcnocdaaGreatDoor
namespace Go.Proofs.YtjecflbbcnocdaaGreatDoor
open Go.Lir
set_option maxHeartbeats 1000000
attribute [local irreducible] LC.wp Q3 QW Q13 retQ Q2i LO.wp Qv Calls
set_option linter.unusedSimpArgs false
set_option linter.unusedVariables false
attribute [local irreducible] orF mkF orC Q1H Q1I Q1S Q2k Qm Qn Qt Q2z Q2B Qdx QaH
variable {cx : Cx} {w : World} {L : List Res} {i : Nat}
theorem fault_if (c : Int) : (if decide (c ≠ 0) = true then c else 0) = c := by by_cases h : c = 0 <;> simp [h]
theorem rto_c {x : Fun} {t : To} {is : Bool} {cs ds : List Value} (hx : funcR.at cx cs x) (ht : toR.at cx ds t) (hS : St cx w L) :
    Rets Tryz.prog Q3l [.agg ⟨cs⟩, .agg ⟨ds⟩, .bool is] w fun u w' => u = .int .i64 (Q1S x.blocks.length t is) ∧ St cx w' L := by
  obtain ⟨vp, vr, vb, rfl, hp, hr, hb⟩ := QQ hx
  obtain ⟨v1, v2, rfl, h1, h2⟩ := Q3K ht
  have hlb := hb.len
  have hb1 := h1.len
  have hb2 := h2.len
  unfold Q1S
  cases is with
  | false =>
    all_goals refine QaQ ?_
    all_goals (unfold R_toForm_lc; refine Q0 ?_; refine Q2 ?_; refine zb hS ?_; intro p3 w1 hS; refine zb hS ?_; intro p4 w1 hS; refine zm ?_; refine zn ?_; refine Q0 ?_; refine Q0 ?_; refine Q2 ?_; refine zm ?_; refine Q1G rfl ?_; refine zn ?_)
    all_goals refine Q5 rfl ?_
    all_goals (refine Q0 ?_; refine Q0 ?_; refine Q2 ?_; refine Q1 rfl ?_; refine zl hS ?_)
    all_goals (first | (refine Q1m ?_) | (refine Q1n ?_) | (refine Qs rfl rfl (fun hc => ?_) (fun hc => ?_)))
    all_goals (refine zm ?_; (first | refine s_gn rfl rfl ?_ | (refine s_gy rfl ?_; refine Q1 rfl ?_)); (first | refine s_gn rfl rfl ?_ | (refine s_gy rfl ?_; refine zl hS ?_)); (first | refine s_gn rfl rfl ?_ | (refine s_gy rfl ?_; refine zL ?_)); (first | refine s_gn rfl rfl ?_ | (refine s_gy rfl ?_; refine Q1 rfl ?_)); (first | refine s_gn rfl rfl ?_ | (refine s_gy rfl ?_; refine zl hS ?_)); (first | refine s_gn rfl rfl ?_ | (refine s_gy rfl ?_; refine zL ?_)); (first | refine s_gn rfl rfl ?_ | (refine s_gy rfl ?_; refine zad ?_)))
    all_goals (first | refine s_gn rfl rfl ?_ | (refine s_gy rfl ?_; (first | (refine Qz ?_) | (refine QF ?_) | (refine Qh rfl rfl (fun hc => ?_) (fun hc => ?_)))))
    all_goals ((first | (refine zpt ?_) | (refine zpf ?_)); refine zn ?_)
    all_goals
      first
      | (refine Q5 rfl ?_ -- Q3l c1
         all_goals (refine Q0 ?_; refine Q2 ?_; refine zm ?_; refine zn ?_; refine zr ?_; refine zf ?_)
         all_goals (refine ⟨_, rfl, ?_, hS.sp⟩; (rw [if_pos rfl]; first | rw [if_pos (by omega)] | rw [if_neg (by omega)]); done))
      | (refine Q4 rfl ?_ -- Q3l c1
         all_goals refine zsk ?_)
    all_goals (refine Q0 ?_; refine Q2 ?_; refine zm ?_; refine zn ?_; refine zr ?_; refine zf ?_; refine ⟨_, rfl, ?_, hS.sp⟩; (rw [if_pos rfl]; first | rw [if_pos (by omega)] | rw [if_neg (by omega)]); done)
  | true =>
    all_goals refine QaQ ?_
    all_goals (unfold R_toForm_lc; refine Q0 ?_; refine Q2 ?_; refine zb hS ?_; intro p3 w1 hS; refine zb hS ?_; intro p4 w1 hS; refine zm ?_; refine zn ?_; refine Q0 ?_; refine Q0 ?_; refine Q2 ?_; refine zm ?_; refine Q1G rfl ?_; refine zn ?_)
    all_goals refine Q4 rfl ?_
    all_goals (refine zsk ?_; refine Q0 ?_; refine Q0 ?_; refine Q2 ?_; refine Q1 rfl ?_; refine zl hS ?_)
    all_goals (first | (refine Q1z ?_) | (refine Q1A ?_) | (refine QK rfl rfl (fun hc => ?_) (fun hc => ?_)))
    all_goals (refine zm ?_; (first | refine s_gn rfl rfl ?_ | (refine s_gy rfl ?_; refine Q1 rfl ?_)); (first | refine s_gn rfl rfl ?_ | (refine s_gy rfl ?_; refine zl hS ?_)); (first | refine s_gn rfl rfl ?_ | (refine s_gy rfl ?_; refine Q1 rfl ?_)); (first | refine s_gn rfl rfl ?_ | (refine s_gy rfl ?_; refine zl hS ?_)); (first | refine s_gn rfl rfl ?_ | (refine s_gy rfl ?_; refine zL ?_)))
    all_goals (first | refine s_gn rfl rfl ?_ | (refine s_gy rfl ?_; (first | (refine Q9k ?_) | (refine Q9l ?_) | (refine Q34 rfl rfl (fun hc => ?_) (fun hc => ?_)))))
    all_goals ((first | (refine zpt ?_) | (refine zpf ?_)); refine zn ?_)
    all_goals
      first
      | (refine Q5 rfl ?_ -- Q3l c2
         all_goals (refine Q0 ?_; refine Q2 ?_; refine zm ?_; refine zn ?_; refine zr ?_; refine zf ?_)
         all_goals (refine ⟨_, rfl, ?_, hS.sp⟩; rw [if_neg Bool.noConfusion]; (repeat (first | rw [if_pos (by omega)] | rw [if_neg (by omega)])); done))
      | (refine Q4 rfl ?_ -- Q3l c2
         all_goals refine zsk ?_)
    all_goals (refine Q0 ?_; refine Q0 ?_; refine Q2 ?_; refine Q1 rfl ?_; refine zl hS ?_; refine zL ?_)
    all_goals (first | (refine Qz ?_) | (refine QF ?_) | (refine Qh rfl rfl (fun hc => ?_) (fun hc => ?_)))
    all_goals (refine zm ?_; (first | refine s_gn rfl rfl ?_ | (refine s_gy rfl ?_; refine Q1 rfl ?_)); (first | refine s_gn rfl rfl ?_ | (refine s_gy rfl ?_; refine zl hS ?_)); (first | refine s_gn rfl rfl ?_ | (refine s_gy rfl ?_; refine zL ?_)))
    all_goals (first | refine s_gn rfl rfl ?_ | (refine s_gy rfl ?_; (first | (refine Qz ?_) | (refine QF ?_) | (refine Qh rfl rfl (fun hc => ?_) (fun hc => ?_)))))
    all_goals ((first | (refine zpt ?_) | (refine zpf ?_)); refine zn ?_)
    all_goals
      first
      | (refine Q5 rfl ?_ -- Q3l c3
         all_goals (refine Q0 ?_; refine Q2 ?_; refine zm ?_; refine zn ?_; refine zr ?_; refine zf ?_)
         all_goals (refine ⟨_, rfl, ?_, hS.sp⟩; rw [if_neg Bool.noConfusion]; (repeat (first | rw [if_pos (by omega)] | rw [if_neg (by omega)])); done))
      | (refine Q4 rfl ?_ -- Q3l c3
         all_goals refine zsk ?_)
    all_goals (refine Q0 ?_; refine Q2 ?_; refine zm ?_; refine zn ?_; refine zr ?_; refine zf ?_; refine ⟨_, rfl, ?_, hS.sp⟩; rw [if_neg Bool.noConfusion]; (repeat (first | rw [if_pos (by omega)] | rw [if_neg (by omega)])); done)
theorem rend_c {x : Fun} {e : Tail} {cs ds : List Value} (hx : funcR.at cx cs x) (he : endR.at cx ds e) (hS : St cx w L) :
    Rets Tryz.prog Q2e [.agg ⟨cs⟩, .agg ⟨ds⟩] w fun u w' => u = .int .i64 (Q2k x.blocks.length e) ∧ St cx w' L := by
  obtain ⟨vp, vr, vb, rfl, hp, hr, hb⟩ := QQ hx
  obtain ⟨v1, v2, v3, v4, v5, rfl, h1, h2, h3, h4, h5⟩ := QgP he
  have s5 := h5.len
  unfold Q2k
  all_goals refine QkW ?_
  all_goals (unfold R_EndForm_lc; refine Q0 ?_; refine Q2 ?_; refine zb hS ?_; intro p2 w1 hS; refine zb hS ?_; intro p3 w1 hS; refine zm ?_; refine zn ?_; refine Q0 ?_; refine Q0 ?_; refine Q2 ?_; refine Q1 rfl ?_; refine zl hS ?_)
  all_goals (first | (refine Q1z ?_) | (refine Q1A ?_) | (refine QK rfl rfl (fun hc => ?_) (fun hc => ?_)))
  all_goals (refine zm ?_; (first | refine s_gn rfl rfl ?_ | (refine s_gy rfl ?_; refine Q1 rfl ?_)); (first | refine s_gn rfl rfl ?_ | (refine s_gy rfl ?_; refine zl hS ?_)))
  all_goals (first | refine s_gn rfl rfl ?_ | (refine s_gy rfl ?_; (first | (refine Qz ?_) | (refine QF ?_) | (refine Qh rfl rfl (fun hc => ?_) (fun hc => ?_)))))
  all_goals ((first | (refine zpt ?_) | (refine zpf ?_)); refine zn ?_)
  all_goals
    first
    | (refine Q5 rfl ?_ -- Q2e c0
       all_goals (refine Q0 ?_; refine Q2 ?_; refine zm ?_; refine zn ?_; refine zr ?_; refine zf ?_)
       all_goals (refine ⟨_, rfl, ?_, hS.sp⟩; rw [if_pos (by omega)]; done))
    | (refine Q4 rfl ?_ -- Q2e c0
       all_goals refine zsk ?_)
  refine zML hS [2, 3] (fun A LL ρ' w' => Has ρ' A ∧ Has ρ' [] ∧ (¬ (e.op < 1 ∨ 3 < e.op)) ∧ (¬ (e.op ≠ 2 ∧ e.a ≠ 0 ∨ e.op ≠ 3 ∧ 0 < e.args.length)) ∧ St cx w' (LL)) ?_ ?_
  · skip
    all_goals (refine Q0 ?_; refine Q2 ?_; refine Q1 rfl ?_; refine zl hS ?_)
    all_goals (first | (refine Q1m ?_) | (refine Q1n ?_) | (refine Qs rfl rfl (fun hc => ?_) (fun hc => ?_)))
    all_goals (refine zm ?_; (first | refine s_gn rfl rfl ?_ | (refine s_gy rfl ?_; refine Q1 rfl ?_)); (first | refine s_gn rfl rfl ?_ | (refine s_gy rfl ?_; refine zl hS ?_)))
    all_goals (first | refine s_gn rfl rfl ?_ | (refine s_gy rfl ?_; (first | (refine Q1m ?_) | (refine Q1n ?_) | (refine Qs rfl rfl (fun hc => ?_) (fun hc => ?_)))))
    all_goals ((first | (refine zpt ?_) | (refine zpf ?_)); refine zm ?_; (first | refine s_gn rfl rfl ?_ | (refine s_gy rfl ?_; refine Q1 rfl ?_)); (first | refine s_gn rfl rfl ?_ | (refine s_gy rfl ?_; refine zl hS ?_)); (first | refine s_gn rfl rfl ?_ | (refine s_gy rfl ?_; refine zL ?_)))
    all_goals (first | refine s_gn rfl rfl ?_ | (refine s_gy rfl ?_; (first | (refine Qz ?_) | (refine QF ?_) | (refine Qh rfl rfl (fun hc => ?_) (fun hc => ?_)))))
    all_goals ((first | refine s_gn rfl rfl ?_ | (refine s_gy rfl ?_; refine zm ?_)); (first | refine s_gn rfl rfl ?_ | (refine s_gy rfl ?_; refine Q1 rfl ?_)); (first | refine s_gn rfl rfl ?_ | (refine s_gy rfl ?_; refine zl hS ?_)))
    all_goals (first | refine s_gn rfl rfl ?_ | (refine s_gy rfl ?_; (first | (refine Q1m ?_) | (refine Q1n ?_) | (refine Qs rfl rfl (fun hc => ?_) (fun hc => ?_)))))
    all_goals ((first | refine s_gn rfl rfl ?_ | (refine s_gy rfl ?_; (first | (refine zpt ?_) | (refine zpf ?_)))); (first | (refine zpt ?_) | (refine zpf ?_)); refine zn ?_)
    all_goals
      first
      | (refine Q5 rfl ?_ -- Q2e c1
         all_goals (refine Q0 ?_; refine Q2 ?_; refine zm ?_; refine zn ?_; refine zr ?_; refine zf ?_)
         all_goals (first | (refine ⟨_, rfl, ?_, hS.sp⟩; rw [if_pos (by omega)]; done) | (refine ⟨_, rfl, ?_, hS.sp⟩; rw [if_neg (by omega), if_pos (by omega)]; done)))
      | (refine Q4 rfl ?_ -- Q2e c1
         all_goals refine zsk ?_)
    all_goals (exact ⟨zh, zh, by omega, by omega, hS.sp⟩)
  rintro ρ w1 ⟨hA, hρ, k1, k2, hS⟩; obtain ⟨ρ, rfl⟩ := env2 hA hρ
  all_goals (refine Q0 ?_; refine Q0 ?_; refine Q2 ?_; refine Q1 rfl ?_; refine zl hS ?_; refine zL ?_)
  all_goals (first | (refine Qz ?_) | (refine QF ?_) | (refine Qh rfl rfl (fun hc => ?_) (fun hc => ?_)))
  all_goals (refine zn ?_)
  all_goals
    first
    | (refine Q5 rfl ?_ -- Q2e c2
       all_goals (refine Q0 ?_; refine Q2 ?_; refine zm ?_; refine zn ?_; refine zr ?_; refine zf ?_)
       all_goals (first | (refine ⟨_, rfl, ?_, hS.sp⟩; rw [if_pos (by omega)]; done) | (refine ⟨_, rfl, ?_, hS.sp⟩; rw [if_neg (by omega), if_pos (by omega)]; done) | (refine ⟨_, rfl, ?_, hS.sp⟩; rw [if_neg k1, if_neg k2, if_pos (by omega)]; done)))
    | (refine Q4 rfl ?_ -- Q2e c2
       all_goals refine zsk ?_)
  all_goals (refine Q0 ?_; refine Q0 ?_; refine Q2 ?_; refine zv hS ?_; refine Q1 rfl ?_; refine zv hS ?_; refine Q1 rfl ?_; refine zl hS ?_; refine Q5f rfl rfl ?_; refine zR3 (c := rto_c (t := e.yes) hx ⟨_, _, rfl, h1, h2⟩ hS) (h := ?_); rintro v1 w1 ⟨rfl, hS⟩; refine zm ?_; refine zn ?_; refine Q0 ?_; refine Q2 ?_; refine zm ?_)
  all_goals (first | (refine Q1m ?_) | (refine Q1n ?_) | (refine Qs rfl rfl (fun hc => ?_) (fun hc => ?_)))
  all_goals (refine zn ?_)
  all_goals
    first
    | (refine Q5 rfl ?_ -- Q2e c3
       all_goals (refine Q0 ?_; refine Q2 ?_; refine zm ?_; refine zm ?_; refine zn ?_; refine zr ?_; refine zf ?_)
       all_goals (first | (refine ⟨_, rfl, ?_, hS.sp⟩; rw [if_pos (by omega)]; done) | (refine ⟨_, rfl, ?_, hS.sp⟩; rw [if_neg (by omega), if_pos (by omega)]; done) | (refine ⟨_, rfl, ?_, hS.sp⟩; rw [if_neg k1, if_neg k2, if_pos (by omega)]; done) | (refine ⟨_, rfl, ?_, hS.sp⟩; (rw [if_neg k1, if_neg k2, if_neg (by omega)]; first | rw [Q4j (by assumption)] | (rw [Classical.not_not.1 (by assumption : ¬ Q1S x.blocks.length e.yes (decide (e.op ≠ 3)) ≠ 0), Q41])); done)))
    | (refine Q4 rfl ?_ -- Q2e c3
       all_goals refine zsk ?_)
  all_goals (refine Q0 ?_; refine Q2 ?_; refine zv hS ?_; refine Q1 rfl ?_; refine zv hS ?_; refine Q1 rfl ?_; refine zl hS ?_; refine Q9G rfl rfl ?_; refine zR3 (c := rto_c (t := e.no) hx ⟨_, _, rfl, h3, h4⟩ hS) (h := ?_); rintro v1 w1 ⟨rfl, hS⟩; refine zm ?_; refine zn ?_; refine zr ?_; refine zf ?_; (first | (refine ⟨_, rfl, ?_, hS.sp⟩; rw [if_pos (by omega)]; done) | (refine ⟨_, rfl, ?_, hS.sp⟩; rw [if_neg (by omega), if_pos (by omega)]; done) | (refine ⟨_, rfl, ?_, hS.sp⟩; rw [if_neg k1, if_neg k2, if_pos (by omega)]; done) | (refine ⟨_, rfl, ?_, hS.sp⟩; (rw [if_neg k1, if_neg k2, if_neg (by omega)]; first | rw [Q4j (by assumption)] | (rw [Classical.not_not.1 (by assumption : ¬ Q1S x.blocks.length e.yes (decide (e.op ≠ 3)) ≠ 0), Q41])); done)))
theorem Qlk {l : List Ty} {regs : Int} {v vf : Value} {g : Flt} {at' : Int} {b : Nat} (hl : tyR.sl cx v l) (hS : St cx w L) (hi : nth L i = some (jdg b vf g at')) :
    Rets Tryz.prog Q4p [.pointer (some ⟨b, 0, none⟩), v, .int .i64 regs] w fun u w' => u = .tuple #[] ∧ St cx w' (L.set i (jdg b vf (orF g (mkF (Qm l regs) at')) at')) := by
  have hS := hS.out hi
  have hlen := hl.len
  have e0 : orF g (mkF (Qm l regs) at') = orF g (mkF (orC (if 8 < l.length then 2 else 0) (Q2h regs l)) at') := by
    congr 2
    unfold Qm
    split
    · rw [Q4j (by decide)]
    · rw [Q41]
  rw [e0]
  all_goals refine Q6A ?_
  all_goals (unfold code_judge_list_lc)
  refine zM [0, 1, 2] (fun A ρ' w' => Has ρ' A ∧ Has ρ' [] ∧ St cx w' (jdg b vf (orF g (mkF (if 8 < l.length then 2 else 0) at')) at' :: L.eraseIdx i)) ?_ ?_
  · skip
    all_goals (refine Q2 ?_; refine zm ?_; refine zm ?_; refine zL ?_)
    all_goals (first | (refine Qz ?_) | (refine QF ?_) | (refine Qh rfl rfl (fun hc => ?_) (fun hc => ?_)))
    all_goals (refine zR3 (c := Q1Y (by intro _; decide) hS fd) (h := ?_); rintro v1 w1 ⟨rfl, hS⟩; simp only [List.set_cons_zero, List.set_cons_succ, if_true, Bool.false_eq_true, if_false] at hS; refine zn ?_; exact ⟨zh, zh, by first | (rw [if_pos (by omega)]; exact hS.sp) | (rw [if_neg (by omega)]; exact hS.sp)⟩)
  rintro ρ w1 ⟨hA, hρ, hS⟩; obtain ⟨ρ, rfl⟩ := env2 hA hρ
  all_goals (refine Q0 ?_; refine Q2 ?_; refine zm ?_; refine zL ?_; refine zm ?_; refine zn ?_; refine Q8 ?_)
  refine zo [0, 2, 14, 15] (fun A ρ' w' => ∃ (j : Nat) (h : Flt), Has ρ' A ∧ Has ρ' [(16, .int .i64 j)] ∧ (j ≤ l.length) ∧ (orF g (mkF (orC (if 8 < l.length then 2 else 0) (Q2h regs l)) at') = orF h (mkF (Q2h regs (l.drop j)) at')) ∧ St cx w' (jdg b vf h at' :: L.eraseIdx i)) (fun ρ' _ => (l.length - iv (ρ' 16)).toNat) ?_ ?_
  · exact ⟨0, _, zh, zh, (by omega), by rw [List.drop_zero, Q2t], hS.sp⟩
  rintro ρ w1 ⟨j, h, hA, hρ, hj, hd, hS⟩; obtain ⟨ρ, rfl⟩ := env2 hA hρ
  unfold Q3j
  all_goals (refine Q0 ?_; refine Q2 ?_; refine Qp rfl rfl ?_; refine zn ?_; refine Q0 ?_)
  refine Ql rfl (fun hc => ?_) (fun hc => ?_)
  · skip
    all_goals (refine zsk ?_; refine Q0 ?_; refine Q8 ?_; refine Q0 ?_; refine Q2 ?_; refine zi ?_; intro b1 o1 cs1 x1 hat1 hx1 he1; obtain ⟨vl1, rfl, hl1⟩ := QG he1; (first | (refine zv hS ?_) | (refine zvk hS ?_)); refine Qc hS ?_; intro p7 w1 hS; refine zsn hS ?_; intro w1 hS; have hS := hS.ns; refine zn ?_; refine Q0 ?_; refine Q2 ?_; refine zv hS ?_; refine zm ?_; refine zR2 (c := tcheck_c (by assumption) hS) (h := ?_); rintro v1 w1 ⟨rfl, hS⟩; refine zm ?_; refine zn ?_; refine Q2 ?_; refine zm ?_; refine zm ?_; refine Q5f rfl rfl ?_; refine zm ?_; refine zR3 (c := Q1Y (by intro h; exact of_decide_eq_true h) hS fd) (h := ?_); rintro v1 w1 ⟨rfl, hS⟩; simp only [List.set_cons_zero, List.set_cons_succ, fault_if] at hS; refine zn ?_; refine Q2 ?_; refine zad ?_; refine zm ?_; refine zn ?_; exact ⟨⟨j + 1, _, zh, zh, (by omega), by rw [hd, Q7 hx1, Q2h, ← Q2t], hS.sp⟩, Qk (by omega)⟩)
  · skip
    all_goals (refine zex ?_; refine Q3U ?_; refine ⟨_, rfl, rfl, ?_⟩; rw [hd, List.drop_of_length_le (by omega), Q2h, Q1R, Qnb rfl]; exact St.back hS hi)
def fltV (g : Flt) : Value := .agg ⟨[.int .i64 g.1, .int .i64 g.2]⟩
theorem rblock_c {m : Module} {f b : Nat} {x : Fun} {y : Block} (hxf : m.funcs[f]? = some x) (hyb : x.blocks[b]? = some y) (hf0 : f ≤ 1000000) (hb0 : b ≤ 1000000) (hlc : y.code.length ≤ 100000) {cs : List Value} (hm : modR.at cx cs m) (hS : St cx w L) :
    Rets Tryz.prog QJ [.agg ⟨cs⟩, .int .i64 f, .int .i64 b] w fun u w' => u = fltV (QC m.funcs.length f x b y) ∧ St cx w' L := by
  have hm' := hm
  obtain ⟨vf, rfl, hf⟩ := Q1B hm
  have hflt := (List.getElem?_eq_some_iff.1 hxf).1
  have hblt := (List.getElem?_eq_some_iff.1 hyb).1
  all_goals refine Qbe ?_
  all_goals (unfold R_blockFault_lc; refine Q0 ?_; refine Q2 ?_; refine zb hS ?_; intro p3 w1 hS; refine Qc hS ?_; intro p6 w1 hS; refine zn ?_; refine Q0 ?_; refine Q2 ?_; refine Q1 rfl ?_; refine zl hS ?_; refine zm ?_; refine zi ?_; intro b1 o1 cs1 x1 hat1 hx1 he1; obtain ⟨vp1, vr1, vb1, rfl, hp1, hr1, hb1⟩ := QQ he1; (first | (refine zv hS ?_) | (refine zvk hS ?_)); refine Qc hS ?_; intro p7 w1 hS; refine zsn hS ?_; intro w1 hS; have hS := hS.ns; refine zn ?_; have e1 : x = x1 := Option.some.inj (hxf.symm.trans hx1); subst e1; refine Q0 ?_; refine Q2 ?_; refine Q1 rfl ?_; refine zl hS ?_; refine zm ?_; refine zi ?_; intro b2 o2 cs2 x2 hat2 hx2 he2; obtain ⟨vp2, vc2, ve21, ve22, ve23, ve24, ve25, rfl, hp2, hc2, he21, he22, he23, he24, he25⟩ := Q12 he2; (first | (refine zv hS ?_) | (refine zvk hS ?_)); refine Qc hS ?_; intro p8 w1 hS; refine zsn hS ?_; intro w1 hS; have hS := hS.ns; refine zn ?_; have e2 : y = x2 := Option.some.inj (hyb.symm.trans hx2); subst e2)
  all_goals (refine Q0 ?_; refine Q0 ?_; refine Q2 ?_; refine Q1 rfl ?_; refine zl hS ?_; refine Q1 rfl ?_; refine zl hS ?_)
  all_goals (first | (refine Q1z ?_) | (refine Q1A ?_) | (refine QK rfl rfl (fun hc => ?_) (fun hc => ?_)))
  all_goals (refine zm ?_; (first | refine s_gn rfl rfl ?_ | (refine s_gy rfl ?_; refine Q1 rfl ?_)); (first | refine s_gn rfl rfl ?_ | (refine s_gy rfl ?_; refine zl hS ?_)))
  all_goals (first | refine s_gn rfl rfl ?_ | (refine s_gy rfl ?_; (first | (refine Qz ?_) | (refine QF ?_) | (refine Qh rfl rfl (fun hc => ?_) (fun hc => ?_)))))
  all_goals ((first | (refine zpt ?_) | (refine zpf ?_)); refine zn ?_)
  all_goals
    first
    | (refine Q5 rfl ?_ -- QJ c0
       all_goals (refine Q0 ?_; refine Q2 ?_; refine zm ?_; refine zm ?_; refine zR2 (c := Q4H f b hf0 hb0 hS) (h := ?_); rintro v1 w1 ⟨rfl, hS⟩; refine zR2 (c := rF_c hS) (h := ?_); rintro v1 w1 ⟨rfl, hS⟩; refine zsn hS ?_; intro w1 hS; have hS := hS.ns; refine zn ?_; refine zr ?_; refine Q2c vw (Qe (n := 2) (by kernel_rfl) (by kernel_rfl) (hS.blkAt fd) (by rfl) (by rfl)) ?_)
       all_goals (refine ⟨_, rfl, ?_, hS.sp⟩; rw [Q1s (c := 1) (by unfold Qn; rw [if_pos (by omega)]) (by decide)]; rfl; done))
    | (refine Q4 rfl ?_ -- QJ c0
       all_goals refine zsk ?_)
  all_goals (refine Q0 ?_; refine Q0 ?_; refine Q2 ?_; refine Q1 rfl ?_; refine zl hS ?_; refine Q1 rfl ?_; refine zl hS ?_; refine zR2 (c := Qlj (by assumption) hS) (h := ?_); rintro v1 w1 ⟨rfl, hS⟩; refine zm ?_; refine zn ?_; refine Q0 ?_; refine Q2 ?_; refine zm ?_)
  all_goals (first | (refine Q1m ?_) | (refine Q1n ?_) | (refine Qs rfl rfl (fun hc => ?_) (fun hc => ?_)))
  all_goals (refine zn ?_)
  all_goals
    first
    | (refine Q5 rfl ?_ -- QJ c1
       all_goals (refine Q0 ?_; refine Q2 ?_; refine zm ?_; refine zm ?_; refine zm ?_; refine zR2 (c := Q4H f b hf0 hb0 hS) (h := ?_); rintro v1 w1 ⟨rfl, hS⟩; refine zR2 (c := rF_c hS) (h := ?_); rintro v1 w1 ⟨rfl, hS⟩; refine zsn hS ?_; intro w1 hS; have hS := hS.ns; refine zn ?_; refine zr ?_; refine Q2c vw (Qe (n := 2) (by kernel_rfl) (by kernel_rfl) (hS.blkAt fd) (by rfl) (by rfl)) ?_)
       all_goals (first | (refine ⟨_, rfl, ?_, hS.sp⟩; rw [Q1s (c := 1) (by unfold Qn; rw [if_pos (by omega)]) (by decide)]; rfl; done) | (refine ⟨_, rfl, ?_, hS.sp⟩; rw [Q1s (c := Qm y.params y.regs) (by unfold Qn; rw [if_neg (by omega), if_pos (by assumption)]) (by assumption)]; rfl; done)))
    | (refine Q4 rfl ?_ -- QJ c1
       all_goals refine zsk ?_)
  all_goals (refine Q0 ?_; refine Q0 ?_; refine Q2 ?_)
  refine zKL hS 17 [1, 2, 3, 6, 7, 8] (fun A LL ρ' w' => ∃ (q : Bool), Has ρ' A ∧ Has ρ' [(65, .bool q)] ∧ (q = true ↔ (b = 0 ∧ (y.regs ≠ x.regs ∨ y.params ≠ x.params))) ∧ St cx w' (LL)) ?_ ?_
  · skip
    all_goals (refine zm ?_)
    all_goals (first | (refine Qq ?_) | (refine Qr ?_) | (refine Qf rfl rfl (fun hc => ?_) (fun hc => ?_)))
    all_goals (refine zm ?_; (first | refine s_gn rfl rfl ?_ | (refine s_gy rfl ?_; refine Q1 rfl ?_)); (first | refine s_gn rfl rfl ?_ | (refine s_gy rfl ?_; refine zl hS ?_)); (first | refine s_gn rfl rfl ?_ | (refine s_gy rfl ?_; refine Q1 rfl ?_)); (first | refine s_gn rfl rfl ?_ | (refine s_gy rfl ?_; refine zl hS ?_)))
    all_goals (first | refine s_gn rfl rfl ?_ | (refine s_gy rfl ?_; (first | (refine Q1m ?_) | (refine Q1n ?_) | (refine Qs rfl rfl (fun hc => ?_) (fun hc => ?_)))))
    all_goals ((first | refine s_gn rfl rfl ?_ | (refine s_gy rfl ?_; refine zm ?_)); (first | refine s_gn rfl rfl ?_ | (refine s_gy rfl ?_; refine Q1 rfl ?_)); (first | refine s_gn rfl rfl ?_ | (refine s_gy rfl ?_; refine zl hS ?_)); (first | refine s_gn rfl rfl ?_ | (refine s_gy rfl ?_; refine Q1 rfl ?_)); (first | refine s_gn rfl rfl ?_ | (refine s_gy rfl ?_; refine zl hS ?_)))
    all_goals (first | refine s_gn rfl rfl ?_ | (refine s_gy rfl ?_; refine zR2 (c := Q4G hp2 hp1 hS) (h := ?_); rintro v1 w1 ⟨rfl, hS⟩; (cases hdec : decide (y.params = x.params)); have hg := of_decide_eq_false hdec; rotate_left; have hg := of_decide_eq_true hdec; all_goals skip))
    all_goals ((first | refine s_gn rfl rfl ?_ | (refine s_gy rfl ?_; refine Q1G rfl ?_)); (first | refine s_gn rfl rfl ?_ | (refine s_gy rfl ?_; (first | (refine zpt ?_) | (refine zpf ?_)))); (first | (refine zpt ?_) | (refine zpf ?_)); refine Q3M ?_; refine Q1X ?_)
    all_goals (first | (exact ⟨_, zh, zh, by exact ⟨fun _ => ⟨by omega, .inl (by assumption)⟩, fun _ => rfl⟩, hS.sp⟩) | (exact ⟨_, zh, zh, by exact ⟨fun _ => ⟨by omega, .inr (by assumption)⟩, fun _ => rfl⟩, hS.sp⟩) | (exact ⟨_, zh, zh, by exact ⟨fun h => Bool.noConfusion h, fun h => absurd h.1 (by omega)⟩, hS.sp⟩) | (exact ⟨_, zh, zh, by exact ⟨fun h => Bool.noConfusion h, fun h => h.2.elim (fun h => absurd h (by assumption)) (fun h => absurd (by assumption) h)⟩, hS.sp⟩))
  rintro ρ w1 ⟨q, hA, hρ, hq, hS⟩; obtain ⟨ρ, rfl⟩ := env2 hA hρ
  all_goals (refine zn ?_)
  all_goals (cases q)
  all_goals
    first
    | (refine Q5 rfl ?_ -- QJ c2
       all_goals (refine Q0 ?_; refine Q2 ?_; refine zm ?_; refine zm ?_; refine zR2 (c := Q4H f b hf0 hb0 hS) (h := ?_); rintro v1 w1 ⟨rfl, hS⟩; refine zR2 (c := rF_c hS) (h := ?_); rintro v1 w1 ⟨rfl, hS⟩; refine zsn hS ?_; intro w1 hS; have hS := hS.ns; refine zn ?_; refine zr ?_; refine Q2c vw (Qe (n := 2) (by kernel_rfl) (by kernel_rfl) (hS.blkAt fd) (by rfl) (by rfl)) ?_)
       all_goals (first | (refine ⟨_, rfl, ?_, hS.sp⟩; rw [Q1s (c := 1) (by unfold Qn; rw [if_pos (by omega)]) (by decide)]; rfl; done) | (refine ⟨_, rfl, ?_, hS.sp⟩; rw [Q1s (c := Qm y.params y.regs) (by unfold Qn; rw [if_neg (by omega), if_pos (by assumption)]) (by assumption)]; rfl; done) | (refine ⟨_, rfl, ?_, hS.sp⟩; rw [Q1s (c := 9) (by unfold Qn; rw [if_neg (by omega), if_neg (by omega), if_pos (hq.1 rfl)]) (by decide)]; rfl; done)))
    | (refine Q4 rfl ?_ -- QJ c2
       all_goals refine zsk ?_)
  refine zML hS [1, 2, 3, 6, 7, 8] (fun A LL ρ' w' => Has ρ' A ∧ Has ρ' [] ∧ (Qn x b y = 0) ∧ St cx w' (LL)) ?_ ?_
  · skip
    all_goals (refine Q0 ?_; refine Q2 ?_; refine Q1 rfl ?_; refine zl hS ?_; refine zL ?_)
    all_goals (first | (refine Qz ?_) | (refine QF ?_) | (refine Qh rfl rfl (fun hc => ?_) (fun hc => ?_)))
    all_goals (refine zn ?_)
    all_goals
      first
      | (refine Q5 rfl ?_ -- QJ c3
         all_goals (refine Q0 ?_; refine Q2 ?_; refine zm ?_; refine zm ?_; refine zR2 (c := Q4H f b hf0 hb0 hS) (h := ?_); rintro v1 w1 ⟨rfl, hS⟩; refine zR2 (c := rF_c hS) (h := ?_); rintro v1 w1 ⟨rfl, hS⟩; refine zsn hS ?_; intro w1 hS; have hS := hS.ns; refine zn ?_; refine zr ?_; refine Q2c vw (Qe (n := 2) (by kernel_rfl) (by kernel_rfl) (hS.blkAt fd) (by rfl) (by rfl)) ?_)
         all_goals (first | (refine ⟨_, rfl, ?_, hS.sp⟩; rw [Q1s (c := 1) (by unfold Qn; rw [if_pos (by omega)]) (by decide)]; rfl; done) | (refine ⟨_, rfl, ?_, hS.sp⟩; rw [Q1s (c := Qm y.params y.regs) (by unfold Qn; rw [if_neg (by omega), if_pos (by assumption)]) (by assumption)]; rfl; done) | (refine ⟨_, rfl, ?_, hS.sp⟩; rw [Q1s (c := 9) (by unfold Qn; rw [if_neg (by omega), if_neg (by omega), if_pos (hq.1 rfl)]) (by decide)]; rfl; done) | (refine ⟨_, rfl, ?_, hS.sp⟩; rw [Q1s (c := 2) (by unfold Qn; rw [if_neg (by omega), if_neg (by omega), if_neg (fun h => Bool.noConfusion (hq.2 h)), if_pos (by omega)]) (by decide)]; rfl; done)))
      | (refine Q4 rfl ?_ -- QJ c3
         all_goals refine zsk ?_)
    all_goals (exact ⟨zh, zh, by unfold Qn; rw [if_neg (by omega), if_neg (by omega), if_neg (fun h => Bool.noConfusion (hq.2 h)), if_neg (by omega)], hS.sp⟩)
  rintro ρ w1 ⟨hA, hρ, hh, hS⟩; obtain ⟨ρ, rfl⟩ := env2 hA hρ
  all_goals (refine Q0 ?_; refine Q0 ?_; refine Q2 ?_; refine zm ?_; refine zn ?_; refine Q8 ?_)
  refine zoL hS [1, 2, 3, 6, 7, 8] (fun A LL ρ' w' => ∃ (j : Nat), Has ρ' A ∧ Has ρ' [(10, .int .i64 j)] ∧ (j ≤ y.code.length) ∧ (QM m.funcs.length f b 0 y.code = QM m.funcs.length f b j (y.code.drop j)) ∧ St cx w' (LL)) (fun ρ' _ => (y.code.length - iv (ρ' 10)).toNat) ?_ ?_
  · exact ⟨0, zh, zh, (by omega), by simp, hS.sp⟩
  rintro ρ w1 ⟨j, hA, hρ, hj, hd, hS⟩; obtain ⟨ρ, rfl⟩ := env2 hA hρ
  unfold Q3X
  all_goals (refine Q0 ?_; refine Q0 ?_; refine Q2 ?_; refine zm ?_; refine Q1 rfl ?_; refine zl hS ?_; refine zL ?_; refine Qp rfl rfl ?_; refine zn ?_)
  refine Ql rfl (fun hc => ?_) (fun hc => ?_)
  · skip
    all_goals (refine zsk ?_; refine Q0 ?_; refine Q8 ?_; refine Q0 ?_; refine zD [(0, none), (1, none), (2, none), (3, none), (4, none), (5, none), (6, some none), (7, some none)] ?_; have hS := hS.drew; refine zv hS ?_; refine Q1 rfl ?_; refine zl hS ?_; refine zm ?_; refine zi ?_; intro b3 o3 cs3 x3 hat3 hx3 he3; obtain ⟨vr3, va3, rfl, hr3, ha3⟩ := Q1u he3; (first | (refine zv hS ?_) | (refine zvk hS ?_)); refine zR2 (c := rins_c hm' (by assumption) hS) (h := ?_); rintro v1 w1 ⟨rfl, hS⟩; refine zm ?_; refine zn ?_; refine Q0 ?_; refine Q2 ?_; refine zm ?_)
    all_goals (first | (refine Q1m ?_) | (refine Q1n ?_) | (refine Qs rfl rfl (fun hc => ?_) (fun hc => ?_)))
    all_goals (refine zn ?_)
    all_goals
      first
      | (refine Q5 rfl ?_ -- QJ c5
         all_goals (refine Q0 ?_; refine Q2 ?_; refine zm ?_; refine zm ?_; refine zm ?_; refine zm ?_; refine zR3 (c := rInsAt_c f b j hf0 hb0 (by omega) hS) (h := ?_); rintro v1 w1 ⟨rfl, hS⟩; refine zR2 (c := rF_c hS) (h := ?_); rintro v1 w1 ⟨rfl, hS⟩; refine zsn hS ?_; intro w1 hS; have hS := hS.ns; refine zn ?_; refine zr ?_; refine Q2c vw (Qe (n := 2) (by kernel_rfl) (by kernel_rfl) (hS.blkAt fd) (by rfl) (by rfl)) ?_)
         all_goals (first | (refine ⟨_, rfl, ?_, hS.sp⟩; rw [Q1s (c := 1) (by unfold Qn; rw [if_pos (by omega)]) (by decide)]; rfl; done) | (refine ⟨_, rfl, ?_, hS.sp⟩; rw [Q1s (c := Qm y.params y.regs) (by unfold Qn; rw [if_neg (by omega), if_pos (by assumption)]) (by assumption)]; rfl; done) | (refine ⟨_, rfl, ?_, hS.sp⟩; rw [Q1s (c := 9) (by unfold Qn; rw [if_neg (by omega), if_neg (by omega), if_pos (hq.1 rfl)]) (by decide)]; rfl; done) | (refine ⟨_, rfl, ?_, hS.sp⟩; rw [Q1s (c := 2) (by unfold Qn; rw [if_neg (by omega), if_neg (by omega), if_neg (fun h => Bool.noConfusion (hq.2 h)), if_pos (by omega)]) (by decide)]; rfl; done) | (refine ⟨_, rfl, ?_, hS.sp⟩; rw [QlL (F := (Q1I m.funcs.length x3, QaH f b j)) hh (by rw [hd, Q7 hx3, Q3B (by assumption)]) (by assumption)]; rfl; done)))
      | (refine Q4 rfl ?_ -- QJ c5
         all_goals refine zsk ?_)
    all_goals (refine Q2 ?_; refine zm ?_; refine zad ?_; refine zm ?_; refine zn ?_; exact ⟨⟨j + 1, zh, zh, (by omega), by rw [hd, Q7 hx3, Qdw (by omega)], hS.sp⟩, Qk (by omega)⟩)
  · skip
    all_goals (refine zex ?_; refine Q0 ?_; refine Q0 ?_; refine Q2 ?_; refine zv hS ?_; refine Q1 rfl ?_; refine zv hS ?_; refine zR2 (c := rend_c (e := y.fin) he1 ⟨_, _, _, _, _, rfl, he21, he22, he23, he24, he25⟩ hS) (h := ?_); rintro v1 w1 ⟨rfl, hS⟩; refine zm ?_; refine zn ?_; refine Q0 ?_; refine Q2 ?_; refine zm ?_)
    all_goals (first | (refine Q1m ?_) | (refine Q1n ?_) | (refine Qs rfl rfl (fun hc => ?_) (fun hc => ?_)))
    all_goals (refine zn ?_)
    all_goals
      first
      | (refine Q5 rfl ?_ -- QJ c6
         all_goals (refine Q0 ?_; refine Q2 ?_; refine zm ?_; refine zm ?_; refine zm ?_; refine zR2 (c := rEndAt_c f b hf0 hb0 hS) (h := ?_); rintro v1 w1 ⟨rfl, hS⟩; refine zR2 (c := rF_c hS) (h := ?_); rintro v1 w1 ⟨rfl, hS⟩; refine zsn hS ?_; intro w1 hS; have hS := hS.ns; refine zn ?_; refine zr ?_; refine Q2c vw (Qe (n := 2) (by kernel_rfl) (by kernel_rfl) (hS.blkAt fd) (by rfl) (by rfl)) ?_)
         all_goals (first | (refine ⟨_, rfl, ?_, hS.sp⟩; rw [Q1s (c := 1) (by unfold Qn; rw [if_pos (by omega)]) (by decide)]; rfl; done) | (refine ⟨_, rfl, ?_, hS.sp⟩; rw [Q1s (c := Qm y.params y.regs) (by unfold Qn; rw [if_neg (by omega), if_pos (by assumption)]) (by assumption)]; rfl; done) | (refine ⟨_, rfl, ?_, hS.sp⟩; rw [Q1s (c := 9) (by unfold Qn; rw [if_neg (by omega), if_neg (by omega), if_pos (hq.1 rfl)]) (by decide)]; rfl; done) | (refine ⟨_, rfl, ?_, hS.sp⟩; rw [Q1s (c := 2) (by unfold Qn; rw [if_neg (by omega), if_neg (by omega), if_neg (fun h => Bool.noConfusion (hq.2 h)), if_pos (by omega)]) (by decide)]; rfl; done) | (refine ⟨_, rfl, ?_, hS.sp⟩; rw [QlL (F := (Q1I m.funcs.length x3, QaH f b j)) hh (by rw [hd, Q7 hx3, Q3B (by assumption)]) (by assumption)]; rfl; done) | (refine ⟨_, rfl, ?_, hS.sp⟩; (rw [bf_end hh (by rw [hd, List.drop_of_length_le (by omega), QM])]; first | (rw [Q6k (by assumption)]; rfl) | (rw [show Q2k x.blocks.length y.fin = 0 by omega, Q1R]; rfl)); done)))
      | (refine Q4 rfl ?_ -- QJ c6
         all_goals refine zsk ?_)
    all_goals (refine Q0 ?_; refine Q2 ?_; refine zb0 [_, _] ?_; refine zsn hS ?_; intro w1 hS; have hS := hS.ns; refine zn ?_; refine zr ?_; refine Q2c vw (Qe (n := 2) (by kernel_rfl) (by kernel_rfl) (hS.blkAt fd) (by rfl) (by rfl)) ?_)
    all_goals (first | (refine ⟨_, rfl, ?_, hS.sp⟩; rw [Q1s (c := 1) (by unfold Qn; rw [if_pos (by omega)]) (by decide)]; rfl; done) | (refine ⟨_, rfl, ?_, hS.sp⟩; rw [Q1s (c := Qm y.params y.regs) (by unfold Qn; rw [if_neg (by omega), if_pos (by assumption)]) (by assumption)]; rfl; done) | (refine ⟨_, rfl, ?_, hS.sp⟩; rw [Q1s (c := 9) (by unfold Qn; rw [if_neg (by omega), if_neg (by omega), if_pos (hq.1 rfl)]) (by decide)]; rfl; done) | (refine ⟨_, rfl, ?_, hS.sp⟩; rw [Q1s (c := 2) (by unfold Qn; rw [if_neg (by omega), if_neg (by omega), if_neg (fun h => Bool.noConfusion (hq.2 h)), if_pos (by omega)]) (by decide)]; rfl; done) | (refine ⟨_, rfl, ?_, hS.sp⟩; rw [QlL (F := (Q1I m.funcs.length x3, QaH f b j)) hh (by rw [hd, Q7 hx3, Q3B (by assumption)]) (by assumption)]; rfl; done) | (refine ⟨_, rfl, ?_, hS.sp⟩; (rw [bf_end hh (by rw [hd, List.drop_of_length_le (by omega), QM])]; first | (rw [Q6k (by assumption)]; rfl) | (rw [show Q2k x.blocks.length y.fin = 0 by omega, Q1R]; rfl)); done))
theorem rcheck_c {m : Module} (hsh : m.Short) {cs : List Value} (hm : modR.at cx cs m) (hS : St cx w L) :
    Rets Tryz.prog QE [.agg ⟨cs⟩] w fun u w' => u = fltV m.fault ∧ St cx w' L := by
  have hm' := hm
  obtain ⟨vf, rfl, hf⟩ := Q1B hm
  have hlf := hf.len
  have hsf := hsh.2
  unfold Module.fault
  all_goals refine Qfc ?_
  all_goals (unfold R_CodeFault_lc; refine Q0 ?_; refine Q2 ?_; refine zb hS ?_; intro p1 w1 hS; refine Qc hS ?_; intro p2 w1 hS; refine zn ?_)
  refine zML hS [1, 2] (fun A LL ρ' w' => Has ρ' A ∧ Has ρ' [] ∧ (1 ≤ m.funcs.length ∧ m.funcs.length ≤ 8) ∧ St cx w' (LL)) ?_ ?_
  · skip
    all_goals (refine Q0 ?_; refine Q2 ?_; refine Q1 rfl ?_; refine zl hS ?_; refine zL ?_)
    all_goals (first | (refine Q1z ?_) | (refine Q1A ?_) | (refine QK rfl rfl (fun hc => ?_) (fun hc => ?_)))
    all_goals (refine zm ?_; (first | refine s_gn rfl rfl ?_ | (refine s_gy rfl ?_; refine Q1 rfl ?_)); (first | refine s_gn rfl rfl ?_ | (refine s_gy rfl ?_; refine zl hS ?_)); (first | refine s_gn rfl rfl ?_ | (refine s_gy rfl ?_; refine zL ?_)))
    all_goals (first | refine s_gn rfl rfl ?_ | (refine s_gy rfl ?_; (first | (refine Qz ?_) | (refine QF ?_) | (refine Qh rfl rfl (fun hc => ?_) (fun hc => ?_)))))
    all_goals ((first | (refine zpt ?_) | (refine zpf ?_)); refine zn ?_)
    all_goals
      first
      | (refine Q5 rfl ?_ -- QE c0
         all_goals (refine Q0 ?_; refine Q2 ?_; refine zR2 (c := rF_c hS) (h := ?_); rintro v1 w1 ⟨rfl, hS⟩; refine zsn hS ?_; intro w1 hS; have hS := hS.ns; refine zn ?_; refine zr ?_; refine Q2c vw (Qe (n := 2) (by kernel_rfl) (by kernel_rfl) (hS.blkAt fd) (by rfl) (by rfl)) ?_)
         all_goals (refine ⟨_, rfl, ?_, hS.sp⟩; rw [if_pos (by omega), Q3F (by rw [Q1C]; decide), Q6k (by decide)]; rfl; done))
      | (refine Q4 rfl ?_ -- QE c0
         all_goals refine zsk ?_)
    all_goals (exact ⟨zh, zh, by omega, hS.sp⟩)
  rintro ρ w1 ⟨hA, hρ, hl8, hS⟩; obtain ⟨ρ, rfl⟩ := env2 hA hρ
  all_goals (refine Q0 ?_; refine Q0 ?_; refine Q2 ?_; refine zm ?_; refine zn ?_; refine Q8 ?_)
  refine zoL hS [1, 2] (fun A LL ρ' w' => ∃ (f : Nat), Has ρ' A ∧ Has ρ' [(3, .int .i64 f)] ∧ (f ≤ m.funcs.length) ∧ (QZ m.funcs.length 0 m.funcs = QZ m.funcs.length f (m.funcs.drop f)) ∧ St cx w' (LL)) (fun ρ' _ => (m.funcs.length - iv (ρ' 3)).toNat) ?_ ?_
  · exact ⟨0, zh, zh, (by omega), by simp, hS.sp⟩
  rintro ρ w1 ⟨f, hA, hρ, hj, hd, hS⟩; obtain ⟨ρ, rfl⟩ := env2 hA hρ
  unfold Q5c
  all_goals (refine Q0 ?_; refine Q0 ?_; refine Q2 ?_; refine zm ?_; refine Q1 rfl ?_; refine zl hS ?_; refine zL ?_; refine Qp rfl rfl ?_; refine zn ?_)
  refine Ql rfl (fun hc => ?_) (fun hc => ?_)
  · skip
    all_goals (refine zsk ?_; refine Q0 ?_; refine Q8 ?_; refine Q0 ?_; refine Q2 ?_; refine Q1 rfl ?_; refine zl hS ?_; refine zm ?_; refine zi ?_; intro b1 o1 cs1 x1 hat1 hx1 he1; obtain ⟨vp1, vr1, vb1, rfl, hp1, hr1, hb1⟩ := QQ he1; (first | (refine zv hS ?_) | (refine zvk hS ?_)); refine Qc hS ?_; intro p4 w1 hS; refine zsn hS ?_; intro w1 hS; have hS := hS.ns; refine zn ?_; have hsx := hsf x1 (List.mem_of_getElem? hx1); have hlb := hb1.len; have hlr := hr1.len; refine Q0 ?_; refine Q0 ?_; refine Q2 ?_; refine Q1 rfl ?_; refine zl hS ?_)
    all_goals (first | (refine Q1z ?_) | (refine Q1A ?_) | (refine QK rfl rfl (fun hc => ?_) (fun hc => ?_)))
    all_goals (refine zm ?_; (first | refine s_gn rfl rfl ?_ | (refine s_gy rfl ?_; refine Q1 rfl ?_)); (first | refine s_gn rfl rfl ?_ | (refine s_gy rfl ?_; refine zl hS ?_)))
    all_goals (first | refine s_gn rfl rfl ?_ | (refine s_gy rfl ?_; (first | (refine Qz ?_) | (refine QF ?_) | (refine Qh rfl rfl (fun hc => ?_) (fun hc => ?_)))))
    all_goals ((first | (refine zpt ?_) | (refine zpf ?_)); refine zn ?_)
    all_goals
      first
      | (refine Q5 rfl ?_ -- QE c2
         all_goals (refine Q0 ?_; refine Q2 ?_; refine zm ?_; refine zR1 (c := Q4e f (by omega) hS) (h := ?_); rintro v1 w1 ⟨rfl, hS⟩; refine zR2 (c := rF_c hS) (h := ?_); rintro v1 w1 ⟨rfl, hS⟩; refine zsn hS ?_; intro w1 hS; have hS := hS.ns; refine zn ?_; refine zr ?_; refine Q2c vw (Qe (n := 2) (by kernel_rfl) (by kernel_rfl) (hS.blkAt fd) (by rfl) (by rfl)) ?_)
         all_goals (first | (refine ⟨_, rfl, ?_, hS.sp⟩; rw [if_pos (by omega), Q3F (by rw [Q1C]; decide), Q6k (by decide)]; rfl; done) | (refine ⟨_, rfl, ?_, hS.sp⟩; rw [if_neg (by omega), Q1R, Q1Q Qj, hd, Q7 hx1]; rw [Qd (by rw [QL (c := 1) (by unfold Qt; rw [if_pos (by omega)]) (by decide)]; simp), QL (c := 1) (by unfold Qt; rw [if_pos (by omega)]) (by decide)]; rfl; done)))
      | (refine Q4 rfl ?_ -- QE c2
         all_goals refine zsk ?_)
    all_goals (refine Q0 ?_; refine Q0 ?_; refine Q2 ?_; refine Q1 rfl ?_; refine zl hS ?_; refine Q1 rfl ?_; refine zl hS ?_; refine zR2 (c := Qlj hp1 hS) (h := ?_); rintro v1 w1 ⟨rfl, hS⟩; refine zm ?_; refine zn ?_; refine Q0 ?_; refine Q2 ?_; refine zm ?_)
    all_goals (first | (refine Q1m ?_) | (refine Q1n ?_) | (refine Qs rfl rfl (fun hc => ?_) (fun hc => ?_)))
    all_goals (refine zn ?_)
    all_goals
      first
      | (refine Q5 rfl ?_ -- QE c3
         all_goals (refine Q0 ?_; refine Q2 ?_; refine zm ?_; refine zm ?_; refine zR1 (c := Q4e f (by omega) hS) (h := ?_); rintro v1 w1 ⟨rfl, hS⟩; refine zR2 (c := rF_c hS) (h := ?_); rintro v1 w1 ⟨rfl, hS⟩; refine zsn hS ?_; intro w1 hS; have hS := hS.ns; refine zn ?_; refine zr ?_; refine Q2c vw (Qe (n := 2) (by kernel_rfl) (by kernel_rfl) (hS.blkAt fd) (by rfl) (by rfl)) ?_)
         all_goals (first | (refine ⟨_, rfl, ?_, hS.sp⟩; rw [if_pos (by omega), Q3F (by rw [Q1C]; decide), Q6k (by decide)]; rfl; done) | (refine ⟨_, rfl, ?_, hS.sp⟩; rw [if_neg (by omega), Q1R, Q1Q Qj, hd, Q7 hx1]; rw [Qd (by rw [QL (c := 1) (by unfold Qt; rw [if_pos (by omega)]) (by decide)]; simp), QL (c := 1) (by unfold Qt; rw [if_pos (by omega)]) (by decide)]; rfl; done) | (refine ⟨_, rfl, ?_, hS.sp⟩; have e := QL (n := m.funcs.length) (f := f) (x := x1) (c := Qm x1.params x1.regs) (by unfold Qt; rw [if_neg (by omega), if_pos (by assumption)]) (by assumption); rw [if_neg (by omega), Q1R, Q1Q Qj, hd, Q7 hx1, Qd (by rw [e]; assumption), e]; rfl; done)))
      | (refine Q4 rfl ?_ -- QE c3
         all_goals refine zsk ?_)
    all_goals (refine Q0 ?_; refine Q0 ?_; refine Q2 ?_; refine Q1 rfl ?_; refine zl hS ?_; refine Q1 rfl ?_; refine zl hS ?_; refine zR2 (c := Qlj hr1 hS) (h := ?_); rintro v1 w1 ⟨rfl, hS⟩; refine zm ?_; refine zn ?_; refine Q0 ?_; refine Q2 ?_; refine zm ?_)
    all_goals (first | (refine Q1m ?_) | (refine Q1n ?_) | (refine Qs rfl rfl (fun hc => ?_) (fun hc => ?_)))
    all_goals (refine zn ?_)
    all_goals
      first
      | (refine Q5 rfl ?_ -- QE c4
         all_goals (refine Q0 ?_; refine Q2 ?_; refine zm ?_; refine zm ?_; refine zR1 (c := Q4e f (by omega) hS) (h := ?_); rintro v1 w1 ⟨rfl, hS⟩; refine zR2 (c := rF_c hS) (h := ?_); rintro v1 w1 ⟨rfl, hS⟩; refine zsn hS ?_; intro w1 hS; have hS := hS.ns; refine zn ?_; refine zr ?_; refine Q2c vw (Qe (n := 2) (by kernel_rfl) (by kernel_rfl) (hS.blkAt fd) (by rfl) (by rfl)) ?_)
         all_goals (first | (refine ⟨_, rfl, ?_, hS.sp⟩; rw [if_pos (by omega), Q3F (by rw [Q1C]; decide), Q6k (by decide)]; rfl; done) | (refine ⟨_, rfl, ?_, hS.sp⟩; rw [if_neg (by omega), Q1R, Q1Q Qj, hd, Q7 hx1]; rw [Qd (by rw [QL (c := 1) (by unfold Qt; rw [if_pos (by omega)]) (by decide)]; simp), QL (c := 1) (by unfold Qt; rw [if_pos (by omega)]) (by decide)]; rfl; done) | (refine ⟨_, rfl, ?_, hS.sp⟩; have e := QL (n := m.funcs.length) (f := f) (x := x1) (c := Qm x1.params x1.regs) (by unfold Qt; rw [if_neg (by omega), if_pos (by assumption)]) (by assumption); rw [if_neg (by omega), Q1R, Q1Q Qj, hd, Q7 hx1, Qd (by rw [e]; assumption), e]; rfl; done) | (refine ⟨_, rfl, ?_, hS.sp⟩; have e := QL (n := m.funcs.length) (f := f) (x := x1) (c := Qm x1.results x1.regs) (by unfold Qt; rw [if_neg (by omega), if_neg (by assumption), if_pos (by assumption)]) (by assumption); rw [if_neg (by omega), Q1R, Q1Q Qj, hd, Q7 hx1, Qd (by rw [e]; assumption), e]; rfl; done)))
      | (refine Q4 rfl ?_ -- QE c4
         all_goals refine zsk ?_)
    refine zML hS [1, 2, 3, 4] (fun A LL ρ' w' => Has ρ' A ∧ Has ρ' [] ∧ (¬ (x1.regs < 0 ∨ 6 < x1.regs)) ∧ (¬ Qm x1.params x1.regs ≠ 0) ∧ (¬ Qm x1.results x1.regs ≠ 0) ∧ (¬ (x1.blocks.length < 1 ∨ 12 < x1.blocks.length)) ∧ St cx w' (LL)) ?_ ?_
    · skip
      all_goals (refine Q0 ?_; refine Q2 ?_; refine Q1 rfl ?_; refine zl hS ?_; refine zL ?_)
      all_goals (first | (refine Q1z ?_) | (refine Q1A ?_) | (refine QK rfl rfl (fun hc => ?_) (fun hc => ?_)))
      all_goals (refine zm ?_; (first | refine s_gn rfl rfl ?_ | (refine s_gy rfl ?_; refine Q1 rfl ?_)); (first | refine s_gn rfl rfl ?_ | (refine s_gy rfl ?_; refine zl hS ?_)); (first | refine s_gn rfl rfl ?_ | (refine s_gy rfl ?_; refine zL ?_)))
      all_goals (first | refine s_gn rfl rfl ?_ | (refine s_gy rfl ?_; (first | (refine Qz ?_) | (refine QF ?_) | (refine Qh rfl rfl (fun hc => ?_) (fun hc => ?_)))))
      all_goals ((first | (refine zpt ?_) | (refine zpf ?_)); refine zn ?_)
      all_goals
        first
        | (refine Q5 rfl ?_ -- QE c5
           all_goals (refine Q0 ?_; refine Q2 ?_; refine zm ?_; refine zR1 (c := Q4e f (by omega) hS) (h := ?_); rintro v1 w1 ⟨rfl, hS⟩; refine zR2 (c := rF_c hS) (h := ?_); rintro v1 w1 ⟨rfl, hS⟩; refine zsn hS ?_; intro w1 hS; have hS := hS.ns; refine zn ?_; refine zr ?_; refine Q2c vw (Qe (n := 2) (by kernel_rfl) (by kernel_rfl) (hS.blkAt fd) (by rfl) (by rfl)) ?_)
           all_goals (first | (refine ⟨_, rfl, ?_, hS.sp⟩; rw [if_pos (by omega), Q3F (by rw [Q1C]; decide), Q6k (by decide)]; rfl; done) | (refine ⟨_, rfl, ?_, hS.sp⟩; rw [if_neg (by omega), Q1R, Q1Q Qj, hd, Q7 hx1]; rw [Qd (by rw [QL (c := 1) (by unfold Qt; rw [if_pos (by omega)]) (by decide)]; simp), QL (c := 1) (by unfold Qt; rw [if_pos (by omega)]) (by decide)]; rfl; done) | (refine ⟨_, rfl, ?_, hS.sp⟩; have e := QL (n := m.funcs.length) (f := f) (x := x1) (c := Qm x1.params x1.regs) (by unfold Qt; rw [if_neg (by omega), if_pos (by assumption)]) (by assumption); rw [if_neg (by omega), Q1R, Q1Q Qj, hd, Q7 hx1, Qd (by rw [e]; assumption), e]; rfl; done) | (refine ⟨_, rfl, ?_, hS.sp⟩; have e := QL (n := m.funcs.length) (f := f) (x := x1) (c := Qm x1.results x1.regs) (by unfold Qt; rw [if_neg (by omega), if_neg (by assumption), if_pos (by assumption)]) (by assumption); rw [if_neg (by omega), Q1R, Q1Q Qj, hd, Q7 hx1, Qd (by rw [e]; assumption), e]; rfl; done) | (refine ⟨_, rfl, ?_, hS.sp⟩; have e := QL (n := m.funcs.length) (f := f) (x := x1) (c := 2) (by unfold Qt; rw [if_neg (by omega), if_neg (by assumption), if_neg (by assumption), if_pos (by omega)]) (by decide); rw [if_neg (by omega), Q1R, Q1Q Qj, hd, Q7 hx1, Qd (by rw [e]; simp), e]; rfl; done)))
        | (refine Q4 rfl ?_ -- QE c5
           all_goals refine zsk ?_)
      all_goals (exact ⟨zh, zh, by omega, by assumption, by assumption, by omega, hS.sp⟩)
    rintro ρ w1 ⟨hA, hρ, k1, k2, k3, k4, hS⟩; obtain ⟨ρ, rfl⟩ := env2 hA hρ
    refine zML hS [1, 2, 3, 4] (fun A LL ρ' w' => Has ρ' A ∧ Has ρ' [] ∧ (Qt f x1 = 0) ∧ St cx w' (LL)) ?_ ?_
    · skip
      all_goals (refine Q0 ?_; refine Q2 ?_; refine zm ?_)
      all_goals (first | (refine Qq ?_) | (refine Qr ?_) | (refine Qf rfl rfl (fun hc => ?_) (fun hc => ?_)))
      all_goals (refine zn ?_)
      all_goals
        first
        | (refine Q5 rfl ?_ -- QE c6
           all_goals (refine Q0 ?_; refine Q2 ?_)
           refine zKL hS 9 [1, 2, 3, 4] (fun A LL ρ' w' => ∃ (q : Bool), Has ρ' A ∧ Has ρ' [(90, .bool q)] ∧ (q = true ↔ (x1.regs = 0 ∧ x1.params.length = 0)) ∧ St cx w' (LL)) ?_ ?_
           · skip
             all_goals (refine Q1 rfl ?_; refine zl hS ?_)
             all_goals (first | (refine Qq ?_) | (refine Qr ?_) | (refine Qf rfl rfl (fun hc => ?_) (fun hc => ?_)))
             all_goals (refine zm ?_; (first | refine s_gn rfl rfl ?_ | (refine s_gy rfl ?_; refine Q1 rfl ?_)); (first | refine s_gn rfl rfl ?_ | (refine s_gy rfl ?_; refine zl hS ?_)); (first | refine s_gn rfl rfl ?_ | (refine s_gy rfl ?_; refine zL ?_)))
             all_goals (first | refine s_gn rfl rfl ?_ | (refine s_gy rfl ?_; (first | (refine Qq ?_) | (refine Qr ?_) | (refine Qf rfl rfl (fun hc => ?_) (fun hc => ?_)))))
             all_goals ((first | (refine zpt ?_) | (refine zpf ?_)); refine Q3M ?_; refine Q1X ?_)
             all_goals (first | (exact ⟨_, zh, zh, by exact ⟨fun _ => ⟨by omega, by omega⟩, fun _ => rfl⟩, hS.sp⟩) | (exact ⟨_, zh, zh, by exact ⟨fun h => Bool.noConfusion h, fun h => by omega⟩, hS.sp⟩))
           rintro ρ w1 ⟨q, hA, hρ, hq, hS⟩; obtain ⟨ρ, rfl⟩ := env2 hA hρ
           all_goals (refine zm ?_; refine zn ?_; refine Q0 ?_; refine Q0 ?_; refine Q2 ?_; refine zm ?_; refine zn ?_; refine Q8 ?_)
           refine zoL hS [1, 2, 3, 4] (fun A LL ρ' w' => ∃ (i : Nat) (q : Bool), Has ρ' A ∧ Has ρ' [(7, .bool q), (8, .int .i64 i)] ∧ (i ≤ x1.results.length) ∧ (q = true ↔ (x1.regs = 0 ∧ x1.params.length = 0 ∧ ∀ t ∈ x1.results.take i, t.kind = 1)) ∧ (f = 0) ∧ St cx w' (LL)) (fun ρ' _ => (x1.results.length - iv (ρ' 8)).toNat) ?_ ?_
           · exact ⟨0, q, zh, zh, (by omega), by rw [hq]; simp, by omega, hS.sp⟩
           rintro ρ w1 ⟨i, q, hA, hρ, hi, hq2, hf0, hS⟩; obtain ⟨ρ, rfl⟩ := env2 hA hρ
           unfold Q4B
           all_goals (refine Q0 ?_; refine Q0 ?_; refine Q2 ?_; refine zm ?_; refine Q1 rfl ?_; refine zl hS ?_; refine zL ?_; refine Qp rfl rfl ?_; refine zn ?_)
           refine Ql rfl (fun hc => ?_) (fun hc => ?_)
           · skip
             all_goals (refine zsk ?_; refine Q0 ?_; refine Q8 ?_)
             all_goals (cases q)
             all_goals (refine Q2 ?_; refine zm ?_; refine zm ?_; (first | refine s_gn rfl rfl ?_ | (refine s_gy rfl ?_; refine Q1 rfl ?_)); (first | refine s_gn rfl rfl ?_ | (refine s_gy rfl ?_; refine zl hS ?_)); (first | refine s_gn rfl rfl ?_ | (refine s_gy rfl ?_; refine zm ?_)); (first | refine s_gn rfl rfl ?_ | (refine s_gy rfl ?_; refine zi ?_; intro b2 o2 cs2 x2 hat2 hx2 he2; obtain ⟨vl2, rfl, hl2⟩ := QG he2)); (first | refine s_gn rfl rfl ?_ | (refine s_gy rfl ?_; (first | refine Q1 rfl ?_ | refine QS rfl ?_))); (first | refine s_gn rfl rfl ?_ | (refine s_gy rfl ?_; (first | (refine zl hS ?_) | (refine zlk hS ?_)))))
             all_goals (first | refine s_gn rfl rfl ?_ | (refine s_gy rfl ?_; (first | (refine Qq ?_) | (refine Qr ?_) | (refine Qf rfl rfl (fun hc => ?_) (fun hc => ?_)))))
             all_goals ((first | (refine zpt ?_) | (refine zpf ?_)); refine zm ?_; refine zn ?_; refine Q2 ?_; refine zm ?_; refine zad ?_; refine zm ?_; refine zn ?_)
             all_goals (first | (exact ⟨⟨i + 1, false, zh, zh, (by omega), by exact ⟨fun h => Bool.noConfusion h, fun h => hq2.2 ⟨h.1, h.2.1, fun t ht => h.2.2 t (List.mem_of_mem_take (i := i) (by rw [List.take_take, Nat.min_eq_left (by omega)]; exact ht))⟩⟩, hf0, hS.sp⟩, Qk (by omega)⟩) | (exact ⟨⟨i + 1, true, zh, zh, (by omega), by exact ⟨fun _ => ⟨(hq2.1 rfl).1, (hq2.1 rfl).2.1, Q6R (hq2.1 rfl).2.2 hx2 (by assumption)⟩, fun _ => rfl⟩, hf0, hS.sp⟩, Qk (by omega)⟩) | (exact ⟨⟨i + 1, false, zh, zh, (by omega), by exact ⟨fun h => Bool.noConfusion h, fun h => absurd (h.2.2 x2 (by rw [Q1T hx2]; simp)) (by assumption)⟩, hf0, hS.sp⟩, Qk (by omega)⟩))
           · skip
             all_goals (refine zex ?_; refine Q0 ?_)
             all_goals (cases q)
             all_goals (refine Q2 ?_; refine zm ?_; refine Q1G rfl ?_; refine zn ?_)
             all_goals
               first
               | (refine Q5 rfl ?_ -- QE c8
                  all_goals (refine Q0 ?_; refine Q2 ?_; refine zm ?_; refine zR1 (c := Q4e f (by omega) hS) (h := ?_); rintro v1 w1 ⟨rfl, hS⟩; refine zR2 (c := rF_c hS) (h := ?_); rintro v1 w1 ⟨rfl, hS⟩; refine zsn hS ?_; intro w1 hS; have hS := hS.ns; refine zn ?_; refine zr ?_; refine Q2c vw (Qe (n := 2) (by kernel_rfl) (by kernel_rfl) (hS.blkAt fd) (by rfl) (by rfl)) ?_)
                  all_goals (first | (refine ⟨_, rfl, ?_, hS.sp⟩; rw [if_pos (by omega), Q3F (by rw [Q1C]; decide), Q6k (by decide)]; rfl; done) | (refine ⟨_, rfl, ?_, hS.sp⟩; rw [if_neg (by omega), Q1R, Q1Q Qj, hd, Q7 hx1]; rw [Qd (by rw [QL (c := 1) (by unfold Qt; rw [if_pos (by omega)]) (by decide)]; simp), QL (c := 1) (by unfold Qt; rw [if_pos (by omega)]) (by decide)]; rfl; done) | (refine ⟨_, rfl, ?_, hS.sp⟩; have e := QL (n := m.funcs.length) (f := f) (x := x1) (c := Qm x1.params x1.regs) (by unfold Qt; rw [if_neg (by omega), if_pos (by assumption)]) (by assumption); rw [if_neg (by omega), Q1R, Q1Q Qj, hd, Q7 hx1, Qd (by rw [e]; assumption), e]; rfl; done) | (refine ⟨_, rfl, ?_, hS.sp⟩; have e := QL (n := m.funcs.length) (f := f) (x := x1) (c := Qm x1.results x1.regs) (by unfold Qt; rw [if_neg (by omega), if_neg (by assumption), if_pos (by assumption)]) (by assumption); rw [if_neg (by omega), Q1R, Q1Q Qj, hd, Q7 hx1, Qd (by rw [e]; assumption), e]; rfl; done) | (refine ⟨_, rfl, ?_, hS.sp⟩; have e := QL (n := m.funcs.length) (f := f) (x := x1) (c := 2) (by unfold Qt; rw [if_neg (by omega), if_neg (by assumption), if_neg (by assumption), if_pos (by omega)]) (by decide); rw [if_neg (by omega), Q1R, Q1Q Qj, hd, Q7 hx1, Qd (by rw [e]; simp), e]; rfl; done) | (refine ⟨_, rfl, ?_, hS.sp⟩; have e := QL (n := m.funcs.length) (f := f) (x := x1) (c := 18) (by unfold Qt; rw [if_neg k1, if_neg k2, if_neg k3, if_neg k4, if_pos]; refine ⟨hf0, ?_⟩; rw [List.take_of_length_le (by omega)] at hq2; refine Classical.byContradiction fun h => ?_; have := hq2.2 ⟨by omega, by omega, fun t ht => Classical.byContradiction fun hk => h (.inr (.inr ⟨t, ht, hk⟩))⟩; cases this) (by decide); rw [if_neg (by omega), Q1R, Q1Q Qj, hd, Q7 hx1, Qd (by rw [e]; simp), e]; rfl; done)))
               | (refine Q4 rfl ?_ -- QE c8
                  all_goals refine zsk ?_)
             all_goals (first | (exact ⟨zh, zh, by unfold Qt; rw [if_neg k1, if_neg k2, if_neg k3, if_neg k4, if_neg (fun h => absurd h.1 (by omega))], hS.sp⟩) | (exact ⟨zh, zh, by unfold Qt; rw [if_neg k1, if_neg k2, if_neg k3, if_neg k4, if_neg]; rintro ⟨_, h⟩; obtain ⟨a1, a2, a3⟩ := hq2.1 rfl; rw [List.take_of_length_le (by omega)] at a3; rcases h with h | h | ⟨t, ht, hk⟩ <;> first | (exfalso; omega) | exact hk (a3 t ht), hS.sp⟩)))
        | (refine Q4 rfl ?_ -- QE c6
           all_goals (refine zsk ?_)
           all_goals (exact ⟨zh, zh, by unfold Qt; rw [if_neg k1, if_neg k2, if_neg k3, if_neg k4, if_neg (fun h => absurd h.1 (by omega))], hS.sp⟩))
    rintro ρ w1 ⟨hA, hρ, hh, hS⟩; obtain ⟨ρ, rfl⟩ := env2 hA hρ
    all_goals (refine Q0 ?_; refine Q2 ?_; refine zm ?_; refine zn ?_; refine Q8 ?_)
    refine zoL hS [1, 2, 3, 4] (fun A LL ρ' w' => ∃ (b : Nat), Has ρ' A ∧ Has ρ' [(9, .int .i64 b)] ∧ (b ≤ x1.blocks.length) ∧ (QD m.funcs.length f x1 0 x1.blocks = QD m.funcs.length f x1 b (x1.blocks.drop b)) ∧ St cx w' (LL)) (fun ρ' _ => (x1.blocks.length - iv (ρ' 9)).toNat) ?_ ?_
    · exact ⟨0, zh, zh, (by omega), by simp, hS.sp⟩
    rintro ρ w1 ⟨b, hA, hρ, hb, hd2, hS⟩; obtain ⟨ρ, rfl⟩ := env2 hA hρ
    unfold Q4A
    all_goals (refine Q0 ?_; refine Q0 ?_; refine Q2 ?_; refine zm ?_; refine Q1 rfl ?_; refine zl hS ?_; refine zL ?_; refine Qp rfl rfl ?_; refine zn ?_)
    refine Ql rfl (fun hc => ?_) (fun hc => ?_)
    · skip
      all_goals (refine zsk ?_; refine Q0 ?_; refine Q8 ?_; refine Q0 ?_; obtain ⟨y, hy⟩ : ∃ y, x1.blocks[b]? = some y := ⟨_, List.getElem?_eq_getElem (by omega)⟩; have hsy := hsx.2.2.2 y (List.mem_of_getElem? hy); refine Q2 ?_; refine zv hS ?_; refine zm ?_; refine zm ?_; refine zR3 (c := rblock_c hx1 hy (by omega) (by omega) hsy.2.1 hm' hS) (h := ?_); rintro v1 w1 ⟨rfl, hS⟩; unfold fltV; refine Qc hS ?_; intro p10 w1 hS; refine zsn hS ?_; intro w1 hS; have hS := hS.ns; refine zn ?_; refine Q0 ?_; refine Q2 ?_; refine Q1 rfl ?_; refine zl hS ?_)
      all_goals (first | (refine Q1m ?_) | (refine Q1n ?_) | (refine Qs rfl rfl (fun hc => ?_) (fun hc => ?_)))
      all_goals (refine zn ?_)
      all_goals
        first
        | (refine Q5 rfl ?_ -- QE c10
           all_goals (refine Q0 ?_; refine Q2 ?_; refine zv hS ?_; refine zsn hS ?_; intro w1 hS; have hS := hS.ns; refine zn ?_; refine zr ?_; refine Q2c vw (Qe (n := 2) (by kernel_rfl) (by kernel_rfl) (hS.blkAt fd) (by rfl) (by rfl)) ?_)
           all_goals (first | (refine ⟨_, rfl, ?_, hS.sp⟩; rw [if_pos (by omega), Q3F (by rw [Q1C]; decide), Q6k (by decide)]; rfl; done) | (refine ⟨_, rfl, ?_, hS.sp⟩; rw [if_neg (by omega), Q1R, Q1Q Qj, hd, Q7 hx1]; rw [Qd (by rw [QL (c := 1) (by unfold Qt; rw [if_pos (by omega)]) (by decide)]; simp), QL (c := 1) (by unfold Qt; rw [if_pos (by omega)]) (by decide)]; rfl; done) | (refine ⟨_, rfl, ?_, hS.sp⟩; have e := QL (n := m.funcs.length) (f := f) (x := x1) (c := Qm x1.params x1.regs) (by unfold Qt; rw [if_neg (by omega), if_pos (by assumption)]) (by assumption); rw [if_neg (by omega), Q1R, Q1Q Qj, hd, Q7 hx1, Qd (by rw [e]; assumption), e]; rfl; done) | (refine ⟨_, rfl, ?_, hS.sp⟩; have e := QL (n := m.funcs.length) (f := f) (x := x1) (c := Qm x1.results x1.regs) (by unfold Qt; rw [if_neg (by omega), if_neg (by assumption), if_pos (by assumption)]) (by assumption); rw [if_neg (by omega), Q1R, Q1Q Qj, hd, Q7 hx1, Qd (by rw [e]; assumption), e]; rfl; done) | (refine ⟨_, rfl, ?_, hS.sp⟩; have e := QL (n := m.funcs.length) (f := f) (x := x1) (c := 2) (by unfold Qt; rw [if_neg (by omega), if_neg (by assumption), if_neg (by assumption), if_pos (by omega)]) (by decide); rw [if_neg (by omega), Q1R, Q1Q Qj, hd, Q7 hx1, Qd (by rw [e]; simp), e]; rfl; done) | (refine ⟨_, rfl, ?_, hS.sp⟩; have e := QL (n := m.funcs.length) (f := f) (x := x1) (c := 18) (by unfold Qt; rw [if_neg k1, if_neg k2, if_neg k3, if_neg k4, if_pos]; refine ⟨hf0, ?_⟩; rw [List.take_of_length_le (by omega)] at hq2; refine Classical.byContradiction fun h => ?_; have := hq2.2 ⟨by omega, by omega, fun t ht => Classical.byContradiction fun hk => h (.inr (.inr ⟨t, ht, hk⟩))⟩; cases this) (by decide); rw [if_neg (by omega), Q1R, Q1Q Qj, hd, Q7 hx1, Qd (by rw [e]; simp), e]; rfl; done) | (refine ⟨_, rfl, ?_, hS.sp⟩; have e : (QC m.funcs.length f x1 b y).1 ≠ 0 := (by assumption); have e2 : Q1E m.funcs.length f x1 = QC m.funcs.length f x1 b y := (by rw [Qas hh, hd2, Q7 hy, Q3W e]); rw [if_neg (by omega), Q1R, Q1Q Qj, hd, Q7 hx1, Qd (by rw [e2]; exact e), e2]; rfl; done)))
        | (refine Q4 rfl ?_ -- QE c10
           all_goals refine zsk ?_)
      all_goals (refine Q2 ?_; refine zm ?_; refine zad ?_; refine zm ?_; refine zn ?_; exact ⟨⟨b + 1, zh, zh, (by omega), by rw [hd2, Q7 hy, Q8o (by omega)], hS.sp⟩, Qk (by omega)⟩)
    · skip
      all_goals (refine zex ?_; refine Q2 ?_; refine zm ?_; refine zad ?_; refine zm ?_; refine zn ?_; exact ⟨⟨f + 1, zh, zh, (by omega), by rw [hd, Q7 hx1, Qdh]; rw [Qas hh, hd2, List.drop_of_length_le (by omega)]; rfl, hS.sp⟩, Qk (by omega)⟩)
  · skip
    all_goals (refine zex ?_; refine Q0 ?_; refine Q2 ?_; refine zb0 [_, _] ?_; refine zsn hS ?_; intro w1 hS; have hS := hS.ns; refine zn ?_; refine zr ?_; refine Q2c vw (Qe (n := 2) (by kernel_rfl) (by kernel_rfl) (hS.blkAt fd) (by rfl) (by rfl)) ?_)
    all_goals (first | (refine ⟨_, rfl, ?_, hS.sp⟩; rw [if_pos (by omega), Q3F (by rw [Q1C]; decide), Q6k (by decide)]; rfl; done) | (refine ⟨_, rfl, ?_, hS.sp⟩; rw [if_neg (by omega), Q1R, Q1Q Qj, hd, Q7 hx1]; rw [Qd (by rw [QL (c := 1) (by unfold Qt; rw [if_pos (by omega)]) (by decide)]; simp), QL (c := 1) (by unfold Qt; rw [if_pos (by omega)]) (by decide)]; rfl; done) | (refine ⟨_, rfl, ?_, hS.sp⟩; have e := QL (n := m.funcs.length) (f := f) (x := x1) (c := Qm x1.params x1.regs) (by unfold Qt; rw [if_neg (by omega), if_pos (by assumption)]) (by assumption); rw [if_neg (by omega), Q1R, Q1Q Qj, hd, Q7 hx1, Qd (by rw [e]; assumption), e]; rfl; done) | (refine ⟨_, rfl, ?_, hS.sp⟩; have e := QL (n := m.funcs.length) (f := f) (x := x1) (c := Qm x1.results x1.regs) (by unfold Qt; rw [if_neg (by omega), if_neg (by assumption), if_pos (by assumption)]) (by assumption); rw [if_neg (by omega), Q1R, Q1Q Qj, hd, Q7 hx1, Qd (by rw [e]; assumption), e]; rfl; done) | (refine ⟨_, rfl, ?_, hS.sp⟩; have e := QL (n := m.funcs.length) (f := f) (x := x1) (c := 2) (by unfold Qt; rw [if_neg (by omega), if_neg (by assumption), if_neg (by assumption), if_pos (by omega)]) (by decide); rw [if_neg (by omega), Q1R, Q1Q Qj, hd, Q7 hx1, Qd (by rw [e]; simp), e]; rfl; done) | (refine ⟨_, rfl, ?_, hS.sp⟩; have e := QL (n := m.funcs.length) (f := f) (x := x1) (c := 18) (by unfold Qt; rw [if_neg k1, if_neg k2, if_neg k3, if_neg k4, if_pos]; refine ⟨hf0, ?_⟩; rw [List.take_of_length_le (by omega)] at hq2; refine Classical.byContradiction fun h => ?_; have := hq2.2 ⟨by omega, by omega, fun t ht => Classical.byContradiction fun hk => h (.inr (.inr ⟨t, ht, hk⟩))⟩; cases this) (by decide); rw [if_neg (by omega), Q1R, Q1Q Qj, hd, Q7 hx1, Qd (by rw [e]; simp), e]; rfl; done) | (refine ⟨_, rfl, ?_, hS.sp⟩; have e : (QC m.funcs.length f x1 b y).1 ≠ 0 := (by assumption); have e2 : Q1E m.funcs.length f x1 = QC m.funcs.length f x1 b y := (by rw [Qas hh, hd2, Q7 hy, Q3W e]); rw [if_neg (by omega), Q1R, Q1Q Qj, hd, Q7 hx1, Qd (by rw [e2]; exact e), e2]; rfl; done) | (refine ⟨_, rfl, ?_, hS.sp⟩; rw [if_neg (by omega), Q1R, Q1Q Qj, hd, List.drop_of_length_le (l := m.funcs) (by omega), QZ]; rfl; done))
theorem kindne_c {t : Ty} {cs : List Value} (ht : tyR.at cx cs t) (hS : St cx w L) : Rets Tryz.prog Q3k [.agg ⟨cs⟩] w fun u w' => u = .bool (decide (t.kind ≠ 1)) ∧ St cx w' L := by
  obtain ⟨v, rfl, hl⟩ := QG ht
  all_goals refine QaA ?_
  all_goals (unfold code_Check_1_lc; refine Q0 ?_; refine Q2 ?_; refine zb hS ?_; intro p1 w1 hS; refine zm ?_; refine zn ?_; refine Q0 ?_; refine Q2 ?_; refine Q1 rfl ?_; refine zl hS ?_; refine Q5f rfl rfl ?_; refine zm ?_; refine zn ?_; refine zr ?_; refine zf ?_; refine ⟨_, rfl, ?_, hS.sp⟩; (rfl); done)
theorem pcont_c {l : List Ty} {v : Value} (hl : tyR.sl cx v l) (hS : St cx w L) : Rets Tryz.prog Q1k [v, .func (.func Q3k) #[] #[]] w fun u w' => ∃ q, u = .bool q ∧ (q = true ↔ ∃ t ∈ l, t.kind ≠ 1) ∧ St cx w' L := by
  have hlen := hl.len
  have hidx : ∀ {w : World} {L : List Res}, St cx w L → Rets Tryz.prog QB [v, .func (.func Q3k) #[] #[]] w fun u w' => ∃ r : Int, u = .int .i64 r ∧ (0 ≤ r ↔ ∃ t ∈ l, t.kind ≠ 1) ∧ St cx w' L := by
    intro w L hS
    all_goals refine Q27 ?_
    all_goals (unfold slices_IndexFunc_api_Type_api_Type_lc; refine Q0 ?_; refine Q2 ?_; refine zm ?_; refine zn ?_; refine Q0 ?_; refine Q0 ?_; refine Q2 ?_; refine zm ?_; refine zL ?_; refine zm ?_; refine zn ?_; refine Q8 ?_)
    refine zoL hS [0, 1, 7] (fun A LL ρ' w' => ∃ (j : Nat), Has ρ' A ∧ Has ρ' [(8, .int .i64 j)] ∧ (j ≤ l.length) ∧ (∀ t ∈ l.take j, t.kind = 1) ∧ St cx w' (LL)) (fun ρ' _ => (l.length - iv (ρ' 8)).toNat) ?_ ?_
    · exact ⟨0, zh, zh, (by omega), by simp, hS.sp⟩
    rintro ρ w1 ⟨j, hA, hρ, hj, hd, hS⟩; obtain ⟨ρ, rfl⟩ := env2 hA hρ
    unfold Q1j
    all_goals (refine Q0 ?_; refine Q2 ?_; refine Qp rfl rfl ?_; refine zn ?_; refine Q0 ?_)
    refine Ql rfl (fun hc => ?_) (fun hc => ?_)
    · skip
      all_goals (refine zsk ?_; refine Q0 ?_; refine Q8 ?_; refine Q0 ?_; refine Q2 ?_; refine zm ?_; refine zm ?_; refine zn ?_; refine Q0 ?_; refine Q2 ?_; refine zm ?_; refine zm ?_; refine zm ?_; refine zi ?_; intro b1 o1 cs1 x1 hat1 hx1 he1; obtain ⟨vl1, rfl, hl1⟩ := QG he1; (first | (refine zv hS ?_) | (refine zvk hS ?_)))
      all_goals (refine QnQ rfl (by kernel_rfl) (by rfl) (kindne_c he1 hS) ?_; rintro v1 w1 ⟨rfl, hS⟩; (cases hdec : decide (x1.kind ≠ 1)); have hg := of_decide_eq_false hdec; rotate_left; have hg := of_decide_eq_true hdec; all_goals skip)
      all_goals (refine zn ?_)
      all_goals
        first
        | (refine Q5 rfl ?_ -- QB c1
           all_goals (refine Q0 ?_; refine Q2 ?_; refine zm ?_; refine zm ?_; refine zn ?_; refine zr ?_; refine zf ?_)
           all_goals (exact ⟨_, rfl, j, rfl, ⟨fun _ => ⟨x1, List.mem_of_getElem? hx1, hg⟩, fun _ => by omega⟩, hS.sp⟩))
        | (refine Q4 rfl ?_ -- QB c1
           all_goals refine zsk ?_)
      all_goals (refine Q2 ?_; refine zad ?_; refine zm ?_; refine zn ?_; exact ⟨⟨j + 1, zh, zh, (by omega), Q6R hd hx1 (Classical.not_not.1 hg), hS.sp⟩, Qk (by omega)⟩)
    · skip
      all_goals (refine zex ?_; refine Q0 ?_; refine Q2 ?_; refine zm ?_; refine zn ?_; refine zr ?_; refine zf ?_)
      all_goals (first | (exact ⟨_, rfl, j, rfl, ⟨fun _ => ⟨x1, List.mem_of_getElem? hx1, hg⟩, fun _ => by omega⟩, hS.sp⟩) | (exact ⟨_, rfl, -1, rfl, ⟨fun h => by omega, fun ⟨t, ht, hk⟩ => absurd (Q9j hd (by omega) t ht) hk⟩, hS.sp⟩))
  all_goals refine Q1P ?_
  all_goals (unfold slices_ContainsFunc_api_Type_api_Type_lc; refine Q0 ?_; refine Q2 ?_; refine zm ?_; refine zn ?_; refine Q0 ?_; refine Q2 ?_; refine zm ?_; refine zm ?_; refine zR2 (c := hidx hS) (h := ?_); rintro v1 w1 ⟨r, rfl, hr, hS⟩)
  all_goals (first | (refine Q9k ?_) | (refine Q9l ?_) | (refine Q34 rfl rfl (fun hc => ?_) (fun hc => ?_)))
  all_goals (refine zm ?_; refine zn ?_; refine zr ?_; refine zf ?_)
  all_goals (first | (exact ⟨_, rfl, _, rfl, ⟨fun _ => hr.1 (by omega), fun _ => rfl⟩, hS.sp⟩) | (exact ⟨_, rfl, _, rfl, ⟨fun h => Bool.noConfusion h, fun h => by have := hr.2 h; omega⟩, hS.sp⟩))
theorem QoI {g : Flt} {a : Int} {x : Fun} {b : Nat} {y : Block} {q : Bool} (hq : q = true ↔ (b = 0 ∧ (y.regs ≠ x.regs ∨ y.params ≠ x.params))) :
    orF (orF (orF (orF g (mkF (if y.regs < x.regs ∨ 16 < y.regs then 1 else 0) a)) (mkF (Qm y.params y.regs) a)) (mkF (if q = true then 9 else 0) a)) (mkF (if 40 < y.code.length then 2 else 0) a) = orF g (mkF (Qn x b y) a) := by
  rw [Q2t, Q2t, Q2t]
  congr 2
  unfold Qn
  by_cases h0 : y.regs < x.regs ∨ 16 < y.regs
  · rw [if_pos h0, if_pos h0]; simp only [Q4j (show (1 : Int) ≠ 0 by decide)]
  · rw [if_neg h0, if_neg h0, Q41]
    by_cases h : Qm y.params y.regs ≠ 0
    · rw [if_pos h]; simp only [Q4j h]
    · rw [if_neg h, Classical.not_not.1 h, Q41]
      by_cases hb : b = 0 ∧ (y.regs ≠ x.regs ∨ y.params ≠ x.params)
      · rw [if_pos hb, if_pos (hq.2 hb)]; simp only [Q4j (show (9 : Int) ≠ 0 by decide)]
      · rw [if_neg hb, if_neg (fun h => hb (hq.1 h)), Q41]
theorem pblock_c {fs : List Fun} {f b : Nat} {x : Fun} {y : Block} {vf : Value} {g : Flt} {a : Int} {p : Nat} (hxf : fs[f]? = some x) (hyb : x.blocks[b]? = some y) (hf0 : f ≤ 1000000) (hb0 : b ≤ 1000000) (hlc : y.code.length ≤ 100000) (hf : funcR.sl cx vf fs) (hS : St cx w L) (hi : nth L i = some (jdg p vf g a)) :
    Rets Tryz.prog Q2g [.pointer (some ⟨p, 0, none⟩), .int .i64 f, .int .i64 b] w fun u w' => u = .tuple #[] ∧ ∃ a', St cx w' (L.set i (jdg p vf (orF g (QC fs.length f x b y)) a')) := by
  have hflt := (List.getElem?_eq_some_iff.1 hxf).1
  have hblt := (List.getElem?_eq_some_iff.1 hyb).1
  have hS := hS.out hi
  all_goals refine Q5D ?_
  all_goals (unfold code_judge_block_lc; refine Q0 ?_; refine Q2 ?_; refine zm ?_; refine Q1L rfl ?_; refine Q1 rfl ?_; refine Q1 rfl ?_; refine zl hS ?_; refine zm ?_; refine zi ?_; intro b1 o1 cs1 x1 hat1 hx1 he1; obtain ⟨vp1, vr1, vb1, rfl, hp1, hr1, hb1⟩ := QQ he1; (first | (refine zv hS ?_) | (refine zvk hS ?_)); refine Qc hS ?_; intro p6 w1 hS; refine zsn hS ?_; intro w1 hS; have hS := hS.ns; refine zn ?_; have e1 : x = x1 := Option.some.inj (hxf.symm.trans hx1); subst e1; refine Q0 ?_; refine Q2 ?_; refine Q1 rfl ?_; refine zl hS ?_; refine zm ?_; refine zi ?_; intro b2 o2 cs2 x2 hat2 hx2 he2; obtain ⟨vp2, vc2, ve21, ve22, ve23, ve24, ve25, rfl, hp2, hc2, he21, he22, he23, he24, he25⟩ := Q12 he2; (first | (refine zv hS ?_) | (refine zvk hS ?_)); refine Qc hS ?_; intro p7 w1 hS; refine zsn hS ?_; intro w1 hS; have hS := hS.ns; refine zn ?_; have e2 : y = x2 := Option.some.inj (hyb.symm.trans hx2); subst e2)
  refine zM [0, 1, 2, 6, 7] (fun A ρ' w' => Has ρ' A ∧ Has ρ' [] ∧ St cx w' (blk p7 52 [.int .i64 y.regs, vp2, vc2, .int .i64 y.fin.op, .int .i64 y.fin.a, .int .i64 y.fin.yes.block, ve21, ve22, .int .i64 y.fin.no.block, ve23, ve24, ve25] :: blk p6 43 [.int .i64 x.regs, vp1, vr1, vb1] :: jdg p vf g (Q2B f b) :: L.eraseIdx i)) ?_ ?_
  · skip
    all_goals (refine Q2 ?_; refine zm ?_; refine zm ?_; refine zm ?_; refine zR2 (c := Qna f b hf0 hb0 hS) (h := ?_); rintro v1 w1 ⟨rfl, hS⟩; refine Q1L rfl ?_; refine Q1 rfl ?_; refine zst hS ?_; intro w1 hS; have hS := hS.ns; refine zn ?_; exact ⟨zh, zh, hS.sp⟩)
  rintro ρ w1 ⟨hA, hρ, hS⟩; obtain ⟨ρ, rfl⟩ := env2 hA hρ
  refine zM [0, 1, 2, 6, 7] (fun A ρ' w' => Has ρ' A ∧ Has ρ' [] ∧ St cx w' (blk p7 52 [.int .i64 y.regs, vp2, vc2, .int .i64 y.fin.op, .int .i64 y.fin.a, .int .i64 y.fin.yes.block, ve21, ve22, .int .i64 y.fin.no.block, ve23, ve24, ve25] :: blk p6 43 [.int .i64 x.regs, vp1, vr1, vb1] :: jdg p vf (orF g (mkF (if y.regs < x.regs ∨ 16 < y.regs then 1 else 0) (Q2B f b))) (Q2B f b) :: L.eraseIdx i)) ?_ ?_
  · skip
    all_goals (refine Q2 ?_; refine zm ?_; refine Q1 rfl ?_; refine zl hS ?_; refine Q1 rfl ?_; refine zl hS ?_)
    all_goals (first | (refine Q1z ?_) | (refine Q1A ?_) | (refine QK rfl rfl (fun hc => ?_) (fun hc => ?_)))
    all_goals (refine zm ?_; (first | refine s_gn rfl rfl ?_ | (refine s_gy rfl ?_; refine Q1 rfl ?_)); (first | refine s_gn rfl rfl ?_ | (refine s_gy rfl ?_; refine zl hS ?_)))
    all_goals (first | refine s_gn rfl rfl ?_ | (refine s_gy rfl ?_; (first | (refine Qz ?_) | (refine QF ?_) | (refine Qh rfl rfl (fun hc => ?_) (fun hc => ?_)))))
    all_goals ((first | (refine zpt ?_) | (refine zpf ?_)); refine zR3 (c := Q1Y (g := _) (by intro _; decide) hS fd) (h := ?_); rintro v1 w1 ⟨rfl, hS⟩; simp only [List.set_cons_zero, List.set_cons_succ, if_true, Bool.false_eq_true, if_false] at hS; refine zn ?_; exact ⟨zh, zh, by first | (rw [if_pos (by omega)]; exact hS.sp) | (rw [if_neg (by omega)]; exact hS.sp)⟩)
  rintro ρ w1 ⟨hA, hρ, hS⟩; obtain ⟨ρ, rfl⟩ := env2 hA hρ
  all_goals (refine Q0 ?_; refine Q2 ?_; refine zm ?_; refine Q1 rfl ?_; refine zl hS ?_; refine Q1 rfl ?_; refine zl hS ?_; refine zR3 (c := Qlk hp2 hS fd) (h := ?_); rintro v1 w1 ⟨rfl, hS⟩; have hS := hS.ns; refine zn ?_; refine Q0 ?_; refine Q2 ?_)
  refine zKL hS 18 [0, 1, 2, 6, 7] (fun A LL ρ' w' => ∃ (q : Bool), Has ρ' A ∧ Has ρ' [(46, .pointer (some ⟨p, 0, none⟩)), (63, .bool q)] ∧ (q = true ↔ (b = 0 ∧ (y.regs ≠ x.regs ∨ y.params ≠ x.params))) ∧ St cx w' (LL)) ?_ ?_
  · skip
    all_goals (refine zm ?_; refine zm ?_)
    all_goals (first | (refine Qq ?_) | (refine Qr ?_) | (refine Qf rfl rfl (fun hc => ?_) (fun hc => ?_)))
    all_goals (refine zm ?_; (first | refine s_gn rfl rfl ?_ | (refine s_gy rfl ?_; refine Q1 rfl ?_)); (first | refine s_gn rfl rfl ?_ | (refine s_gy rfl ?_; refine zl hS ?_)); (first | refine s_gn rfl rfl ?_ | (refine s_gy rfl ?_; refine Q1 rfl ?_)); (first | refine s_gn rfl rfl ?_ | (refine s_gy rfl ?_; refine zl hS ?_)))
    all_goals (first | refine s_gn rfl rfl ?_ | (refine s_gy rfl ?_; (first | (refine Q1m ?_) | (refine Q1n ?_) | (refine Qs rfl rfl (fun hc => ?_) (fun hc => ?_)))))
    all_goals ((first | refine s_gn rfl rfl ?_ | (refine s_gy rfl ?_; refine zm ?_)); (first | refine s_gn rfl rfl ?_ | (refine s_gy rfl ?_; refine Q1 rfl ?_)); (first | refine s_gn rfl rfl ?_ | (refine s_gy rfl ?_; refine zl hS ?_)); (first | refine s_gn rfl rfl ?_ | (refine s_gy rfl ?_; refine Q1 rfl ?_)); (first | refine s_gn rfl rfl ?_ | (refine s_gy rfl ?_; refine zl hS ?_)))
    all_goals (first | refine s_gn rfl rfl ?_ | (refine s_gy rfl ?_; refine zR3 (c := eqfT_c (by kernel_rfl) (fun a _ b _ {_ _ _ _} h1 h2 h3 => psame_c a b h1 h2 h3) hp2 hp1 hS) (h := ?_); rintro v1 w1 ⟨rfl, hS⟩; (cases hdec : decide (y.params = x.params)); have hg := of_decide_eq_false hdec; rotate_left; have hg := of_decide_eq_true hdec; all_goals skip))
    all_goals ((first | refine s_gn rfl rfl ?_ | (refine s_gy rfl ?_; refine Q1G rfl ?_)); (first | refine s_gn rfl rfl ?_ | (refine s_gy rfl ?_; (first | (refine zpt ?_) | (refine zpf ?_)))); (first | (refine zpt ?_) | (refine zpf ?_)); refine Q3M ?_; refine Q1X ?_)
    all_goals (first | (exact ⟨_, zh, zh, by exact ⟨fun _ => ⟨by omega, .inl (by assumption)⟩, fun _ => rfl⟩, hS.sp⟩) | (exact ⟨_, zh, zh, by exact ⟨fun _ => ⟨by omega, .inr (by assumption)⟩, fun _ => rfl⟩, hS.sp⟩) | (exact ⟨_, zh, zh, by exact ⟨fun h => Bool.noConfusion h, fun h => absurd h.1 (by omega)⟩, hS.sp⟩) | (exact ⟨_, zh, zh, by exact ⟨fun h => Bool.noConfusion h, fun h => h.2.elim (fun h => absurd h (by assumption)) (fun h => absurd (by assumption) h)⟩, hS.sp⟩))
  rintro ρ w1 ⟨q, hA, hρ, hq, hS⟩; obtain ⟨ρ, rfl⟩ := env2 hA hρ
  all_goals (refine zR3 (c := Q1Y (g := _) (by intro _; decide) hS fd) (h := ?_); rintro v1 w1 ⟨rfl, hS⟩; simp only [List.set_cons_zero, List.set_cons_succ, if_true, Bool.false_eq_true, if_false] at hS; refine zn ?_)
  refine zM [0, 1, 2, 6, 7] (fun A ρ' w' => Has ρ' A ∧ Has ρ' [] ∧ St cx w' (blk p7 52 [.int .i64 y.regs, vp2, vc2, .int .i64 y.fin.op, .int .i64 y.fin.a, .int .i64 y.fin.yes.block, ve21, ve22, .int .i64 y.fin.no.block, ve23, ve24, ve25] :: blk p6 43 [.int .i64 x.regs, vp1, vr1, vb1] :: jdg p vf (orF g (mkF (Qn x b y) (Q2B f b))) (Q2B f b) :: L.eraseIdx i)) ?_ ?_
  · skip
    all_goals (refine Q2 ?_; refine zm ?_; refine Q1 rfl ?_; refine zl hS ?_; refine zL ?_)
    all_goals (first | (refine Qz ?_) | (refine QF ?_) | (refine Qh rfl rfl (fun hc => ?_) (fun hc => ?_)))
    all_goals (refine zR3 (c := Q1Y (g := _) (by intro _; decide) hS fd) (h := ?_); rintro v1 w1 ⟨rfl, hS⟩; simp only [List.set_cons_zero, List.set_cons_succ, if_true, Bool.false_eq_true, if_false] at hS; refine zn ?_; exact ⟨zh, zh, by rw [← QoI hq]; first | (rw [if_pos (c := 40 < y.code.length) (by omega)]; exact hS.sp) | (rw [if_neg (c := 40 < y.code.length) (by omega)]; exact hS.sp)⟩)
  rintro ρ w1 ⟨hA, hρ, hS⟩; obtain ⟨ρ, rfl⟩ := env2 hA hρ
  all_goals (refine Q0 ?_; refine Q0 ?_; refine Q2 ?_; refine zm ?_; refine zn ?_; refine Q8 ?_)
  refine zo [0, 1, 2, 6, 7] (fun A ρ' w' => ∃ (j : Nat) (h : Flt) (at2 : Int), Has ρ' A ∧ Has ρ' [(8, .int .i64 j)] ∧ (j ≤ y.code.length) ∧ (orF (orF g (mkF (Qn x b y) (Q2B f b))) (QM fs.length f b 0 y.code) = orF h (QM fs.length f b j (y.code.drop j))) ∧ St cx w' (blk p7 52 [.int .i64 y.regs, vp2, vc2, .int .i64 y.fin.op, .int .i64 y.fin.a, .int .i64 y.fin.yes.block, ve21, ve22, .int .i64 y.fin.no.block, ve23, ve24, ve25] :: blk p6 43 [.int .i64 x.regs, vp1, vr1, vb1] :: jdg p vf h at2 :: L.eraseIdx i)) (fun ρ' _ => (y.code.length - iv (ρ' 8)).toNat) ?_ ?_
  · exact ⟨0, _, _, zh, zh, (by omega), by rw [List.drop_zero], hS.sp⟩
  rintro ρ w1 ⟨j, h, at2, hA, hρ, hj, hd, hS⟩; obtain ⟨ρ, rfl⟩ := env2 hA hρ
  unfold Q37
  all_goals (refine Q0 ?_; refine Q0 ?_; refine Q2 ?_; refine zm ?_; refine Q1 rfl ?_; refine zl hS ?_; refine zL ?_)
  all_goals (first | (refine Q1z ?_) | (refine Q1A ?_) | (refine QK rfl rfl (fun hc => ?_) (fun hc => ?_)))
  all_goals (refine zm ?_; (first | refine s_gn rfl rfl ?_ | (refine s_gy rfl ?_; refine zm ?_)); (first | refine s_gn rfl rfl ?_ | (refine s_gy rfl ?_; refine Q1L rfl ?_)); (first | refine s_gn rfl rfl ?_ | (refine s_gy rfl ?_; refine Q1 rfl ?_)); (first | refine s_gn rfl rfl ?_ | (refine s_gy rfl ?_; (first | refine Q1 rfl ?_ | refine QS rfl ?_))); (first | refine s_gn rfl rfl ?_ | (refine s_gy rfl ?_; refine zl hS ?_)))
  all_goals (first | refine s_gn rfl rfl ?_ | (refine s_gy rfl ?_; (first | (refine Qq ?_) | (refine Qr ?_) | (refine Qf rfl rfl (fun hc => ?_) (fun hc => ?_)))))
  all_goals ((first | (refine zpt ?_) | (refine zpf ?_)); refine zn ?_)
  all_goals
    first
    | (refine Q5 rfl ?_ -- Q2g c0
       all_goals (refine zsk ?_; refine Q0 ?_; refine Q8 ?_; refine Q0 ?_; refine Q2 ?_; refine zm ?_; refine zm ?_; refine zm ?_; refine zm ?_; refine zR3 (c := pInsAt_c f b j hf0 hb0 (by omega) hS) (h := ?_); rintro v1 w1 ⟨rfl, hS⟩; refine Q1L rfl ?_; refine Q1 rfl ?_; refine zst hS ?_; intro w1 hS; have hS := hS.ns; refine zn ?_; have hS : St cx _ (blk p7 52 [.int .i64 y.regs, vp2, vc2, .int .i64 y.fin.op, .int .i64 y.fin.a, .int .i64 y.fin.yes.block, ve21, ve22, .int .i64 y.fin.no.block, ve23, ve24, ve25] :: blk p6 43 [.int .i64 x.regs, vp1, vr1, vb1] :: jdg p vf h (QaH f b j) :: L.eraseIdx i) := hS; refine Q2 ?_; refine zm ?_; refine Q1 rfl ?_; refine zl hS ?_; refine zm ?_; refine zi ?_; intro b3 o3 cs3 x3 hat3 hx3 he3; obtain ⟨vr3, va3, rfl, hr3, ha3⟩ := Q1u he3; (first | (refine zv hS ?_) | (refine zvk hS ?_)); refine zR2 (c := ins_c he3 hf hS fd) (h := ?_); rintro v1 w1 ⟨rfl, hS⟩; have hS := hS.ns; refine zn ?_; refine Q2 ?_; refine zm ?_; refine zad ?_; refine zm ?_; refine zn ?_)
       all_goals (exact ⟨⟨j + 1, _, _, zh, zh, (by omega), by rw [hd, Q7 hx3, QM, Q36], hS.sp⟩, Qk (by omega)⟩))
    | (refine Q4 rfl ?_ -- Q2g c0
       all_goals (refine zex ?_; (first | (rw [List.drop_of_length_le (by omega), QM, Qnb (b := (0, 0)) rfl] at hd) | (rw [Q3F (a := h) (by assumption)] at hd)); refine Q0 ?_; refine Q2 ?_; refine zm ?_; refine zm ?_; refine zm ?_; refine zR2 (c := pEndAt_c f b hf0 hb0 hS) (h := ?_); rintro v1 w1 ⟨rfl, hS⟩; refine Q1L rfl ?_; refine Q1 rfl ?_; refine zst hS ?_; intro w1 hS; have hS := hS.ns; refine zn ?_; have hS : St cx _ (blk p7 52 [.int .i64 y.regs, vp2, vc2, .int .i64 y.fin.op, .int .i64 y.fin.a, .int .i64 y.fin.yes.block, ve21, ve22, .int .i64 y.fin.no.block, ve23, ve24, ve25] :: blk p6 43 [.int .i64 x.regs, vp1, vr1, vb1] :: jdg p vf h (Qdx f b) :: L.eraseIdx i) := hS; refine Q2 ?_; refine zm ?_; refine zv hS ?_; refine Q1 rfl ?_; refine zv hS ?_; refine zR3 (c := end_c (e := y.fin) he1 ⟨_, _, _, _, _, rfl, he21, he22, he23, he24, he25⟩ hS fd) (h := ?_); rintro v1 w1 ⟨rfl, hS⟩; have hS := hS.ns; refine zn ?_)
       all_goals (refine Q3U ?_; refine ⟨_, rfl, rfl, Qdx f b, ?_⟩; have hS := hS.drop.drop; rw [show orF g (QC fs.length f x b y) = orF h (mkF (Q2k x.blocks.length y.fin) (Qdx f b)) from (by unfold QC; rw [← Q36, ← Q36, hd])]; exact St.back hS hi))
theorem Qoz {g : Flt} {a : Int} {x : Fun} {f : Nat} {q : Bool} (hq : q = true ↔ (f = 0 ∧ (0 < x.regs ∨ 0 < x.params.length ∨ ∃ t ∈ x.results, t.kind ≠ 1))) :
    orF (orF (orF (orF (orF g (mkF (if x.regs < 0 ∨ 6 < x.regs then 1 else 0) a)) (mkF (Qm x.params x.regs) a)) (mkF (Qm x.results x.regs) a)) (mkF (if x.blocks.length < 1 ∨ 12 < x.blocks.length then 2 else 0) a)) (mkF (if q = true then 18 else 0) a) = orF g (mkF (Qt f x) a) := by
  rw [Q2t, Q2t, Q2t, Q2t]
  congr 2
  unfold Qt
  by_cases h0 : x.regs < 0 ∨ 6 < x.regs
  · rw [if_pos h0, if_pos h0]; simp only [Q4j (show (1 : Int) ≠ 0 by decide)]
  · rw [if_neg h0, if_neg h0, Q41]
    by_cases h : Qm x.params x.regs ≠ 0
    · rw [if_pos h]; simp only [Q4j h]
    · rw [if_neg h, Classical.not_not.1 h, Q41]
      by_cases h1 : Qm x.results x.regs ≠ 0
      · rw [if_pos h1]; simp only [Q4j h1]
      · rw [if_neg h1, Classical.not_not.1 h1, Q41]
        by_cases h2 : x.blocks.length < 1 ∨ 12 < x.blocks.length
        · rw [if_pos h2, if_pos h2]; simp only [Q4j (show (2 : Int) ≠ 0 by decide)]
        · rw [if_neg h2, if_neg h2, Q41]
          by_cases hb : f = 0 ∧ (0 < x.regs ∨ 0 < x.params.length ∨ ∃ t ∈ x.results, t.kind ≠ 1)
          · rw [if_pos hb, if_pos (hq.2 hb)]
          · rw [if_neg hb, if_neg (fun h => hb (hq.1 h))]
theorem pcheck_c {m : Module} (hsh : m.Short) {cs : List Value} (hm : modR.at cx cs m) (hS : St cx w L) :
    Rets Tryz.prog Q2X [.agg ⟨cs⟩] w fun u w' => u = fltV m.fault ∧ St cx w' L := by
  obtain ⟨vf, rfl, hf⟩ := Q1B hm
  have hsl := hsh.1
  have hsf := hsh.2
  obtain ⟨a0, n0, rfl⟩ := Rep.SR.shape hf
  generalize hvf : Value.slice a0 m.funcs.length n0 = vf at *
  all_goals refine Qh9 ?_
  all_goals (unfold code_Check_lc; refine Q0 ?_; refine Q2 ?_; refine zb hS ?_; intro p1 w1 hS; refine Qc hS ?_; intro p2 w1 hS; refine zn ?_; refine Q0 ?_; refine Q2 ?_; refine zv hS ?_; refine Qmw (cs := [vf, .int .i64 0, .int .i64 0, .int .i64 (-1)]) vw vw (by subst hvf; rfl) ?_; refine zb hS ?_; intro p9 w1 hS; refine zm ?_; refine zn ?_)
  refine zM [1, 2, 3] (fun A ρ' w' => Has ρ' A ∧ Has ρ' [] ∧ St cx w' (jdg p9 vf (mkF (if m.funcs.length < 1 ∨ 8 < m.funcs.length then 2 else 0) (-1)) (-1) :: blk p2 29 [.int .i64 0, .int .i64 0] :: blk p1 24 [vf] :: L)) ?_ ?_
  · skip
    all_goals (have hS : St cx _ (jdg p9 vf (0, 0) (-1) :: blk p2 29 [.int .i64 0, .int .i64 0] :: blk p1 24 [vf] :: L) := hS; refine Q2 ?_; refine zm ?_; refine Q1 rfl ?_; refine zl hS ?_; refine zL ?_)
    all_goals (first | (refine Qq ?_) | (refine Qr ?_) | (refine Qf rfl rfl (fun hc => ?_) (fun hc => ?_)))
    all_goals (refine zm ?_; (first | refine s_gn rfl rfl ?_ | (refine s_gy rfl ?_; refine Q1 rfl ?_)); (first | refine s_gn rfl rfl ?_ | (refine s_gy rfl ?_; refine zl hS ?_)); (first | refine s_gn rfl rfl ?_ | (refine s_gy rfl ?_; refine zL ?_)))
    all_goals (first | refine s_gn rfl rfl ?_ | (refine s_gy rfl ?_; (first | (refine Qz ?_) | (refine QF ?_) | (refine Qh rfl rfl (fun hc => ?_) (fun hc => ?_)))))
    all_goals ((first | (refine zpt ?_) | (refine zpf ?_)); refine zR3 (c := Q1Y (g := _) (by intro _; decide) hS fd) (h := ?_); rintro v1 w1 ⟨rfl, hS⟩; simp only [List.set_cons_zero, List.set_cons_succ, if_true, Bool.false_eq_true, if_false] at hS; refine zn ?_; exact ⟨zh, zh, by rw [Q1Q (Qjz _ _)] at hS; first | (rw [if_pos (by omega)]; exact hS.sp) | (rw [if_neg (by omega)]; exact hS.sp)⟩)
  rintro ρ w1 ⟨hA, hρ, hS⟩; obtain ⟨ρ, rfl⟩ := env2 hA hρ
  all_goals (refine Q0 ?_; refine Q0 ?_; refine Q2 ?_; refine zm ?_; refine zn ?_; refine Q8 ?_)
  refine zo [1, 2, 3] (fun A ρ' w' => ∃ (f : Nat) (h : Flt) (a : Int), Has ρ' A ∧ Has ρ' [(4, .int .i64 f)] ∧ (f ≤ m.funcs.length) ∧ (m.fault = orF h (QZ m.funcs.length f (m.funcs.drop f))) ∧ St cx w' (jdg p9 vf h a :: blk p2 29 [.int .i64 0, .int .i64 0] :: blk p1 24 [vf] :: L)) (fun ρ' _ => (m.funcs.length - iv (ρ' 4)).toNat) ?_ ?_
  · exact ⟨0, _, _, zh, zh, (by omega), by rw [List.drop_zero]; rfl, hS.sp⟩
  rintro ρ w1 ⟨f, h, a, hA, hρ, hj, hd, hS⟩; obtain ⟨ρ, rfl⟩ := env2 hA hρ
  unfold Q6L
  all_goals (refine Q0 ?_; refine Q0 ?_; refine Q2 ?_; refine zm ?_; refine Q1 rfl ?_; refine zl hS ?_; refine zL ?_)
  all_goals (first | (refine Q1z ?_) | (refine Q1A ?_) | (refine QK rfl rfl (fun hc => ?_) (fun hc => ?_)))
  all_goals (refine zm ?_; (first | refine s_gn rfl rfl ?_ | (refine s_gy rfl ?_; refine zm ?_)); (first | refine s_gn rfl rfl ?_ | (refine s_gy rfl ?_; refine Q1L rfl ?_)); (first | refine s_gn rfl rfl ?_ | (refine s_gy rfl ?_; refine Q1 rfl ?_)); (first | refine s_gn rfl rfl ?_ | (refine s_gy rfl ?_; (first | refine Q1 rfl ?_ | refine QS rfl ?_))); (first | refine s_gn rfl rfl ?_ | (refine s_gy rfl ?_; refine zl hS ?_)))
  all_goals (first | refine s_gn rfl rfl ?_ | (refine s_gy rfl ?_; (first | (refine Qq ?_) | (refine Qr ?_) | (refine Qf rfl rfl (fun hc => ?_) (fun hc => ?_)))))
  all_goals ((first | (refine zpt ?_) | (refine zpf ?_)); refine zn ?_)
  all_goals
    first
    | (refine Q5 rfl ?_ -- Q2X c0
       all_goals (refine zsk ?_; refine Q0 ?_; refine Q8 ?_; refine Q0 ?_; refine Q2 ?_; refine Q1 rfl ?_; refine zl hS ?_; refine zm ?_; refine zi ?_; intro b1 o1 cs1 x1 hat1 hx1 he1; obtain ⟨vp1, vr1, vb1, rfl, hp1, hr1, hb1⟩ := QQ he1; (first | (refine zv hS ?_) | (refine zvk hS ?_)); refine Qc hS ?_; intro p5 w1 hS; refine zsn hS ?_; intro w1 hS; have hS := hS.ns; refine zn ?_; have hsx := hsf x1 (List.mem_of_getElem? hx1); have hlb := hsx.2.2.1; have hlp := hp1.len; have hlr := hr1.len; refine Q0 ?_; refine Q2 ?_; refine zm ?_; refine zm ?_; refine zR1 (c := Qoh f (by omega) hS) (h := ?_); rintro v1 w1 ⟨rfl, hS⟩; refine Q1L rfl ?_; refine Q1 rfl ?_; refine zst hS ?_; intro w1 hS; have hS := hS.ns; refine zn ?_)
       refine zM [1, 2, 3, 4, 5] (fun A ρ' w' => Has ρ' A ∧ Has ρ' [] ∧ St cx w' (blk p5 43 [.int .i64 x1.regs, vp1, vr1, vb1] :: jdg p9 vf (orF h (mkF (if x1.regs < 0 ∨ 6 < x1.regs then 1 else 0) (Q2z f))) (Q2z f) :: blk p2 29 [.int .i64 0, .int .i64 0] :: blk p1 24 [vf] :: L)) ?_ ?_
       · skip
         all_goals (have hS : St cx _ (blk p5 43 [.int .i64 x1.regs, vp1, vr1, vb1] :: jdg p9 vf h (Q2z f) :: blk p2 29 [.int .i64 0, .int .i64 0] :: blk p1 24 [vf] :: L) := hS; refine Q2 ?_; refine zm ?_; refine Q1 rfl ?_; refine zl hS ?_)
         all_goals (first | (refine Q1z ?_) | (refine Q1A ?_) | (refine QK rfl rfl (fun hc => ?_) (fun hc => ?_)))
         all_goals (refine zm ?_; (first | refine s_gn rfl rfl ?_ | (refine s_gy rfl ?_; refine Q1 rfl ?_)); (first | refine s_gn rfl rfl ?_ | (refine s_gy rfl ?_; refine zl hS ?_)))
         all_goals (first | refine s_gn rfl rfl ?_ | (refine s_gy rfl ?_; (first | (refine Qz ?_) | (refine QF ?_) | (refine Qh rfl rfl (fun hc => ?_) (fun hc => ?_)))))
         all_goals ((first | (refine zpt ?_) | (refine zpf ?_)); refine zR3 (c := Q1Y (g := _) (by intro _; decide) hS fd) (h := ?_); rintro v1 w1 ⟨rfl, hS⟩; simp only [List.set_cons_zero, List.set_cons_succ, if_true, Bool.false_eq_true, if_false] at hS; refine zn ?_; exact ⟨zh, zh, by first | (rw [if_pos (by omega)]; exact hS.sp) | (rw [if_neg (by omega)]; exact hS.sp)⟩)
       rintro ρ w1 ⟨hA, hρ, hS⟩; obtain ⟨ρ, rfl⟩ := env2 hA hρ
       all_goals (refine Q0 ?_; refine Q2 ?_; refine zm ?_; refine Q1 rfl ?_; refine zl hS ?_; refine Q1 rfl ?_; refine zl hS ?_; refine zR3 (c := Qlk hp1 hS fd) (h := ?_); rintro v1 w1 ⟨rfl, hS⟩; have hS := hS.ns; refine zn ?_; refine Q0 ?_; refine Q2 ?_; refine zm ?_; refine Q1 rfl ?_; refine zl hS ?_; refine Q1 rfl ?_; refine zl hS ?_; refine zR3 (c := Qlk hr1 hS fd) (h := ?_); rintro v1 w1 ⟨rfl, hS⟩; have hS := hS.ns; refine zn ?_)
       refine zM [1, 2, 3, 4, 5] (fun A ρ' w' => Has ρ' A ∧ Has ρ' [] ∧ St cx w' (blk p5 43 [.int .i64 x1.regs, vp1, vr1, vb1] :: jdg p9 vf (orF (orF (orF (orF h (mkF (if x1.regs < 0 ∨ 6 < x1.regs then 1 else 0) (Q2z f))) (mkF (Qm x1.params x1.regs) (Q2z f))) (mkF (Qm x1.results x1.regs) (Q2z f))) (mkF (if x1.blocks.length < 1 ∨ 12 < x1.blocks.length then 2 else 0) (Q2z f))) (Q2z f) :: blk p2 29 [.int .i64 0, .int .i64 0] :: blk p1 24 [vf] :: L)) ?_ ?_
       · skip
         all_goals (refine Q2 ?_; refine zm ?_; refine Q1 rfl ?_; refine zl hS ?_; refine zL ?_)
         all_goals (first | (refine Qq ?_) | (refine Qr ?_) | (refine Qf rfl rfl (fun hc => ?_) (fun hc => ?_)))
         all_goals (refine zm ?_; (first | refine s_gn rfl rfl ?_ | (refine s_gy rfl ?_; refine Q1 rfl ?_)); (first | refine s_gn rfl rfl ?_ | (refine s_gy rfl ?_; refine zl hS ?_)); (first | refine s_gn rfl rfl ?_ | (refine s_gy rfl ?_; refine zL ?_)))
         all_goals (first | refine s_gn rfl rfl ?_ | (refine s_gy rfl ?_; (first | (refine Qz ?_) | (refine QF ?_) | (refine Qh rfl rfl (fun hc => ?_) (fun hc => ?_)))))
         all_goals ((first | (refine zpt ?_) | (refine zpf ?_)); refine zR3 (c := Q1Y (g := _) (by intro _; decide) hS fd) (h := ?_); rintro v1 w1 ⟨rfl, hS⟩; simp only [List.set_cons_zero, List.set_cons_succ, if_true, Bool.false_eq_true, if_false] at hS; refine zn ?_; exact ⟨zh, zh, by first | (rw [if_pos (c := x1.blocks.length < 1 ∨ 12 < x1.blocks.length) (by omega)]; exact hS.sp) | (rw [if_neg (c := x1.blocks.length < 1 ∨ 12 < x1.blocks.length) (by omega)]; exact hS.sp)⟩)
       rintro ρ w1 ⟨hA, hρ, hS⟩; obtain ⟨ρ, rfl⟩ := env2 hA hρ
       refine zM [1, 2, 3, 4, 5] (fun A ρ' w' => Has ρ' A ∧ Has ρ' [] ∧ St cx w' (blk p5 43 [.int .i64 x1.regs, vp1, vr1, vb1] :: jdg p9 vf (orF h (mkF (Qt f x1) (Q2z f))) (Q2z f) :: blk p2 29 [.int .i64 0, .int .i64 0] :: blk p1 24 [vf] :: L)) ?_ ?_
       · skip
         all_goals (refine Q2 ?_)
         refine zKL hS 19 [1, 2, 3, 4, 5] (fun A LL ρ' w' => ∃ (q : Bool), Has ρ' A ∧ Has ρ' [(81, .pointer (some ⟨p9, 0, none⟩)), (99, .bool q)] ∧ (q = true ↔ (f = 0 ∧ (0 < x1.regs ∨ 0 < x1.params.length ∨ ∃ t ∈ x1.results, t.kind ≠ 1))) ∧ St cx w' (LL)) ?_ ?_
         · skip
           all_goals (refine zm ?_; refine zm ?_)
           all_goals (first | (refine Qq ?_) | (refine Qr ?_) | (refine Qf rfl rfl (fun hc => ?_) (fun hc => ?_)))
           all_goals (refine zm ?_; (first | refine s_gn rfl rfl ?_ | (refine s_gy rfl ?_; refine Q1 rfl ?_)); (first | refine s_gn rfl rfl ?_ | (refine s_gy rfl ?_; refine zl hS ?_)))
           all_goals (first | refine s_gn rfl rfl ?_ | (refine s_gy rfl ?_; (first | (refine Qz ?_) | (refine QF ?_) | (refine Qh rfl rfl (fun hc => ?_) (fun hc => ?_)))))
           all_goals ((first | refine s_gn rfl rfl ?_ | (refine s_gy rfl ?_; refine zm ?_)); (first | refine s_gn rfl rfl ?_ | (refine s_gy rfl ?_; refine Q1 rfl ?_)); (first | refine s_gn rfl rfl ?_ | (refine s_gy rfl ?_; refine zl hS ?_)); (first | refine s_gn rfl rfl ?_ | (refine s_gy rfl ?_; refine zL ?_)))
           all_goals (first | refine s_gn rfl rfl ?_ | (refine s_gy rfl ?_; (first | (refine Qz ?_) | (refine QF ?_) | (refine Qh rfl rfl (fun hc => ?_) (fun hc => ?_)))))
           all_goals ((first | refine s_gn rfl rfl ?_ | (refine s_gy rfl ?_; (first | (refine zpt ?_) | (refine zpf ?_)))); (first | refine s_gn rfl rfl ?_ | (refine s_gy rfl ?_; refine zm ?_)); (first | refine s_gn rfl rfl ?_ | (refine s_gy rfl ?_; refine Q1 rfl ?_)); (first | refine s_gn rfl rfl ?_ | (refine s_gy rfl ?_; refine zl hS ?_)))
           all_goals ((first | (refine s_gn rfl rfl ?_) | (refine s_gy rfl ?_; refine zR2 (c := pcont_c hr1 hS) (h := ?_); rintro v1 w1 ⟨qc, rfl, hqc, hS⟩; cases qc)))
           all_goals ((first | refine s_gn rfl rfl ?_ | (refine s_gy rfl ?_; (first | (refine zpt ?_) | (refine zpf ?_)))); (first | (refine zpt ?_) | (refine zpf ?_)); refine Q3M ?_; refine Q1X ?_)
           all_goals (first | (exact ⟨_, zh, zh, by exact ⟨fun _ => ⟨by omega, .inl (by omega)⟩, fun _ => rfl⟩, hS.sp⟩) | (exact ⟨_, zh, zh, by exact ⟨fun _ => ⟨by omega, .inr (.inl (by omega))⟩, fun _ => rfl⟩, hS.sp⟩) | (exact ⟨_, zh, zh, by exact ⟨fun _ => ⟨by omega, .inr (.inr (hqc.1 rfl))⟩, fun _ => rfl⟩, hS.sp⟩) | (exact ⟨_, zh, zh, by exact ⟨fun h => Bool.noConfusion h, fun h => absurd h.1 (by omega)⟩, hS.sp⟩) | (exact ⟨_, zh, zh, by exact ⟨fun h => Bool.noConfusion h, fun h => h.2.elim (fun h => by omega) (fun h => h.elim (fun h => by omega) (fun h => Bool.noConfusion (hqc.2 h)))⟩, hS.sp⟩))
         rintro ρ w1 ⟨q, hA, hρ, hq, hS⟩; obtain ⟨ρ, rfl⟩ := env2 hA hρ
         all_goals (refine zR3 (c := Q1Y (g := _) (by intro _; decide) hS fd) (h := ?_); rintro v1 w1 ⟨rfl, hS⟩; simp only [List.set_cons_zero, List.set_cons_succ, if_true, Bool.false_eq_true, if_false] at hS; refine zn ?_; exact ⟨zh, zh, by rw [← Qoz hq]; exact hS.sp⟩)
       rintro ρ w1 ⟨hA, hρ, hS⟩; obtain ⟨ρ, rfl⟩ := env2 hA hρ
       all_goals (refine Q0 ?_; refine Q2 ?_; refine zm ?_; refine zn ?_; refine Q8 ?_)
       refine zo [1, 2, 3, 4, 5] (fun A ρ' w' => ∃ (b : Nat) (h2 : Flt) (a2 : Int), Has ρ' A ∧ Has ρ' [(6, .int .i64 b)] ∧ (b ≤ x1.blocks.length) ∧ (orF (orF h (mkF (Qt f x1) (Q2z f))) (QD m.funcs.length f x1 0 x1.blocks) = orF h2 (QD m.funcs.length f x1 b (x1.blocks.drop b))) ∧ St cx w' (blk p5 43 [.int .i64 x1.regs, vp1, vr1, vb1] :: jdg p9 vf h2 a2 :: blk p2 29 [.int .i64 0, .int .i64 0] :: blk p1 24 [vf] :: L)) (fun ρ' _ => (x1.blocks.length - iv (ρ' 6)).toNat) ?_ ?_
       · exact ⟨0, _, _, zh, zh, (by omega), by rw [List.drop_zero], hS.sp⟩
       rintro ρ w1 ⟨b, h2, a2, hA, hρ, hb, hd2, hS⟩; obtain ⟨ρ, rfl⟩ := env2 hA hρ
       unfold Q56
       all_goals (refine Q0 ?_; refine Q0 ?_; refine Q2 ?_; refine zm ?_; refine Q1 rfl ?_; refine zl hS ?_; refine zL ?_)
       all_goals (first | (refine Q1z ?_) | (refine Q1A ?_) | (refine QK rfl rfl (fun hc => ?_) (fun hc => ?_)))
       all_goals (refine zm ?_; (first | refine s_gn rfl rfl ?_ | (refine s_gy rfl ?_; refine zm ?_)); (first | refine s_gn rfl rfl ?_ | (refine s_gy rfl ?_; refine Q1L rfl ?_)); (first | refine s_gn rfl rfl ?_ | (refine s_gy rfl ?_; refine Q1 rfl ?_)); (first | refine s_gn rfl rfl ?_ | (refine s_gy rfl ?_; (first | refine Q1 rfl ?_ | refine QS rfl ?_))); (first | refine s_gn rfl rfl ?_ | (refine s_gy rfl ?_; refine zl hS ?_)))
       all_goals (first | refine s_gn rfl rfl ?_ | (refine s_gy rfl ?_; (first | (refine Qq ?_) | (refine Qr ?_) | (refine Qf rfl rfl (fun hc => ?_) (fun hc => ?_)))))
       all_goals ((first | (refine zpt ?_) | (refine zpf ?_)); refine zn ?_)
       all_goals
         first
         | (refine Q5 rfl ?_ -- Q2X c1
            all_goals (refine zsk ?_; refine Q0 ?_; refine Q8 ?_; obtain ⟨y, hy⟩ : ∃ y, x1.blocks[b]? = some y := ⟨_, List.getElem?_eq_getElem (by omega)⟩; have hsy := hsx.2.2.2 y (List.mem_of_getElem? hy); refine Q2 ?_; refine zm ?_; refine zm ?_; refine zm ?_; refine zR3 (c := pblock_c hx1 hy (by omega) (by omega) hsy.2.1 hf hS fd) (h := ?_); rintro v1 w1 ⟨rfl, a3, hS⟩; have hS := hS.ns; refine zn ?_; refine Q2 ?_; refine zm ?_; refine zad ?_; refine zm ?_; refine zn ?_)
            all_goals (exact ⟨⟨b + 1, _, _, zh, zh, (by omega), by rw [hd2, Q7 hy, QD, Q36], hS.sp⟩, Qk (by omega)⟩))
         | (refine Q4 rfl ?_ -- Q2X c1
            all_goals (refine zex ?_; (first | (rw [List.drop_of_length_le (by omega), QD, Qnb (b := (0, 0)) rfl] at hd2) | (rw [Q3F (a := h2) (by assumption)] at hd2)); refine Q2 ?_; refine zm ?_; refine zad ?_; refine zm ?_; refine zn ?_)
            all_goals (exact ⟨⟨f + 1, h2, a2, zh, zh, (by omega), by rw [hd, Q7 hx1, QZ, ← Q36, show orF h (Q1E m.funcs.length f x1) = h2 from (by unfold Q1E; rw [← Q36, hd2])], hS.sp⟩, Qk (by omega)⟩)))
    | (refine Q4 rfl ?_ -- Q2X c0
       all_goals (refine zex ?_; (first | (rw [List.drop_of_length_le (by omega), QZ, Qnb (b := (0, 0)) rfl] at hd) | (rw [Q3F (a := h) (by assumption)] at hd)); refine Q0 ?_; refine Q2 ?_; refine zm ?_; refine Q1L rfl ?_; refine Q1 rfl ?_; refine zv hS ?_; refine zsn hS ?_; intro w1 hS; have hS := hS.ns; refine zn ?_; refine zr ?_; refine Q2c vw (Qe (n := 2) (by kernel_rfl) (by kernel_rfl) (hS.blkAt fd) (by rfl) (by rfl)) ?_)
       all_goals (refine ⟨_, rfl, ?_, hS.sp⟩; rw [hd]; rfl; done))
end Go.Proofs.YtjecflbbcnocdaaGreatDoor
namespace Go.Proofs.YtjecflbbcnocdaaGreatDoor
open Go.Lir
set_option maxHeartbeats 1000000
attribute [local irreducible] LC.wp Q3 QW Q13 retQ Q2i LO.wp Qv Calls
set_option linter.unusedSimpArgs false
set_option linter.unusedVariables false
/-- What Print gives: the text, the fault. -/
def Q1v (m : Module) : List UInt8 × Flt :=
  if m.fault.1 ≠ 0 then ([], m.fault) else if m.small = false then ([], (8, -1)) else if 40000 < m.txt.length then ([], (2, -1)) else (m.txt, (0, 0))
theorem pr_1 {m : Module} (h : m.fault.1 ≠ 0) : Q1v m = ([], m.fault) := if_pos h
theorem pr_2 {m : Module} (h : m.fault.1 = 0) (h2 : m.small = false) : Q1v m = ([], (8, -1)) := by unfold Q1v; rw [if_neg (fun h9 => h9 h), if_pos h2]
theorem pr_3 {m : Module} (h : m.fault.1 = 0) (h2 : m.small = true) (h3 : 40000 < m.txt.length) : Q1v m = ([], (2, -1)) := by unfold Q1v; rw [if_neg (fun h9 => h9 h), if_neg (by rw [h2]; decide), if_pos h3]
theorem pr_4 {m : Module} (h : m.fault.1 = 0) (h2 : m.small = true) (h3 : ¬ 40000 < m.txt.length) : Q1v m = (m.txt, (0, 0)) := by unfold Q1v; rw [if_neg (fun h9 => h9 h), if_neg (by rw [h2]; decide), if_neg h3]
attribute [local irreducible] Lib.itoa Lib.join Q3c QV Ins.txt Tail.txt To.txt Module.txt Module.fault Module.small
variable {cx : Cx} {w : World} {L : List Res}
theorem has_funs {m : Module} (h : m.fault.1 = 0) : 0 < m.funcs.length := by
  apply Classical.byContradiction
  intro h9
  unfold Module.fault at h
  rw [if_pos (by omega), Q3F (by rw [Q1C]; decide), Q1C] at h
  cases h
theorem Qok {m : Module} (hp : m.Pr) : m.txt.length ≤ 280000000 := by
  have := Q7l hp.2
  have := hp.1
  unfold Module.txt; omega
theorem Qoe {m : Module} {cs : List Value} (hsh : m.Short) (hr : m.InR) (hx : modR.at cx cs m) (hT : PowT cx) (hS : St cx w L) :
    Rets Tryz.prog Q1t [.agg ⟨cs⟩] w fun u w' => u = .tuple #[strV (Q1v m).1, .agg ⟨[.int .i64 (Q1v m).2.1, .int .i64 (Q1v m).2.2]⟩] ∧ St cx w' L := by
  have hx' := hx
  obtain ⟨vf, rfl, hf⟩ := Q1B hx
  have hpr := fun h => mod_pr hr (m := m) h
  all_goals refine Qag ?_
  all_goals (unfold render_Print_lc; refine Q0 ?_; refine Q2 ?_; refine zb hS ?_; intro p1 w1 hS; refine zm ?_; refine Qc hS ?_; intro p3 w1 hS; refine zn ?_; refine Q0 ?_; refine Q0 ?_; refine Q2 ?_; refine zv hS ?_; refine zR1 (c := pcheck_c hsh hx' hS) (h := ?_); rintro v1 w1 ⟨rfl, hS⟩; unfold fltV; refine Qc hS ?_; intro p4 w1 hS; refine zsn hS ?_; intro w1 hS; have hS := hS.ns; refine zn ?_; refine Q0 ?_; refine Q2 ?_; refine Q1 rfl ?_; refine zl hS ?_)
  all_goals (first | (refine Q1m ?_) | (refine Q1n ?_) | (refine Qs rfl rfl (fun hc => ?_) (fun hc => ?_)))
  all_goals (refine zn ?_)
  all_goals
    first
    | (refine Q5 rfl ?_ -- Q1t c0
       all_goals (refine Q0 ?_; refine zD [(0, none), (1, none), (2, some none)] ?_; have hS := hS.drew; refine zv hS ?_; refine zm ?_; refine zsn hS ?_; intro w1 hS; have hS := hS.ns; refine zn ?_; refine zr ?_; refine Q4f vw vw (Qe (n := 2) (by kernel_rfl) (by kernel_rfl) (hS.blkAt fd) (by rfl) (by rfl)) ?_)
       all_goals (exact ⟨_, rfl, (by rw [pr_1 (by omega)]; rfl), hS.sp⟩))
    | (refine Q4 rfl ?_ -- Q1t c0
       all_goals refine zsk ?_)
  all_goals (refine Q0 ?_; refine Q0 ?_; refine Q2 ?_; refine zv hS ?_)
  all_goals (refine zR1 (c := Qoj hx' hS) (h := ?_); rintro v1 w1 ⟨rfl, hS⟩; cases hq : m.small)
  all_goals (refine Q1G rfl ?_; refine zn ?_)
  all_goals
    first
    | (refine Q5 rfl ?_ -- Q1t c1
       all_goals (refine Q0 ?_; refine Q2 ?_; refine zb2 [_, _] ?_; refine zm ?_; refine zsn hS ?_; intro w1 hS; have hS := hS.ns; refine zn ?_; refine zr ?_; refine Q4f vw vw (Qe (n := 2) (by kernel_rfl) (by kernel_rfl) (hS.blkAt fd) (by rfl) (by rfl)) ?_)
       all_goals ((first | exact ⟨_, rfl, (by rw [pr_1 (by omega)]; rfl), hS.sp⟩ | exact ⟨_, rfl, (by rw [pr_2 (by omega) hq]; rfl), hS.sp⟩)))
    | (refine Q4 rfl ?_ -- Q1t c1
       all_goals refine zsk ?_)
  all_goals (refine Q0 ?_; refine Q2 ?_; refine zv hS ?_; have hp := hpr (by omega); have hml := Qok hp; refine zR1 (c := whole_c hp (has_funs (by omega)) hx' hT hS) (h := ?_); rintro v1 w1 ⟨rfl, hS⟩; refine zm ?_; refine zn ?_; refine Q0 ?_; refine Q0 ?_; refine Q2 ?_; refine zm ?_; refine Qle rfl ?_)
  all_goals (first | (refine Qz ?_) | (refine QF ?_) | (refine Qh rfl rfl (fun hc => ?_) (fun hc => ?_)))
  all_goals (refine zn ?_)
  all_goals
    first
    | (refine Q5 rfl ?_ -- Q1t c2
       all_goals (refine Q0 ?_; refine Q2 ?_; refine zb2 [_, _] ?_; refine zm ?_; refine zsn hS ?_; intro w1 hS; have hS := hS.ns; refine zn ?_; refine zr ?_; refine Q4f vw vw (Qe (n := 2) (by kernel_rfl) (by kernel_rfl) (hS.blkAt fd) (by rfl) (by rfl)) ?_)
       all_goals ((first | exact ⟨_, rfl, (by rw [pr_1 (by omega)]; rfl), hS.sp⟩ | exact ⟨_, rfl, (by rw [pr_2 (by omega) hq]; rfl), hS.sp⟩ | exact ⟨_, rfl, (by rw [pr_3 (by omega) hq (by omega)]; rfl), hS.sp⟩)))
    | (refine Q4 rfl ?_ -- Q1t c2
       all_goals refine zsk ?_)
  all_goals (refine Q0 ?_; refine Q2 ?_; refine zm ?_; refine zb0 [_, _] ?_; refine zm ?_; refine zsn hS ?_; intro w1 hS; have hS := hS.ns; refine zn ?_; refine zr ?_; refine Q4f vw vw (Qe (n := 2) (by kernel_rfl) (by kernel_rfl) (hS.blkAt fd) (by rfl) (by rfl)) ?_; (first | exact ⟨_, rfl, (by rw [pr_1 (by omega)]; rfl), hS.sp⟩ | exact ⟨_, rfl, (by rw [pr_2 (by omega) hq]; rfl), hS.sp⟩ | exact ⟨_, rfl, (by rw [pr_3 (by omega) hq (by omega)]; rfl), hS.sp⟩ | exact ⟨_, rfl, (by rw [pr_4 (by omega) hq (by omega)]; rfl), hS.sp⟩))
theorem Qff {T : Nat} {l : List Int} {b2 n : Nat} (hS : St cx w (blk b2 T (l.map fun n => Value.int .i64 n) :: L)) (hn : l.length = n) (hm : n ≤ 10) :
    Rets Tryz.prog QaR [.slice (some ⟨b2, 0, none⟩) n n] w fun u w' => u = .bool (smallL l) ∧ St cx w' L := by
  have hS2 : St cx w (sl T 1 (.slice (some ⟨b2, 0, none⟩) n n) (l.map QgK) :: L) := St.slOf hS (Q7j l) (by intro c hc; obtain ⟨x, _, rfl⟩ := List.mem_map.1 hc; rfl) (by rw [List.length_map]; exact hn)
  obtain ⟨c7, hle7, hS, hk7, hback⟩ := St.lend (r := intR) hS2 (l := l) ⟨by simp, fun m x hx => ⟨QgK x, by rw [List.getElem?_map, hx]; rfl, rfl⟩⟩ rfl (by omega)
  exact (Q3e hk7 hS).mono fun _ _ ⟨h1, h2⟩ => ⟨h1, (hback h2).drop⟩
theorem QmY (t : Tail) : t.small = (smallL t.args && (smallL [t.a] && (smallL t.yes.regs && (smallL t.yes.args && (smallL t.no.regs && smallL t.no.args))))) := by
  unfold Tail.small To.small
  have e : smallL [t.a] = smallN t.a := by simp [smallL]
  rw [e]
  cases smallN t.a <;> cases smallL t.args <;> simp [Bool.and_assoc]
theorem Qos (x : Ins) : x.small = (smallL [x.a, x.b, x.c, x.k] && (smallL x.regs && smallL x.args)) := by unfold Ins.small; rw [Bool.and_assoc]
theorem Qn7 {m : Module} {cs : List Value} (hsh : m.Short) (hr : m.InR) (hx : modR.at cx cs m) (hT : PowT cx) (hS : St cx w L) :
    Rets Tryz.prog Q2J [.agg ⟨cs⟩] w fun u w' => u = .tuple #[strV (Q1v m).1, .agg ⟨[.int .i64 (Q1v m).2.1, .int .i64 (Q1v m).2.2]⟩] ∧ St cx w' L := by
  have hx' := hx
  obtain ⟨vf, rfl, hf⟩ := Q1B hx
  have hpr := fun h => mod_pr hr (m := m) h
  obtain ⟨l, hl⟩ : ∃ l, m.funcs = l := ⟨_, rfl⟩
  have hms : m.small = l.all Fun.small := by rw [← hl]; unfold Module.small; rfl
  rw [hl] at hf
  have hfl := hf.len
  all_goals refine Qku ?_
  all_goals (unfold R_Printed_lc; refine Q0 ?_; refine Q2 ?_; refine zb hS ?_; intro p1 w1 hS; refine zm ?_; refine Qc hS ?_; intro p3 w1 hS; refine zn ?_; refine Q0 ?_; refine Q0 ?_; refine Q2 ?_; refine zv hS ?_; refine zR1 (c := rcheck_c hsh hx' hS) (h := ?_); rintro v1 w1 ⟨rfl, hS⟩; unfold fltV; refine Qc hS ?_; intro p4 w1 hS; refine zsn hS ?_; intro w1 hS; have hS := hS.ns; refine zn ?_; refine Q0 ?_; refine Q2 ?_; refine Q1 rfl ?_; refine zl hS ?_)
  all_goals (first | (refine Q1m ?_) | (refine Q1n ?_) | (refine Qs rfl rfl (fun hc => ?_) (fun hc => ?_)))
  all_goals (refine zn ?_)
  all_goals
    first
    | (refine Q5 rfl ?_ -- Q2J c0
       all_goals (refine Q0 ?_; refine zD [(0, none), (1, none), (2, some none)] ?_; have hS := hS.drew; refine zv hS ?_; refine zm ?_; refine zsn hS ?_; intro w1 hS; have hS := hS.ns; refine zn ?_; refine zr ?_; refine Q4f vw vw (Qe (n := 2) (by kernel_rfl) (by kernel_rfl) (hS.blkAt fd) (by rfl) (by rfl)) ?_)
       all_goals (exact ⟨_, rfl, (by rw [pr_1 (by omega)]; rfl), hS.sp⟩))
    | (refine Q4 rfl ?_ -- Q2J c0
       all_goals refine zsk ?_)
  all_goals (refine Q0 ?_; refine Q0 ?_; refine Q2 ?_; refine zm ?_; refine zn ?_; refine Q8 ?_)
  refine zo [1, 3] (fun A ρ' w' => ∃ (j : Nat), Has ρ' A ∧ Has ρ' [(5, .int .i64 j)] ∧ (j ≤ l.length) ∧ (m.small = (l.drop j).all Fun.small) ∧ St cx w' (blk p4 29 [.int .i64 m.fault.1, .int .i64 m.fault.2] :: blk p3 29 [.int .i64 0, .int .i64 0] :: blk p1 24 [vf] :: L)) (fun ρ' _ => (l.length - iv (ρ' 5)).toNat) ?_ ?_
  · exact ⟨0, zh, zh, (by omega), by rw [List.drop_zero, hms], hS.sp⟩
  rintro ρ w1 ⟨j, hA, hρ, hj, hd, hS⟩; obtain ⟨ρ, rfl⟩ := env2 hA hρ
  unfold Q82
  all_goals (refine Q0 ?_; refine Q0 ?_; refine Q2 ?_; refine zm ?_; refine Q1 rfl ?_; refine zl hS ?_; refine zL ?_; refine Qp rfl rfl ?_; refine zn ?_)
  refine Ql rfl (fun hc => ?_) (fun hc => ?_)
  · skip
    all_goals (refine zsk ?_; refine Q0 ?_; refine Q8 ?_; refine Q0 ?_; obtain ⟨y1, hy1⟩ : ∃ x, l[j]? = some x := ⟨_, List.getElem?_eq_getElem (by omega)⟩; refine Q2 ?_; refine zm ?_; refine zn ?_; refine Q8 ?_)
    refine zo [1, 3, 5] (fun A ρ' w' => ∃ (j1 : Nat), Has ρ' A ∧ Has ρ' [(6, .int .i64 j1)] ∧ (j1 ≤ y1.blocks.length) ∧ (m.small = ((y1.blocks.drop j1).all Block.small && (l.drop (j + 1)).all Fun.small)) ∧ St cx w' (blk p4 29 [.int .i64 m.fault.1, .int .i64 m.fault.2] :: blk p3 29 [.int .i64 0, .int .i64 0] :: blk p1 24 [vf] :: L)) (fun ρ' _ => (y1.blocks.length - iv (ρ' 6)).toNat) ?_ ?_
    · exact ⟨0, zh, zh, (by omega), by rw [hd, Qno hy1, List.drop_zero]; rfl, hS.sp⟩
    rintro ρ w1 ⟨j1, hA, hρ, hj1, hd1, hS⟩; obtain ⟨ρ, rfl⟩ := env2 hA hρ
    unfold Q81
    all_goals (refine Q0 ?_; refine Q0 ?_; refine Q2 ?_; refine zm ?_; refine Q1 rfl ?_; refine zl hS ?_; refine zm ?_; refine zi ?_; intro b1 o1 cs1 x1 hat1 hx1 he1; obtain ⟨vp1, vr1, vb1, rfl, hp1, hr1, hb1⟩ := QQ he1; rw [Option.some.inj (hx1.symm.trans hy1)] at hb1; (first | refine Q1 rfl ?_ | refine QS rfl ?_); (first | (refine zl hS ?_) | (refine zlk hS ?_) | (refine zlj hS ?_)); refine zL ?_; refine Qp rfl rfl ?_; refine zn ?_)
    refine Ql rfl (fun hc => ?_) (fun hc => ?_)
    · skip
      all_goals (refine zsk ?_; refine Q0 ?_; refine Q8 ?_; refine Q0 ?_; have hbl1 := hb1.len; refine Q2 ?_; refine Q1 rfl ?_; refine zl hS ?_; refine zm ?_; refine zi ?_; intro b2 o2 cs2 x2 hat2 hx2 he2; obtain ⟨vp2, vr2, vb2, rfl, hp2, hr2, hb2⟩ := QQ he2; rw [Option.some.inj (hx2.symm.trans hy1)] at hb2; (first | refine Q1 rfl ?_ | refine QS rfl ?_); (first | (refine zl hS ?_) | (refine zlk hS ?_) | (refine zlj hS ?_)); refine zm ?_; refine zi ?_; intro b3 o3 cs3 x3 hat3 hx3 he3; obtain ⟨vp3, vc3, ve31, ve32, ve33, ve34, ve35, rfl, hp3, hc3, he31, he32, he33, he34, he35⟩ := Q12 he3; (first | (refine zv hS ?_) | (refine zvk hS ?_)); refine Qc hS ?_; intro p7 w1 hS; refine zsn hS ?_; intro w1 hS; have hS := hS.ns; refine zn ?_)
      refine zM [1, 3, 5, 6, 7] (fun A ρ' w' => ∃ (q0 : Bool), Has ρ' A ∧ Has ρ' [(8, .bool q0)] ∧ (q0 = x3.fin.small) ∧ St cx w' (blk p7 52 [.int .i64 x3.regs, vp3, vc3, .int .i64 x3.fin.op, .int .i64 x3.fin.a, .int .i64 x3.fin.yes.block, ve31, ve32, .int .i64 x3.fin.no.block, ve33, ve34, ve35] :: blk p4 29 [.int .i64 m.fault.1, .int .i64 m.fault.2] :: blk p3 29 [.int .i64 0, .int .i64 0] :: blk p1 24 [vf] :: L)) ?_ ?_
      · skip
        all_goals (refine Q2 ?_; refine Q1 rfl ?_; (first | refine Q1 rfl ?_ | refine QS rfl ?_); refine zl hS ?_)
        all_goals (refine zR1 (c := Q3e he35 hS) (h := ?_); rintro v1 w1 ⟨rfl, hS⟩; cases g1 : smallL x3.fin.args)
        all_goals (refine zm ?_; (first | refine s_gn rfl rfl ?_ | (refine s_gy rfl ?_; refine Q1 rfl ?_)); (first | refine s_gn rfl rfl ?_ | (refine s_gy rfl ?_; (first | refine Q1 rfl ?_ | refine QS rfl ?_))); (first | refine s_gn rfl rfl ?_ | (refine s_gy rfl ?_; refine zl hS ?_)); (first | refine s_gn rfl rfl ?_ | (refine s_gy rfl ?_; refine zB1 hS [_] ?_; intro b1 w1 hS)))
        all_goals (first | refine s_gn rfl rfl ?_ | (refine s_gy rfl ?_; refine zR1 (c := Qff (l := [x3.fin.a]) hS rfl (by show 1 ≤ 10; omega)) (h := ?_); rintro v1 w1 ⟨rfl, hS⟩; cases g2 : smallL [x3.fin.a]))
        all_goals ((first | (refine zpt ?_) | (refine zpf ?_)); refine zm ?_; (first | refine s_gn rfl rfl ?_ | (refine s_gy rfl ?_; refine Q1 rfl ?_)); (first | refine s_gn rfl rfl ?_ | (refine s_gy rfl ?_; (first | refine Q1 rfl ?_ | refine QS rfl ?_))); (first | refine s_gn rfl rfl ?_ | (refine s_gy rfl ?_; (first | refine Q1 rfl ?_ | refine QS rfl ?_))); (first | refine s_gn rfl rfl ?_ | (refine s_gy rfl ?_; refine zl hS ?_)))
        all_goals (first | refine s_gn rfl rfl ?_ | (refine s_gy rfl ?_; refine zR1 (c := Q3e he31 hS) (h := ?_); rintro v1 w1 ⟨rfl, hS⟩; cases g3 : smallL x3.fin.yes.regs))
        all_goals ((first | (refine zpt ?_) | (refine zpf ?_)); refine zm ?_; (first | refine s_gn rfl rfl ?_ | (refine s_gy rfl ?_; refine Q1 rfl ?_)); (first | refine s_gn rfl rfl ?_ | (refine s_gy rfl ?_; (first | refine Q1 rfl ?_ | refine QS rfl ?_))); (first | refine s_gn rfl rfl ?_ | (refine s_gy rfl ?_; (first | refine Q1 rfl ?_ | refine QS rfl ?_))); (first | refine s_gn rfl rfl ?_ | (refine s_gy rfl ?_; refine zl hS ?_)))
        all_goals (first | refine s_gn rfl rfl ?_ | (refine s_gy rfl ?_; refine zR1 (c := Q3e he32 hS) (h := ?_); rintro v1 w1 ⟨rfl, hS⟩; cases g4 : smallL x3.fin.yes.args))
        all_goals ((first | (refine zpt ?_) | (refine zpf ?_)); refine zm ?_; (first | refine s_gn rfl rfl ?_ | (refine s_gy rfl ?_; refine Q1 rfl ?_)); (first | refine s_gn rfl rfl ?_ | (refine s_gy rfl ?_; (first | refine Q1 rfl ?_ | refine QS rfl ?_))); (first | refine s_gn rfl rfl ?_ | (refine s_gy rfl ?_; (first | refine Q1 rfl ?_ | refine QS rfl ?_))); (first | refine s_gn rfl rfl ?_ | (refine s_gy rfl ?_; refine zl hS ?_)))
        all_goals (first | refine s_gn rfl rfl ?_ | (refine s_gy rfl ?_; refine zR1 (c := Q3e he33 hS) (h := ?_); rintro v1 w1 ⟨rfl, hS⟩; cases g5 : smallL x3.fin.no.regs))
        all_goals ((first | (refine zpt ?_) | (refine zpf ?_)); refine zm ?_; (first | refine s_gn rfl rfl ?_ | (refine s_gy rfl ?_; refine Q1 rfl ?_)); (first | refine s_gn rfl rfl ?_ | (refine s_gy rfl ?_; (first | refine Q1 rfl ?_ | refine QS rfl ?_))); (first | refine s_gn rfl rfl ?_ | (refine s_gy rfl ?_; (first | refine Q1 rfl ?_ | refine QS rfl ?_))); (first | refine s_gn rfl rfl ?_ | (refine s_gy rfl ?_; refine zl hS ?_)))
        all_goals (first | refine s_gn rfl rfl ?_ | (refine s_gy rfl ?_; refine zR1 (c := Q3e he34 hS) (h := ?_); rintro v1 w1 ⟨rfl, hS⟩; cases g6 : smallL x3.fin.no.args))
        all_goals ((first | (refine zpt ?_) | (refine zpf ?_)); refine zm ?_; refine zn ?_; exact ⟨_, zh, zh, by rw [QmY]; first | (rw [g1, g2, g3, g4, g5, g6]; rfl) | (rw [g1, g2, g3, g4, g5]; simp) | (rw [g1, g2, g3, g4]; simp) | (rw [g1, g2, g3]; simp) | (rw [g1, g2]; simp) | (rw [g1]; simp), hS.sp⟩)
      rintro ρ w1 ⟨q0, hA, hρ, hq0, hS⟩; obtain ⟨ρ, rfl⟩ := env2 hA hρ
      all_goals (refine Q0 ?_; refine Q0 ?_; refine Q2 ?_; refine zm ?_; refine zn ?_; refine Q8 ?_; have hcl := hc3.len)
      refine zo [1, 3, 5, 6, 7] (fun A ρ' w' => ∃ (j2 : Nat) (q : Bool), Has ρ' A ∧ Has ρ' [(8, .bool q), (9, .int .i64 j2)] ∧ (j2 ≤ x3.code.length) ∧ (m.small = ((q && (x3.code.drop j2).all Ins.small) && ((y1.blocks.drop (j1 + 1)).all Block.small && (l.drop (j + 1)).all Fun.small))) ∧ St cx w' (blk p7 52 [.int .i64 x3.regs, vp3, vc3, .int .i64 x3.fin.op, .int .i64 x3.fin.a, .int .i64 x3.fin.yes.block, ve31, ve32, .int .i64 x3.fin.no.block, ve33, ve34, ve35] :: blk p4 29 [.int .i64 m.fault.1, .int .i64 m.fault.2] :: blk p3 29 [.int .i64 0, .int .i64 0] :: blk p1 24 [vf] :: L)) (fun ρ' _ => (x3.code.length - iv (ρ' 9)).toNat) ?_ ?_
      · exact ⟨0, q0, zh, zh, (by omega), by rw [hd1, Qno hx3, List.drop_zero, hq0]; unfold Block.small; rw [Bool.and_comm x3.fin.small, Bool.and_assoc], hS.sp⟩
      rintro ρ w1 ⟨j2, q, hA, hρ, hj2, hd2, hS⟩; obtain ⟨ρ, rfl⟩ := env2 hA hρ
      unfold Q6W
      all_goals (refine Q0 ?_; refine Q0 ?_; refine Q2 ?_; refine zm ?_; refine Q1 rfl ?_; refine zl hS ?_; refine zL ?_; refine Qp rfl rfl ?_; refine zn ?_)
      refine Ql rfl (fun hc => ?_) (fun hc => ?_)
      · skip
        all_goals (refine zsk ?_; refine Q0 ?_; refine Q8 ?_; refine Q0 ?_; refine Q2 ?_; refine Q1 rfl ?_; refine zl hS ?_; refine zm ?_; refine zi ?_; intro b4 o4 cs4 x4 hat4 hx4 he4; obtain ⟨vr4, va4, rfl, hr4, ha4⟩ := Q1u he4; (first | (refine zv hS ?_) | (refine zvk hS ?_)); refine Qc hS ?_; intro p10 w1 hS; refine zsn hS ?_; intro w1 hS; have hS := hS.ns; refine zn ?_)
        all_goals (cases q)
        all_goals (refine Q2 ?_; refine zm ?_; refine zm ?_; (first | refine s_gn rfl rfl ?_ | (refine s_gy rfl ?_; refine Q1 rfl ?_)); (first | refine s_gn rfl rfl ?_ | (refine s_gy rfl ?_; refine zl hS ?_)); (first | refine s_gn rfl rfl ?_ | (refine s_gy rfl ?_; refine Q1 rfl ?_)); (first | refine s_gn rfl rfl ?_ | (refine s_gy rfl ?_; refine zl hS ?_)); (first | refine s_gn rfl rfl ?_ | (refine s_gy rfl ?_; refine Q1 rfl ?_)); (first | refine s_gn rfl rfl ?_ | (refine s_gy rfl ?_; refine zl hS ?_)); (first | refine s_gn rfl rfl ?_ | (refine s_gy rfl ?_; refine Q1 rfl ?_)); (first | refine s_gn rfl rfl ?_ | (refine s_gy rfl ?_; refine zl hS ?_)); (first | refine s_gn rfl rfl ?_ | (refine s_gy rfl ?_; refine zB4 hS [_, _, _, _] ?_; intro b1 w1 hS)))
        all_goals (first | refine s_gn rfl rfl ?_ | (refine s_gy rfl ?_; refine zR1 (c := Qff (l := [x4.a, x4.b, x4.c, x4.k]) hS rfl (by show 4 ≤ 10; omega)) (h := ?_); rintro v1 w1 ⟨rfl, hS⟩; cases g7 : smallL [x4.a, x4.b, x4.c, x4.k]))
        all_goals ((first | (refine zpt ?_) | (refine zpf ?_)); refine zm ?_; (first | refine s_gn rfl rfl ?_ | (refine s_gy rfl ?_; refine Q1 rfl ?_)); (first | refine s_gn rfl rfl ?_ | (refine s_gy rfl ?_; refine zl hS ?_)))
        all_goals (first | refine s_gn rfl rfl ?_ | (refine s_gy rfl ?_; refine zR1 (c := Q3e hr4 hS) (h := ?_); rintro v1 w1 ⟨rfl, hS⟩; cases g8 : smallL x4.regs))
        all_goals ((first | (refine zpt ?_) | (refine zpf ?_)); refine zm ?_; (first | refine s_gn rfl rfl ?_ | (refine s_gy rfl ?_; refine Q1 rfl ?_)); (first | refine s_gn rfl rfl ?_ | (refine s_gy rfl ?_; refine zl hS ?_)))
        all_goals (first | refine s_gn rfl rfl ?_ | (refine s_gy rfl ?_; refine zR1 (c := Q3e ha4 hS) (h := ?_); rintro v1 w1 ⟨rfl, hS⟩; cases g9 : smallL x4.args))
        all_goals ((first | (refine zpt ?_) | (refine zpf ?_)); refine zm ?_; refine zn ?_; refine Q2 ?_; refine zm ?_; refine zad ?_; refine zm ?_; refine zn ?_; exact ⟨⟨j2 + 1, _, zh, zh, (by omega), by rw [hd2, Qno hx4, Qos]; first | (rw [g7, g8, g9]; simp) | (rw [g7, g8]; simp) | (rw [g7]; simp) | simp, hS.sp⟩, Qk (by omega)⟩)
      · skip
        all_goals (refine zex ?_; refine Q0 ?_)
        all_goals (cases q)
        all_goals (refine Q2 ?_; refine zm ?_; refine Q1G rfl ?_; refine zn ?_)
        all_goals
          first
          | (refine Q5 rfl ?_ -- Q2J c4
             all_goals (have hq : m.small = false := (by rw [hd2]; rfl); refine Q0 ?_; refine Q2 ?_; refine zR2 (c := rF_c hS) (h := ?_); rintro v1 w1 ⟨rfl, hS⟩; refine zm ?_; refine zsn hS ?_; intro w1 hS; have hS := hS.ns; refine zn ?_; refine zr ?_; refine Q4f vw vw (Qe (n := 2) (by kernel_rfl) (by kernel_rfl) (hS.blkAt fd) (by rfl) (by rfl)) ?_)
             all_goals ((first | exact ⟨_, rfl, (by rw [pr_1 (by omega)]; rfl), hS.sp⟩ | exact ⟨_, rfl, (by rw [pr_2 (by omega) hq]; rfl), hS.sp⟩)))
          | (refine Q4 rfl ?_ -- Q2J c4
             all_goals refine zsk ?_)
        all_goals (refine Q2 ?_; refine zm ?_; refine zad ?_; refine zm ?_; refine zn ?_; exact ⟨⟨j1 + 1, zh, zh, (by omega), by rw [hd2, QlM (by omega)]; rfl, hS.sp⟩, Qk (by omega)⟩)
    · skip
      all_goals (refine zex ?_; refine Q2 ?_; refine zm ?_; refine zad ?_; refine zm ?_; refine zn ?_; exact ⟨⟨j + 1, zh, zh, (by omega), by rw [hd1, QlM (by omega), Bool.true_and], hS.sp⟩, Qk (by omega)⟩)
  · skip
    all_goals (refine zex ?_; refine Q0 ?_; have hq : m.small = true := (by rw [hd, QlM (by omega)]); have hp := hpr (by omega); have hml := Qok hp; refine Q2 ?_; refine zv hS ?_; refine zR1 (c := rmod_txt hp hx' hT hS) (h := ?_); rintro v1 w1 ⟨rfl, hS⟩; refine zm ?_; refine zn ?_; refine Q0 ?_; refine Q0 ?_; refine Q2 ?_; refine zm ?_; refine Qle rfl ?_)
    all_goals (first | (refine Qz ?_) | (refine QF ?_) | (refine Qh rfl rfl (fun hc => ?_) (fun hc => ?_)))
    all_goals (refine zn ?_)
    all_goals
      first
      | (refine Q5 rfl ?_ -- Q2J c5
         all_goals (refine Q0 ?_; refine Q2 ?_; refine zR2 (c := rF_c hS) (h := ?_); rintro v1 w1 ⟨rfl, hS⟩; refine zm ?_; refine zsn hS ?_; intro w1 hS; have hS := hS.ns; refine zn ?_; refine zr ?_; refine Q4f vw vw (Qe (n := 2) (by kernel_rfl) (by kernel_rfl) (hS.blkAt fd) (by rfl) (by rfl)) ?_)
         all_goals ((first | exact ⟨_, rfl, (by rw [pr_1 (by omega)]; rfl), hS.sp⟩ | exact ⟨_, rfl, (by rw [pr_2 (by omega) hq]; rfl), hS.sp⟩ | exact ⟨_, rfl, (by rw [pr_3 (by omega) hq (by omega)]; rfl), hS.sp⟩)))
      | (refine Q4 rfl ?_ -- Q2J c5
         all_goals refine zsk ?_)
    all_goals (refine Q0 ?_; refine Q2 ?_; refine zm ?_; refine zb0 [_, _] ?_; refine zm ?_; refine zsn hS ?_; intro w1 hS; have hS := hS.ns; refine zn ?_; refine zr ?_; refine Q4f vw vw (Qe (n := 2) (by kernel_rfl) (by kernel_rfl) (hS.blkAt fd) (by rfl) (by rfl)) ?_; (first | exact ⟨_, rfl, (by rw [pr_1 (by omega)]; rfl), hS.sp⟩ | exact ⟨_, rfl, (by rw [pr_2 (by omega) hq]; rfl), hS.sp⟩ | exact ⟨_, rfl, (by rw [pr_3 (by omega) hq (by omega)]; rfl), hS.sp⟩ | exact ⟨_, rfl, (by rw [pr_4 (by omega) hq (by omega)]; rfl), hS.sp⟩))
end Go.Proofs.YtjecflbbcnocdaaGreatDoor
namespace Go.Lir
section
variable {P : Program} {l : List GO} {Q : QT} {ρ : Env} {w : World}
/-- A field that holds an integer. -/
def IntF (P : Program) (f : Field) (i : Nat) : Prop := f.name ≠ "_" ∧ (∃ k, P.underlying f.type = some (.int k)) ∧ f.offset = i ∧ Q33 P f.type = true
theorem Q48 (k : Nat) {T : TypeId} {q : IntKind} {a b : Int} {kk : IntKind} {w0 : World} (ht : P.underlying T = some (.int q)) : (Op.equalIn (k + 1) T (.int kk a) (.int kk b)).run P w0 = .ok (a == b) w0 := by
  simp only [Op.equalIn, Sem.run_bind, Qa P T _ w0 ht, Result.andThen_ok]
  simp [Sem.run_pure]
def intFB (P : Program) (f : Field) (i : Nat) : Bool := f.name != "_" && (match P.underlying f.type with | some (.int _) => true | _ => false) && f.offset == i && Q33 P f.type
theorem Qor {f : Field} {i : Nat} (h : intFB P f i = true) : IntF P f i := by
  unfold intFB at h
  simp only [Bool.and_eq_true, bne_iff_ne, ne_eq, beq_iff_eq] at h
  obtain ⟨⟨⟨h1, h2⟩, h3⟩, h4⟩ := h
  refine ⟨h1, ?_, h3, h4⟩
  split at h2
  · rename_i k hk; exact ⟨k, hk⟩
  · cases h2
end
end Go.Lir
namespace Go.Lir
section
variable {P : Program} {l : List GO} {Q : QT} {ρ : Env} {w : World}
theorem run_eq2 (k : Nat) {T : TypeId} {f0 f1 : Field} {a0 a1 b0 b1 : Int} {w0 : World} (ht : P.underlying T = some (.struct #[f0, f1])) (hh : P.stoodInHeld T = false)
    (h0 : IntF P f0 0) (h1 : IntF P f1 1) :
    (Op.equalIn (k + 2) T (.agg ⟨[.int .i64 a0, .int .i64 a1]⟩) (.agg ⟨[.int .i64 b0, .int .i64 b1]⟩)).run P w0 = .ok (a0 == b0 && a1 == b1) w0 := by
  obtain ⟨n0, ⟨q0, u0⟩, o0, s0⟩ := h0
  obtain ⟨n1, ⟨q1, u1⟩, o1, s1⟩ := h1
  have hp : ∀ (T : TypeId) (cs : Array Value) (off : Nat) (v : Value) (w : World), Q33 P T = true → cs[off]? = some v → (part T cs off).run P w = .ok v w := fun T cs off v w h hv => Qg2 P T cs off v w h hv
  unfold Op.equalIn
  simp only [Sem.run_bind, Qa P T _ w0 ht, Result.andThen_ok]
  simp [hh, n0, n1, o0, o1, Q48 _ u0, Q48 _ u1, hp _ _ _ _ _ s0, hp _ _ _ _ _ s1]
  by_cases e0 : a0 = b0 <;> by_cases e1 : a1 = b1 <;> simp [e0, e1]
def Int2 (P : Program) (T : TypeId) : Prop := ∃ f0 f1 : Field, P.underlying T = some (.struct #[f0, f1]) ∧ P.stoodInHeld T = false ∧ P.eqGuardType P.depth T = false ∧ IntF P f0 0 ∧ IntF P f1 1
def int2B (P : Program) (T : TypeId) : Bool := match P.underlying T with
  | some (.struct fs) => match fs.toList with
    | [f0, f1] => !P.stoodInHeld T && !P.eqGuardType P.depth T && intFB P f0 0 && intFB P f1 1
    | _ => false
  | _ => false
theorem int2_of {T : TypeId} (h : int2B P T = true) : Int2 P T := by
  unfold int2B at h
  split at h
  · rename_i fs hu
    split at h
    · rename_i f0 f1 hf
      simp only [Bool.and_eq_true, Bool.not_eq_true'] at h
      obtain ⟨⟨⟨h1, h2⟩, h3⟩, h4⟩ := h
      have : fs = #[f0, f1] := by apply Array.ext'; exact hf
      subst this
      exact ⟨f0, f1, hu, h1, h2, Qor h3, Qor h4⟩
    · cases h
  · cases h
theorem pair_dec (a0 a1 b0 b1 : Int) : (a0 == b0 && a1 == b1) = decide ((a0, a1) = (b0, b1)) := by
  rw [Bool.eq_iff_iff]; simp
theorem s_eq2 {d : Nat} {T : TypeId} {x y : Operand} {a b : Int × Int} (hT : Int2 P T) (hx : ρ.ev x = .agg ⟨[.int .i64 a.1, .int .i64 a.2]⟩) (hy : ρ.ev y = .agg ⟨[.int .i64 b.1, .int .i64 b.2]⟩)
    (h : Q3 P l Q (upd ρ d (.bool (decide (a = b)))) w) : Q3 P (⟨none, .bin d .eql T x y⟩ :: l) Q ρ w := by
  obtain ⟨f0, f1, ht, hh, hg, h0, h1⟩ := hT
  exact ⟨.bool (decide (a = b)), fun w0 => by rw [hx, hy]; simp only [Sem.run_bind, run_eqGuard_agg w0 .eql T x y _ _ hg, Result.andThen_ok, run_eql_struct, run_eq2 9998 ht hh h0 h1, pair_dec], h⟩
theorem s_eq2_t {d : Nat} {T : TypeId} {x y : Operand} {a : Int × Int} (hT : Int2 P T) (hx : ρ.ev x = .agg ⟨[.int .i64 a.1, .int .i64 a.2]⟩) (hy : ρ.ev y = .agg ⟨[.int .i64 a.1, .int .i64 a.2]⟩)
    (h : Q3 P l Q (upd ρ d (.bool true)) w) : Q3 P (⟨none, .bin d .eql T x y⟩ :: l) Q ρ w := s_eq2 hT hx hy (by rw [decide_eq_true rfl]; exact h)
/-- A block is from here on only read, as a list of one. -/
theorem St.freeze1 {α : Type} {r : Rep α} {c : Cx} {L : List Res} {T b : Nat} {cs : List Value} {x : α} (h : St c w (blk b T cs :: L)) (hr : r.at c cs x) : ∃ c', c.Le c' ∧ St c' w L ∧ r.sl c' (.slice (some ⟨b, 0, none⟩) 1 1) [x] := by
  have h1 : St c w (sl T r.es (.slice (some ⟨b, 0, none⟩) 1 1) [cs] :: L) := h.slOf (css := [cs]) (by simp) (by intro q hq; simp at hq; subst hq; exact r.len hr) rfl
  exact h1.freezeL (r := r) ((Rep.LR.nil r _ _).push hr) rfl (by simp)
end
end Go.Lir
namespace Go.Proofs.YtjecflbbcnocdaaGreatDoor
open Go.Lir
set_option maxHeartbeats 1000000
attribute [local irreducible] LC.wp Q3 QW Q13 retQ Q2i LO.wp Qv Calls
set_option linter.unusedSimpArgs false
set_option linter.unusedVariables false
theorem Qo5 {x : Module} (hsm : x.Short) {cx : Cx} {w : World} {L : List Res} {cs : List Value} (hx : modR.at cx cs x) (hS : St cx w L) : Rets Tryz.prog QbJ [.agg ⟨cs⟩] w fun u w' => ∃ c' ds, u = .agg ⟨ds⟩ ∧ cx.Le c' ∧ modR.at c' ds x ∧ St c' w' L := by
  obtain ⟨vf, rfl, hf⟩ := Q1B hx
  obtain ⟨l⟩ := x
  have hf : funcR.sl cx vf l := hf
  have hsl : l.length ≤ 100000 := hsm.1
  have hsm : ∀ f ∈ l, f.Short := hsm.2
  have hle := St.refl hS
  all_goals refine QeE ?_
  all_goals (unfold R_OwnModule_lc; refine Q0 ?_; refine Q2 ?_; refine zb hS ?_; intro p1 w1 hS; refine Qc hS ?_; intro p2 w1 hS; refine zn ?_; refine Q0 ?_; refine Q2 ?_; refine Qc hS ?_; intro p3 w1 hS; refine zn ?_; refine Q0 ?_; refine Q0 ?_; refine Q2 ?_; refine zm ?_; refine zn ?_; refine Q8 ?_)
  refine zo [1, 2, 3] (fun A ρ' w' => ∃ (k0 : Cx) (j : Nat) (u : Value) (css : List (List Value)), Has ρ' A ∧ Has ρ' [(4, .int .i64 j)] ∧ (cx.Le k0) ∧ (j ≤ l.length) ∧ (funcR.ls k0 css (l.take j)) ∧ (oneC u = true) ∧ St k0 w' (sl 43 4 u css :: blk p3 24 [u] :: blk p2 24 [.slice none 0 0] :: blk p1 24 [vf] :: L)) (fun ρ' _ => (l.length - iv (ρ' 4)).toNat) ?_ ?_
  · exact ⟨cx, 0, .slice none 0 0, [], zh, zh, St.refl hS, (by omega), Rep.LR.nil _ _ _, rfl, by have hS := hS.nil (T := 43) (es := 4); exact hS⟩
  rintro ρ w1 ⟨k0, j, u, css, hA, hρ, hle2, hj, hls, hu, hS⟩; obtain ⟨ρ, rfl⟩ := env2 hA hρ; have hL0 := hle2; (try have hle := hle.trans hle2); (try have hf := hf.up hle2)
  unfold Q5b
  all_goals (refine Q0 ?_; refine Q0 ?_; refine Q2 ?_; refine zm ?_; refine Q1 rfl ?_; refine zl hS ?_; refine zL ?_; refine Qp rfl rfl ?_; refine zn ?_)
  refine Ql rfl (fun hc => ?_) (fun hc => ?_)
  · skip
    all_goals (refine zsk ?_; refine Q0 ?_; refine Q8 ?_; refine Q0 ?_; refine Q2 ?_; refine Q1 rfl ?_; refine zl hS ?_; refine zm ?_; refine zi ?_; intro b1 o1 cs1 x1 hat1 hx1 he1; obtain ⟨vp1, vr1, vb1, rfl, hp1, hr1, hb1⟩ := QQ he1; (first | (refine zv hS ?_) | (refine zvk hS ?_)); refine Qc hS ?_; intro p5 w1 hS; refine zsn hS ?_; intro w1 hS; have hS := hS.ns; refine zn ?_; have hsh := hsm x1 (List.mem_of_getElem? hx1); have hlb := hsh.2.2.1)
    have hJ6 := St.refl hS
    refine zML hS [1, 2, 3, 4, 5] (fun A LL ρ' w' => ∃ (k6 : Cx) (a1 a2 : Option Addr) (n1 n2 p6 : Nat), Has ρ' A ∧ Has ρ' [(6, .pointer (some ⟨p6, 0, none⟩))] ∧ (k0.Le k6) ∧ (tyR.sl k6 (.slice a1 x1.params.length n1) x1.params) ∧ (tyR.sl k6 (.slice a2 x1.results.length n2) x1.results) ∧ St k6 w' (blk p6 43 [.int .i64 x1.regs, .slice a1 x1.params.length n1, .slice a2 x1.results.length n2, .slice none 0 0] :: LL)) ?_ ?_
    · skip
      refine Qg1 4 9 (by kernel_rfl) ?_ ?_
      · skip
        refine Qg1 7 9 (by kernel_rfl) ?_ ?_
        · skip
          all_goals (refine zC [(0, none), (1, none), (2, none), (3, none), (5, none), (6, none), (4, some (some [1, 6])), (7, some (some [1])), (8, none), (9, some (some [1])), (10, some none)] ?_; have hS := hS.drew; refine s_cq ?_; refine Q1 rfl ?_; refine zt ?_; refine s_cq ?_; refine zl hS ?_; refine zt ?_; refine s_cq ?_; refine Q1 rfl ?_; refine zt ?_; refine s_cq ?_; refine zl hS ?_; refine zt ?_; refine s_cq ?_; refine Q1 rfl ?_; refine zt ?_; refine s_cq ?_; refine zl hS ?_; refine zt ?_; refine Qx ?_)
          all_goals (refine zR1 (c := Q49 hsh.1.1 hsh.1.2 hp1 hS) (h := ?_); rintro v1 w1 ⟨c1, hle2, hk1, hS⟩; obtain ⟨a1, n1, rfl⟩ := Rep.SR.shape hk1; (try have hle := hle.trans hle2); (try have hL0 := hL0.trans hle2); (try have hJ6 := hJ6.trans hle2); (try have hf := hf.up hle2); (try have hp1 := hp1.up hle2); (try have hr1 := hr1.up hle2); (try have hb1 := hb1.up hle2); (try have he1 := he1.up hle2); (try have hls := hls.up hle2))
          all_goals (refine zt ?_; refine zy ?_; refine Qx ?_)
          all_goals (refine zR1 (c := Q49 hsh.2.1.1 hsh.2.1.2 hr1 hS) (h := ?_); rintro v1 w1 ⟨c2, hle2, hk2, hS⟩; obtain ⟨a2, n2, rfl⟩ := Rep.SR.shape hk2; (try have hle := hle.trans hle2); (try have hL0 := hL0.trans hle2); (try have hJ6 := hJ6.trans hle2); (try have hf := hf.up hle2); (try have hk1 := hk1.up hle2); (try have hp1 := hp1.up hle2); (try have hr1 := hr1.up hle2); (try have hb1 := hb1.up hle2); (try have he1 := he1.up hle2); (try have hls := hls.up hle2))
          all_goals (refine zt ?_; refine zy ?_; refine s_cq ?_; refine zb3 [_, _, _, _] ?_; refine zt ?_; refine Qx ?_; refine Qc hS ?_; intro p6 w1 hS; refine zt ?_; refine zy ?_; refine s_cf ?_; refine zsn hS ?_; intro w1 hS; have hS := hS.ns; refine zt ?_; refine zcn ?_; exact ⟨_, a1, a2, n1, n2, p6, zh, zh, hJ6, by assumption, by assumption, hS.sp⟩)
        · skip
          all_goals (refine zC [(0, none), (1, none), (2, none), (3, none), (5, none), (6, none), (4, some (some [1, 6])), (9, some (some [1, 6])), (7, some (some [1])), (8, none), (10, some none)] ?_; have hS := hS.drew; refine s_cq ?_; refine Q1 rfl ?_; refine zt ?_; refine s_cq ?_; refine zl hS ?_; refine zt ?_; refine s_cq ?_; refine Q1 rfl ?_; refine zt ?_; refine s_cq ?_; refine zl hS ?_; refine zt ?_; refine s_cq ?_; refine Q1 rfl ?_; refine zt ?_; refine s_cq ?_; refine zl hS ?_; refine zt ?_; refine Qx ?_)
          all_goals (refine zR1 (c := Q49 hsh.1.1 hsh.1.2 hp1 hS) (h := ?_); rintro v1 w1 ⟨c1, hle2, hk1, hS⟩; obtain ⟨a1, n1, rfl⟩ := Rep.SR.shape hk1; (try have hle := hle.trans hle2); (try have hL0 := hL0.trans hle2); (try have hJ6 := hJ6.trans hle2); (try have hf := hf.up hle2); (try have hp1 := hp1.up hle2); (try have hr1 := hr1.up hle2); (try have hb1 := hb1.up hle2); (try have he1 := he1.up hle2); (try have hls := hls.up hle2))
          all_goals (refine zt ?_; refine zy ?_; refine Qx ?_; refine Qc hS ?_; intro p6 w1 hS; refine zt ?_; refine zy ?_; refine Qx ?_)
          all_goals (refine zR1 (c := Q49 hsh.2.1.1 hsh.2.1.2 hr1 hS) (h := ?_); rintro v1 w1 ⟨c2, hle2, hk2, hS⟩; obtain ⟨a2, n2, rfl⟩ := Rep.SR.shape hk2; (try have hle := hle.trans hle2); (try have hL0 := hL0.trans hle2); (try have hJ6 := hJ6.trans hle2); (try have hf := hf.up hle2); (try have hk1 := hk1.up hle2); (try have hp1 := hp1.up hle2); (try have hr1 := hr1.up hle2); (try have hb1 := hb1.up hle2); (try have he1 := he1.up hle2); (try have hls := hls.up hle2))
          all_goals (refine zt ?_; refine zy ?_; refine s_cq ?_; refine zb3 [_, _, _, _] ?_; refine zt ?_; refine s_cf ?_; refine zsn hS ?_; intro w1 hS; have hS := hS.ns; refine zt ?_; refine zcn ?_; exact ⟨_, a1, a2, n1, n2, p6, zh, zh, hJ6, by assumption, by assumption, hS.sp⟩)
      · skip
        all_goals (refine zC [(0, none), (1, none), (2, none), (3, none), (5, none), (6, none), (9, some (some [1, 3, 6])), (4, some (some [1, 6])), (7, some (some [1])), (8, none), (10, some none)] ?_; have hS := hS.drew; refine s_cq ?_; refine Q1 rfl ?_; refine zt ?_; refine s_cq ?_; refine zl hS ?_; refine zt ?_; refine s_cq ?_; refine Q1 rfl ?_; refine zt ?_; refine s_cq ?_; refine zl hS ?_; refine zt ?_; refine s_cq ?_; refine Q1 rfl ?_; refine zt ?_; refine s_cq ?_; refine zl hS ?_; refine zt ?_; refine Qx ?_; refine Qc hS ?_; intro p6 w1 hS; refine zt ?_; refine zy ?_; refine Qx ?_)
        all_goals (refine zR1 (c := Q49 hsh.1.1 hsh.1.2 hp1 hS) (h := ?_); rintro v1 w1 ⟨c1, hle2, hk1, hS⟩; obtain ⟨a1, n1, rfl⟩ := Rep.SR.shape hk1; (try have hle := hle.trans hle2); (try have hL0 := hL0.trans hle2); (try have hJ6 := hJ6.trans hle2); (try have hf := hf.up hle2); (try have hp1 := hp1.up hle2); (try have hr1 := hr1.up hle2); (try have hb1 := hb1.up hle2); (try have he1 := he1.up hle2); (try have hls := hls.up hle2))
        all_goals (refine zt ?_; refine zy ?_; refine Qx ?_)
        all_goals (refine zR1 (c := Q49 hsh.2.1.1 hsh.2.1.2 hr1 hS) (h := ?_); rintro v1 w1 ⟨c2, hle2, hk2, hS⟩; obtain ⟨a2, n2, rfl⟩ := Rep.SR.shape hk2; (try have hle := hle.trans hle2); (try have hL0 := hL0.trans hle2); (try have hJ6 := hJ6.trans hle2); (try have hf := hf.up hle2); (try have hk1 := hk1.up hle2); (try have hp1 := hp1.up hle2); (try have hr1 := hr1.up hle2); (try have hb1 := hb1.up hle2); (try have he1 := he1.up hle2); (try have hls := hls.up hle2))
        all_goals (refine zt ?_; refine zy ?_; refine s_cq ?_; refine zb3 [_, _, _, _] ?_; refine zt ?_; refine s_cf ?_; refine zsn hS ?_; intro w1 hS; have hS := hS.ns; refine zt ?_; refine zcn ?_; exact ⟨_, a1, a2, n1, n2, p6, zh, zh, hJ6, by assumption, by assumption, hS.sp⟩)
    rintro ρ w1 ⟨k6, a1, a2, n1, n2, p6, hA, hρ, hle2, hk1, hk2, hS⟩; obtain ⟨ρ, rfl⟩ := env2 hA hρ; (try have hle := hle.trans hle2); (try have hL0 := hL0.trans hle2); (try have hJ6 := hJ6.trans hle2); (try have hf := hf.up hle2); (try have hp1 := hp1.up hle2); (try have hr1 := hr1.up hle2); (try have hb1 := hb1.up hle2); (try have he1 := he1.up hle2); (try have hls := hls.up hle2)
    all_goals (refine Q0 ?_; refine Q0 ?_; refine Q2 ?_; refine zm ?_; refine zn ?_; refine Q8 ?_)
    refine zo [1, 2, 3, 4, 5, 6] (fun A ρ' w' => ∃ (k1 : Cx) (i : Nat) (ub : Value) (cssB : List (List Value)), Has ρ' A ∧ Has ρ' [(7, .int .i64 i)] ∧ (k6.Le k1) ∧ (i ≤ x1.blocks.length) ∧ (blockR.ls k1 cssB (x1.blocks.take i)) ∧ (oneC ub = true) ∧ St k1 w' (sl 52 12 ub cssB :: blk p6 43 [.int .i64 x1.regs, .slice a1 x1.params.length n1, .slice a2 x1.results.length n2, ub] :: blk p5 43 [.int .i64 x1.regs, vp1, vr1, vb1] :: sl 43 4 u css :: blk p3 24 [u] :: blk p2 24 [.slice none 0 0] :: blk p1 24 [vf] :: L)) (fun ρ' _ => (x1.blocks.length - iv (ρ' 7)).toNat) ?_ ?_
    · exact ⟨k6, 0, .slice none 0 0, [], zh, zh, St.refl hS, (by omega), Rep.LR.nil _ _ _, rfl, by have hS := hS.nil (T := 52) (es := 12); exact hS.sp⟩
    rintro ρ w1 ⟨k1, i, ub, cssB, hA, hρ, hle2, hi, hlsB, hub, hS⟩; obtain ⟨ρ, rfl⟩ := env2 hA hρ; have hL1 := hle2; (try have hle := hle.trans hle2); (try have hL0 := hL0.trans hle2); (try have hJ6 := hJ6.trans hle2); (try have hf := hf.up hle2); (try have hk1 := hk1.up hle2); (try have hk2 := hk2.up hle2); (try have hp1 := hp1.up hle2); (try have hr1 := hr1.up hle2); (try have hb1 := hb1.up hle2); (try have he1 := he1.up hle2); (try have hls := hls.up hle2)
    unfold Q5a
    all_goals (refine Q0 ?_; refine Q0 ?_; refine Q2 ?_; refine zm ?_; refine Q1 rfl ?_; refine zl hS ?_; refine zL ?_; refine Qp rfl rfl ?_; refine zn ?_)
    refine Ql rfl (fun hc => ?_) (fun hc => ?_)
    · skip
      all_goals (refine zsk ?_; refine Q0 ?_; refine Q8 ?_; refine Q0 ?_; refine Q2 ?_; refine Q1 rfl ?_; refine zl hS ?_; refine zm ?_; refine zi ?_; intro b2 o2 cs2 x2 hat2 hx2 he2; obtain ⟨vp2, vc2, ve21, ve22, ve23, ve24, ve25, rfl, hp2, hc2, he21, he22, he23, he24, he25⟩ := Q12 he2; (first | (refine zv hS ?_) | (refine zvk hS ?_)); refine Qc hS ?_; intro p8 w1 hS; refine zsn hS ?_; intro w1 hS; have hS := hS.ns; refine zn ?_; have hsb := hsh.2.2.2 x2 (List.mem_of_getElem? hx2); have hlc := hsb.2.1)
      have hJ10 := St.refl hS
      refine zML hS [1, 2, 3, 4, 5, 6, 7, 8] (fun A LL ρ' w' => ∃ (k10 : Cx) (a3 : Option Addr) (n3 p9 : Nat), Has ρ' A ∧ Has ρ' [(9, .pointer (some ⟨p9, 0, none⟩))] ∧ (k1.Le k10) ∧ (tyR.sl k10 (.slice a3 x2.params.length n3) x2.params) ∧ St k10 w' (blk p9 52 [.int .i64 x2.regs, .slice a3 x2.params.length n3, .slice none 0 0, .int .i64 0, .int .i64 0, .int .i64 0, .slice none 0 0, .slice none 0 0, .int .i64 0, .slice none 0 0, .slice none 0 0, .slice none 0 0] :: LL)) ?_ ?_
      · skip
        refine Qg1 4 6 (by kernel_rfl) ?_ ?_
        · skip
          all_goals (refine zC [(0, none), (1, none), (2, none), (3, none), (4, some (some [1])), (5, none), (6, some (some [1])), (7, some none)] ?_; have hS := hS.drew; refine s_cq ?_; refine Q1 rfl ?_; refine zt ?_; refine s_cq ?_; refine zl hS ?_; refine zt ?_; refine s_cq ?_; refine Q1 rfl ?_; refine zt ?_; refine s_cq ?_; refine zl hS ?_; refine zt ?_; refine Qx ?_)
          all_goals (refine zR1 (c := Q49 hsb.1.1 hsb.1.2 hp2 hS) (h := ?_); rintro v1 w1 ⟨c3, hle2, hk3, hS⟩; obtain ⟨a3, n3, rfl⟩ := Rep.SR.shape hk3; (try have hle := hle.trans hle2); (try have hL0 := hL0.trans hle2); (try have hL1 := hL1.trans hle2); (try have hJ6 := hJ6.trans hle2); (try have hJ10 := hJ10.trans hle2); (try have hf := hf.up hle2); (try have hk1 := hk1.up hle2); (try have hk2 := hk2.up hle2); (try have hp1 := hp1.up hle2); (try have hr1 := hr1.up hle2); (try have hb1 := hb1.up hle2); (try have hp2 := hp2.up hle2); (try have hc2 := hc2.up hle2); (try have he21 := he21.up hle2); (try have he22 := he22.up hle2); (try have he23 := he23.up hle2); (try have he24 := he24.up hle2); (try have he25 := he25.up hle2); (try have he1 := he1.up hle2); (try have he2 := he2.up hle2); (try have hls := hls.up hle2); (try have hlsB := hlsB.up hle2))
          all_goals (refine zt ?_; refine zy ?_; refine s_cq ?_; refine zb2 [_, _, _, _, _, _, _, _, _, _, _, _] ?_; refine zt ?_; refine Qx ?_; refine Qc hS ?_; intro p9 w1 hS; refine zt ?_; refine zy ?_; refine s_cf ?_; refine zsn hS ?_; intro w1 hS; have hS := hS.ns; refine zt ?_; refine zcn ?_; exact ⟨_, a3, n3, p9, zh, zh, hJ10, by assumption, hS.sp⟩)
        · skip
          all_goals (refine zC [(0, none), (1, none), (2, none), (3, none), (6, some (some [1, 3])), (4, some (some [1])), (5, none), (7, some none)] ?_; have hS := hS.drew; refine s_cq ?_; refine Q1 rfl ?_; refine zt ?_; refine s_cq ?_; refine zl hS ?_; refine zt ?_; refine s_cq ?_; refine Q1 rfl ?_; refine zt ?_; refine s_cq ?_; refine zl hS ?_; refine zt ?_; refine Qx ?_; refine Qc hS ?_; intro p9 w1 hS; refine zt ?_; refine zy ?_; refine Qx ?_)
          all_goals (refine zR1 (c := Q49 hsb.1.1 hsb.1.2 hp2 hS) (h := ?_); rintro v1 w1 ⟨c3, hle2, hk3, hS⟩; obtain ⟨a3, n3, rfl⟩ := Rep.SR.shape hk3; (try have hle := hle.trans hle2); (try have hL0 := hL0.trans hle2); (try have hL1 := hL1.trans hle2); (try have hJ6 := hJ6.trans hle2); (try have hJ10 := hJ10.trans hle2); (try have hf := hf.up hle2); (try have hk1 := hk1.up hle2); (try have hk2 := hk2.up hle2); (try have hp1 := hp1.up hle2); (try have hr1 := hr1.up hle2); (try have hb1 := hb1.up hle2); (try have hp2 := hp2.up hle2); (try have hc2 := hc2.up hle2); (try have he21 := he21.up hle2); (try have he22 := he22.up hle2); (try have he23 := he23.up hle2); (try have he24 := he24.up hle2); (try have he25 := he25.up hle2); (try have he1 := he1.up hle2); (try have he2 := he2.up hle2); (try have hls := hls.up hle2); (try have hlsB := hlsB.up hle2))
          all_goals (refine zt ?_; refine zy ?_; refine s_cq ?_; refine zb2 [_, _, _, _, _, _, _, _, _, _, _, _] ?_; refine zt ?_; refine s_cf ?_; refine zsn hS ?_; intro w1 hS; have hS := hS.ns; refine zt ?_; refine zcn ?_; exact ⟨_, a3, n3, p9, zh, zh, hJ10, by assumption, hS.sp⟩)
      rintro ρ w1 ⟨k10, a3, n3, p9, hA, hρ, hle2, hk3, hS⟩; obtain ⟨ρ, rfl⟩ := env2 hA hρ; (try have hle := hle.trans hle2); (try have hL0 := hL0.trans hle2); (try have hL1 := hL1.trans hle2); (try have hJ6 := hJ6.trans hle2); (try have hJ10 := hJ10.trans hle2); (try have hf := hf.up hle2); (try have hk1 := hk1.up hle2); (try have hk2 := hk2.up hle2); (try have hp1 := hp1.up hle2); (try have hr1 := hr1.up hle2); (try have hb1 := hb1.up hle2); (try have hp2 := hp2.up hle2); (try have hc2 := hc2.up hle2); (try have he21 := he21.up hle2); (try have he22 := he22.up hle2); (try have he23 := he23.up hle2); (try have he24 := he24.up hle2); (try have he25 := he25.up hle2); (try have he1 := he1.up hle2); (try have he2 := he2.up hle2); (try have hls := hls.up hle2); (try have hlsB := hlsB.up hle2)
      all_goals (refine Q0 ?_; refine Q0 ?_; refine Q2 ?_; refine zm ?_; refine zn ?_; refine Q8 ?_)
      refine zo [1, 2, 3, 4, 5, 6, 7, 8, 9] (fun A ρ' w' => ∃ (k2 : Cx) (k : Nat) (uc : Value) (cssC : List (List Value)), Has ρ' A ∧ Has ρ' [(10, .int .i64 k)] ∧ (k10.Le k2) ∧ (k ≤ x2.code.length) ∧ (insR.ls k2 cssC (x2.code.take k)) ∧ (oneC uc = true) ∧ St k2 w' (sl 54 8 uc cssC :: blk p9 52 [.int .i64 x2.regs, .slice a3 x2.params.length n3, uc, .int .i64 0, .int .i64 0, .int .i64 0, .slice none 0 0, .slice none 0 0, .int .i64 0, .slice none 0 0, .slice none 0 0, .slice none 0 0] :: blk p8 52 [.int .i64 x2.regs, vp2, vc2, .int .i64 x2.fin.op, .int .i64 x2.fin.a, .int .i64 x2.fin.yes.block, ve21, ve22, .int .i64 x2.fin.no.block, ve23, ve24, ve25] :: sl 52 12 ub cssB :: blk p6 43 [.int .i64 x1.regs, .slice a1 x1.params.length n1, .slice a2 x1.results.length n2, ub] :: blk p5 43 [.int .i64 x1.regs, vp1, vr1, vb1] :: sl 43 4 u css :: blk p3 24 [u] :: blk p2 24 [.slice none 0 0] :: blk p1 24 [vf] :: L)) (fun ρ' _ => (x2.code.length - iv (ρ' 10)).toNat) ?_ ?_
      · exact ⟨k10, 0, .slice none 0 0, [], zh, zh, St.refl hS, (by omega), Rep.LR.nil _ _ _, rfl, by have hS := hS.nil (T := 54) (es := 8); exact hS.sp⟩
      rintro ρ w1 ⟨k2, k, uc, cssC, hA, hρ, hle2, hkk, hlsC, huc, hS⟩; obtain ⟨ρ, rfl⟩ := env2 hA hρ; have hL2 := hle2; (try have hle := hle.trans hle2); (try have hL0 := hL0.trans hle2); (try have hL1 := hL1.trans hle2); (try have hJ6 := hJ6.trans hle2); (try have hJ10 := hJ10.trans hle2); (try have hf := hf.up hle2); (try have hk1 := hk1.up hle2); (try have hk2 := hk2.up hle2); (try have hk3 := hk3.up hle2); (try have hp1 := hp1.up hle2); (try have hr1 := hr1.up hle2); (try have hb1 := hb1.up hle2); (try have hp2 := hp2.up hle2); (try have hc2 := hc2.up hle2); (try have he21 := he21.up hle2); (try have he22 := he22.up hle2); (try have he23 := he23.up hle2); (try have he24 := he24.up hle2); (try have he25 := he25.up hle2); (try have he1 := he1.up hle2); (try have he2 := he2.up hle2); (try have hls := hls.up hle2); (try have hlsB := hlsB.up hle2)
      unfold Q4x
      all_goals (refine Q0 ?_; refine Q0 ?_; refine Q2 ?_; refine zm ?_; refine Q1 rfl ?_; refine zl hS ?_; refine zL ?_; refine Qp rfl rfl ?_; refine zn ?_)
      refine Ql rfl (fun hc => ?_) (fun hc => ?_)
      · skip
        all_goals (refine zsk ?_; refine Q0 ?_; refine Q8 ?_; refine Q0 ?_; refine Q2 ?_; refine Q1 rfl ?_; refine zl hS ?_; refine zm ?_; refine zi ?_; intro b3 o3 cs3 x3 hat3 hx3 he3; obtain ⟨vr3, va3, rfl, hr3, ha3⟩ := Q1u he3; (first | (refine zv hS ?_) | (refine zvk hS ?_)); refine Qc hS ?_; intro p11 w1 hS; refine zsn hS ?_; intro w1 hS; have hS := hS.ns; refine zn ?_; refine Q0 ?_; have hsi := hsb.2.2.1 x3 (List.mem_of_getElem? hx3); refine zC [(0, none), (1, none), (3, none), (4, none), (2, some (some [4])), (6, none), (5, some (some [])), (7, some none), (8, none), (9, some none)] ?_; have hS := hS.drew; refine s_cq ?_; refine Q1 rfl ?_; refine zt ?_; refine s_cq ?_; refine zl hS ?_; refine zt ?_; refine s_cq ?_; refine Q1 rfl ?_; refine zt ?_; refine s_cq ?_; refine zl hS ?_; refine zt ?_; refine Qx ?_)
        all_goals (refine zR1 (c := Q3C (by have := hsi.1; omega) hr3 hS) (h := ?_); rintro v1 w1 ⟨c4, hle2, hk4, hS⟩; obtain ⟨a4, n4, rfl⟩ := Rep.SR.shape hk4; (try have hle := hle.trans hle2); (try have hL0 := hL0.trans hle2); (try have hL1 := hL1.trans hle2); (try have hL2 := hL2.trans hle2); (try have hJ6 := hJ6.trans hle2); (try have hJ10 := hJ10.trans hle2); (try have hf := hf.up hle2); (try have hk1 := hk1.up hle2); (try have hk2 := hk2.up hle2); (try have hk3 := hk3.up hle2); (try have hp1 := hp1.up hle2); (try have hr1 := hr1.up hle2); (try have hb1 := hb1.up hle2); (try have hp2 := hp2.up hle2); (try have hc2 := hc2.up hle2); (try have he21 := he21.up hle2); (try have he22 := he22.up hle2); (try have he23 := he23.up hle2); (try have he24 := he24.up hle2); (try have he25 := he25.up hle2); (try have hr3 := hr3.up hle2); (try have ha3 := ha3.up hle2); (try have he1 := he1.up hle2); (try have he2 := he2.up hle2); (try have he3 := he3.up hle2); (try have hls := hls.up hle2); (try have hlsB := hlsB.up hle2); (try have hlsC := hlsC.up hle2))
        all_goals (refine zt ?_; refine zy ?_; refine s_cq ?_; refine Q1 rfl ?_; refine zt ?_; refine Qx ?_)
        all_goals (refine zR1 (c := Q3C (by have := hsi.2; omega) ha3 hS) (h := ?_); rintro v1 w1 ⟨c5, hle2, hk5, hS⟩; obtain ⟨a5, n5, rfl⟩ := Rep.SR.shape hk5; (try have hle := hle.trans hle2); (try have hL0 := hL0.trans hle2); (try have hL1 := hL1.trans hle2); (try have hL2 := hL2.trans hle2); (try have hJ6 := hJ6.trans hle2); (try have hJ10 := hJ10.trans hle2); (try have hf := hf.up hle2); (try have hk1 := hk1.up hle2); (try have hk2 := hk2.up hle2); (try have hk3 := hk3.up hle2); (try have hk4 := hk4.up hle2); (try have hp1 := hp1.up hle2); (try have hr1 := hr1.up hle2); (try have hb1 := hb1.up hle2); (try have hp2 := hp2.up hle2); (try have hc2 := hc2.up hle2); (try have he21 := he21.up hle2); (try have he22 := he22.up hle2); (try have he23 := he23.up hle2); (try have he24 := he24.up hle2); (try have he25 := he25.up hle2); (try have hr3 := hr3.up hle2); (try have ha3 := ha3.up hle2); (try have he1 := he1.up hle2); (try have he2 := he2.up hle2); (try have he3 := he3.up hle2); (try have hls := hls.up hle2); (try have hlsB := hlsB.up hle2); (try have hlsC := hlsC.up hle2))
        all_goals (refine zt ?_; refine zy ?_; refine s_cf ?_; refine zst hS ?_; intro w1 hS; have hS := hS.ns; refine zt ?_; refine s_cq ?_; refine Q1 rfl ?_; refine zt ?_; refine s_cf ?_; refine zst hS ?_; intro w1 hS; have hS := hS.ns; refine zt ?_; refine zcn ?_; have hk9 : insR.at c5 _ x3 := ⟨_, _, rfl, hk4, hk5⟩; refine Q2 ?_; refine Q1 rfl ?_; refine zl hS ?_; refine zv hS ?_; refine zB1 hS [_, _, _, _, _, _, _, _] ?_; intro b1 w1 hS; refine za el_T45 u_T45 hS ?_; intro vp1 w1 css1 hls1 hv1 hS; have hS := hS.ns; refine Q1 rfl ?_; refine zst hS ?_; intro w1 hS; have hS := hS.ns; refine zn ?_; refine Q2 ?_; refine zm ?_; refine zad ?_; refine zm ?_; refine zn ?_; exact ⟨⟨_, k + 1, _, _, zh, zh, hL2, (by omega), by rw [Q1T hx3]; assumption, by assumption, hS.sp⟩, Qk (by omega)⟩)
      · skip
        all_goals (refine zex ?_)
        all_goals (obtain ⟨c6, hle2, hS, hk6⟩ := St.freezeL (r := insR) (l := x2.code) hS (by rw [List.take_of_length_le (by omega)] at hlsC; exact hlsC) rfl (by have := hsb.2.1; omega); obtain ⟨a6, n6, rfl⟩ := Rep.SR.shape hk6; (try have hle := hle.trans hle2); (try have hL0 := hL0.trans hle2); (try have hL1 := hL1.trans hle2); (try have hL2 := hL2.trans hle2); (try have hJ6 := hJ6.trans hle2); (try have hJ10 := hJ10.trans hle2); (try have hf := hf.up hle2); (try have hk1 := hk1.up hle2); (try have hk2 := hk2.up hle2); (try have hk3 := hk3.up hle2); (try have hp1 := hp1.up hle2); (try have hr1 := hr1.up hle2); (try have hb1 := hb1.up hle2); (try have hp2 := hp2.up hle2); (try have hc2 := hc2.up hle2); (try have he21 := he21.up hle2); (try have he22 := he22.up hle2); (try have he23 := he23.up hle2); (try have he24 := he24.up hle2); (try have he25 := he25.up hle2); (try have he1 := he1.up hle2); (try have he2 := he2.up hle2); (try have hls := hls.up hle2); (try have hlsB := hlsB.up hle2); (try have hlsC := hlsC.up hle2))
        all_goals (refine Q0 ?_; refine zC [(0, none), (1, none), (2, none), (3, none), (4, none), (5, none), (6, none), (7, none), (8, none), (10, none), (11, none), (12, none), (14, none), (15, none), (16, none), (9, some (some [2, 5, 12, 16])), (13, some (some [2, 5, 16])), (17, some (some [2, 5])), (18, none), (19, none), (20, some none)] ?_; have hS := hS.drew; refine s_cq ?_; refine Q1 rfl ?_; refine zt ?_; refine s_cq ?_; (first | refine Q1 rfl ?_ | refine QS rfl ?_); refine zt ?_; refine s_cq ?_; refine zl hS ?_; refine zt ?_; refine s_cq ?_; refine Q1 rfl ?_; refine zt ?_; refine s_cq ?_; (first | refine Q1 rfl ?_ | refine QS rfl ?_); refine zt ?_; refine s_cq ?_; refine zl hS ?_; refine zt ?_; refine s_cq ?_; refine Q1 rfl ?_; refine zt ?_; refine s_cq ?_; (first | refine Q1 rfl ?_ | refine QS rfl ?_); refine zt ?_; refine s_cq ?_; refine zv hS ?_; refine zt ?_; refine s_cq ?_; refine Q1 rfl ?_; refine zt ?_; refine s_cq ?_; (first | refine Q1 rfl ?_ | refine QS rfl ?_); refine zt ?_; refine s_cq ?_; refine zv hS ?_; refine zt ?_; refine s_cq ?_; refine Q1 rfl ?_)
        all_goals (refine zt ?_; refine s_cq ?_; (first | refine Q1 rfl ?_ | refine QS rfl ?_); refine zt ?_; refine s_cq ?_; refine zl hS ?_; refine zt ?_; refine Qx ?_)
        all_goals (refine zR1 (c := Qmy (x := x2.fin.yes) (by have := hsb.2.2.2.1.1; omega) (by have := hsb.2.2.2.1.2; omega) ⟨_, _, rfl, he21, he22⟩ hS) (h := ?_); rintro v1 w1 ⟨c7, ds, rfl, hle2, hk7, hS⟩; obtain ⟨y1, y2, rfl, hy1, hy2⟩ := Q3K hk7; obtain ⟨a7, n7, rfl⟩ := Rep.SR.shape hy1; obtain ⟨a8, n8, rfl⟩ := Rep.SR.shape hy2; (try have hle := hle.trans hle2); (try have hL0 := hL0.trans hle2); (try have hL1 := hL1.trans hle2); (try have hL2 := hL2.trans hle2); (try have hJ6 := hJ6.trans hle2); (try have hJ10 := hJ10.trans hle2); (try have hf := hf.up hle2); (try have hk1 := hk1.up hle2); (try have hk2 := hk2.up hle2); (try have hk3 := hk3.up hle2); (try have hk6 := hk6.up hle2); (try have hp1 := hp1.up hle2); (try have hr1 := hr1.up hle2); (try have hb1 := hb1.up hle2); (try have hp2 := hp2.up hle2); (try have hc2 := hc2.up hle2); (try have he21 := he21.up hle2); (try have he22 := he22.up hle2); (try have he23 := he23.up hle2); (try have he24 := he24.up hle2); (try have he25 := he25.up hle2); (try have he1 := he1.up hle2); (try have he2 := he2.up hle2); (try have hls := hls.up hle2); (try have hlsB := hlsB.up hle2); (try have hlsC := hlsC.up hle2))
        all_goals (refine zt ?_; refine zy ?_; refine Qx ?_)
        all_goals (refine zR1 (c := Qmy (x := x2.fin.no) (by have := hsb.2.2.2.2.1.1; omega) (by have := hsb.2.2.2.2.1.2; omega) ⟨_, _, rfl, he23, he24⟩ hS) (h := ?_); rintro v1 w1 ⟨c8, ds, rfl, hle2, hk8, hS⟩; obtain ⟨z1, z2, rfl, hz1, hz2⟩ := Q3K hk8; obtain ⟨a9, n9, rfl⟩ := Rep.SR.shape hz1; obtain ⟨a10, n10, rfl⟩ := Rep.SR.shape hz2; (try have hle := hle.trans hle2); (try have hL0 := hL0.trans hle2); (try have hL1 := hL1.trans hle2); (try have hL2 := hL2.trans hle2); (try have hJ6 := hJ6.trans hle2); (try have hJ10 := hJ10.trans hle2); (try have hf := hf.up hle2); (try have hk1 := hk1.up hle2); (try have hk2 := hk2.up hle2); (try have hk3 := hk3.up hle2); (try have hk6 := hk6.up hle2); (try have hk7 := hk7.up hle2); (try have hp1 := hp1.up hle2); (try have hr1 := hr1.up hle2); (try have hb1 := hb1.up hle2); (try have hp2 := hp2.up hle2); (try have hc2 := hc2.up hle2); (try have he21 := he21.up hle2); (try have he22 := he22.up hle2); (try have he23 := he23.up hle2); (try have he24 := he24.up hle2); (try have he25 := he25.up hle2); (try have he1 := he1.up hle2); (try have he2 := he2.up hle2); (try have hls := hls.up hle2); (try have hy1 := hy1.up hle2); (try have hy2 := hy2.up hle2); (try have hlsB := hlsB.up hle2); (try have hlsC := hlsC.up hle2))
        all_goals (refine zt ?_; refine zy ?_; refine Qx ?_)
        all_goals (refine zR1 (c := Q3C (by have := hsb.2.2.2.2.2; omega) he25 hS) (h := ?_); rintro v1 w1 ⟨c9, hle2, hw1, hS⟩; obtain ⟨a11, n11, rfl⟩ := Rep.SR.shape hw1; (try have hle := hle.trans hle2); (try have hL0 := hL0.trans hle2); (try have hL1 := hL1.trans hle2); (try have hL2 := hL2.trans hle2); (try have hJ6 := hJ6.trans hle2); (try have hJ10 := hJ10.trans hle2); (try have hf := hf.up hle2); (try have hk1 := hk1.up hle2); (try have hk2 := hk2.up hle2); (try have hk3 := hk3.up hle2); (try have hk6 := hk6.up hle2); (try have hk7 := hk7.up hle2); (try have hk8 := hk8.up hle2); (try have hp1 := hp1.up hle2); (try have hr1 := hr1.up hle2); (try have hb1 := hb1.up hle2); (try have hp2 := hp2.up hle2); (try have hc2 := hc2.up hle2); (try have he21 := he21.up hle2); (try have he22 := he22.up hle2); (try have he23 := he23.up hle2); (try have he24 := he24.up hle2); (try have he25 := he25.up hle2); (try have he1 := he1.up hle2); (try have he2 := he2.up hle2); (try have hls := hls.up hle2); (try have hy1 := hy1.up hle2); (try have hy2 := hy2.up hle2); (try have hz1 := hz1.up hle2); (try have hz2 := hz2.up hle2); (try have hlsB := hlsB.up hle2); (try have hlsC := hlsC.up hle2))
        all_goals (refine zt ?_; refine zy ?_; refine s_cq ?_; refine zb5 [_, _, _, _, _, _, _, _, _] ?_; refine zt ?_; refine s_cq ?_; refine Q1 rfl ?_; refine zt ?_; refine s_cf ?_; (first | (refine zsn hS ?_; intro w1 hS; have hS := hS.ns) | (refine zsm hS ?_; intro w1 hS; have hS := hS.ns)); refine zt ?_; refine zcn ?_; have hk9 : blockR.at c9 _ x2 := QjT (x := x2) hk3 hk6 hy1 hy2 hz1 hz2 hw1; refine Q2 ?_; refine Q1 rfl ?_; refine zl hS ?_; refine zv hS ?_; refine zB1 hS [_, _, _, _, _, _, _, _, _, _, _, _] ?_; intro b1 w1 hS; refine za el_T41 u_T41 hS ?_; intro vp2 w2 css2 hls2 hv2 hS; have hS := hS.ns; refine Q1 rfl ?_; refine zst hS ?_; intro w1 hS; have hS := hS.ns; refine zn ?_; refine Q2 ?_; refine zm ?_; refine zad ?_; refine zm ?_; refine zn ?_; exact ⟨⟨_, i + 1, _, _, zh, zh, hL1, (by omega), by rw [Q1T hx2]; assumption, by assumption, hS.sp⟩, Qk (by omega)⟩)
    · skip
      all_goals (refine zex ?_)
      all_goals (obtain ⟨c10, hle2, hS, hk6⟩ := St.freezeL (r := blockR) (l := x1.blocks) hS (by rw [List.take_of_length_le (by omega)] at hlsB; exact hlsB) rfl (by have := hsh.2.2.1; omega); obtain ⟨a6, n6, rfl⟩ := Rep.SR.shape hk6; (try have hle := hle.trans hle2); (try have hL0 := hL0.trans hle2); (try have hL1 := hL1.trans hle2); (try have hJ6 := hJ6.trans hle2); (try have hf := hf.up hle2); (try have hk1 := hk1.up hle2); (try have hk2 := hk2.up hle2); (try have hp1 := hp1.up hle2); (try have hr1 := hr1.up hle2); (try have hb1 := hb1.up hle2); (try have he1 := he1.up hle2); (try have hls := hls.up hle2); (try have hlsB := hlsB.up hle2))
      all_goals (have hk9 : funcR.at c10 _ x1 := ⟨_, _, _, rfl, hk1, hk2, hk6⟩; refine Q2 ?_; refine Q1 rfl ?_; refine zl hS ?_; refine zv hS ?_; refine zB1 hS [_, _, _, _] ?_; intro b1 w1 hS; refine za el_T22 u_T22 hS ?_; intro vp3 w3 css3 hls3 hv3 hS; have hS := hS.ns; refine Q1 rfl ?_; refine zst hS ?_; intro w1 hS; have hS := hS.ns; refine zn ?_; refine Q2 ?_; refine zm ?_; refine zad ?_; refine zm ?_; refine zn ?_; exact ⟨⟨_, j + 1, _, _, zh, zh, hL0, (by omega), by rw [Q1T hx1]; assumption, by assumption, hS.sp⟩, Qk (by omega)⟩)
  · skip
    all_goals (refine zex ?_)
    all_goals (obtain ⟨c11, hle2, hS, hk6⟩ := St.freezeL (r := funcR) (l := l) hS (by rw [List.take_of_length_le (by omega)] at hls; exact hls) rfl (by omega); obtain ⟨a6, n6, rfl⟩ := Rep.SR.shape hk6; (try have hle := hle.trans hle2); (try have hL0 := hL0.trans hle2); (try have hf := hf.up hle2); (try have hls := hls.up hle2))
    all_goals (refine Q0 ?_; refine Q2 ?_; refine zv hS ?_; refine zsn hS ?_; intro w1 hS; have hS := hS.ns; refine zn ?_; refine zr ?_; refine Q2c vw (Qe (n := 1) (by kernel_rfl) (by kernel_rfl) (hS.blkAt fd) (by rfl) (by rfl)) ?_; exact ⟨_, rfl, c11, _, rfl, hle, ⟨_, rfl, hk6⟩, hS.sp⟩)
end Go.Proofs.YtjecflbbcnocdaaGreatDoor
namespace Go.Proofs.YtjecflbbcnocdaaGreatDoor
open Go.Lir
set_option maxHeartbeats 1000000
attribute [local irreducible] LC.wp Q3 QW Q13 retQ Q2i LO.wp Qv Calls
set_option linter.unusedSimpArgs false
set_option linter.unusedVariables false
theorem Qfg {x y : Block} {cx : Cx} {w : World} {L : List Res} {cs ds : List Value} (hx : blockR.at cx cs x) (hy : blockR.at cx ds y) (hS : St cx w L) : Rets Tryz.prog Q2C [.agg ⟨cs⟩, .agg ⟨ds⟩] w fun u w' => u = .bool (decide (x = y)) ∧ St cx w' L := by
  obtain ⟨vp, vc, v1, v2, v3, v4, v5, rfl, hp, hc0, h1, h2, h3, h4, h5⟩ := Q12 hx
  obtain ⟨up, uc, u1, u2, u3, u4, u5, rfl, gp, gc, g1, g2, g3, g4, g5⟩ := Q12 hy
  have hlen := hc0.len
  obtain ⟨xr, xp, xc, ⟨xo, xa, xy, xn, xg⟩⟩ := x
  obtain ⟨yr, yp, yc, ⟨yo, ya, yy, yn, yg⟩⟩ := y
  simp only [Block.mk.injEq, Tail.mk.injEq] at *
  all_goals refine Qe3 ?_
  all_goals (unfold R_sameBlock_lc; refine Q0 ?_; refine Q2 ?_; refine zb hS ?_; intro p2 w1 hS; refine zb hS ?_; intro p3 w1 hS; refine zm ?_; refine zn ?_)
  refine zML hS [2, 3] (fun A LL ρ' w' => Has ρ' A ∧ Has ρ' [] ∧ (xr = yr) ∧ (xp = yp) ∧ (xc.length = yc.length) ∧ St cx w' (LL)) ?_ ?_
  · skip
    all_goals (refine Q0 ?_; refine Q2 ?_; refine Q1 rfl ?_; refine zl hS ?_; refine Q1 rfl ?_; refine zl hS ?_)
    all_goals (first | (refine Q1m ?_) | (refine Q1n ?_) | (refine Qs rfl rfl (fun hc => ?_) (fun hc => ?_)))
    all_goals (refine zm ?_; (first | refine s_gn rfl rfl ?_ | (refine s_gy rfl ?_; refine Q1 rfl ?_)); (first | refine s_gn rfl rfl ?_ | (refine s_gy rfl ?_; refine zl hS ?_)); (first | refine s_gn rfl rfl ?_ | (refine s_gy rfl ?_; refine Q1 rfl ?_)); (first | refine s_gn rfl rfl ?_ | (refine s_gy rfl ?_; refine zl hS ?_)))
    all_goals ((first | (refine s_gn rfl rfl ?_) | (refine s_gy rfl ?_; refine zR2 (c := Q4G hp gp hS) (h := ?_); rintro v1 w1 ⟨rfl, hS⟩; (cases hdec : decide (xp = yp)); have hg := of_decide_eq_false hdec; rotate_left; have hg := of_decide_eq_true hdec; all_goals skip)))
    all_goals ((first | refine s_gn rfl rfl ?_ | (refine s_gy rfl ?_; refine Q1G rfl ?_)); (first | (refine zpt ?_) | (refine zpf ?_)); refine zm ?_; (first | refine s_gn rfl rfl ?_ | (refine s_gy rfl ?_; refine Q1 rfl ?_)); (first | refine s_gn rfl rfl ?_ | (refine s_gy rfl ?_; refine zl hS ?_)); (first | refine s_gn rfl rfl ?_ | (refine s_gy rfl ?_; refine zL ?_)); (first | refine s_gn rfl rfl ?_ | (refine s_gy rfl ?_; refine Q1 rfl ?_)); (first | refine s_gn rfl rfl ?_ | (refine s_gy rfl ?_; refine zl hS ?_)); (first | refine s_gn rfl rfl ?_ | (refine s_gy rfl ?_; refine zL ?_)))
    all_goals (first | refine s_gn rfl rfl ?_ | (refine s_gy rfl ?_; (first | (refine Q1m ?_) | (refine Q1n ?_) | (refine Qs rfl rfl (fun hc => ?_) (fun hc => ?_)))))
    all_goals ((first | (refine zpt ?_) | (refine zpf ?_)); refine zn ?_)
    all_goals
      first
      | (refine Q5 rfl ?_ -- Q2C c0
         all_goals (refine Q0 ?_; refine Q2 ?_; refine zm ?_; refine zn ?_; refine zr ?_; refine zf ?_)
         all_goals (refine ⟨_, rfl, ?_, hS.sp⟩; (rw [decide_eq_false]; rintro ⟨e1, e2, e3, _⟩; have := congrArg List.length e3; first | omega | (simp_all; done)); done))
      | (refine Q4 rfl ?_ -- Q2C c0
         all_goals refine zsk ?_)
    all_goals (exact ⟨zh, zh, by omega, by assumption, by omega, hS.sp⟩)
  rintro ρ w1 ⟨hA, hρ, hr, hpp, hll, hS⟩; obtain ⟨ρ, rfl⟩ := env2 hA hρ
  all_goals (refine Q0 ?_; refine Q0 ?_; refine Q2 ?_; refine zm ?_; refine zn ?_; refine Q8 ?_)
  refine zoL hS [2, 3] (fun A LL ρ' w' => ∃ (j : Nat), Has ρ' A ∧ Has ρ' [(5, .int .i64 j)] ∧ (j ≤ xc.length) ∧ (xc = yc ↔ xc.drop j = yc.drop j) ∧ St cx w' (LL)) (fun ρ' _ => (xc.length - iv (ρ' 5)).toNat) ?_ ?_
  · exact ⟨0, zh, zh, (by omega), by simp, hS.sp⟩
  rintro ρ w1 ⟨j, hA, hρ, hj, hd, hS⟩; obtain ⟨ρ, rfl⟩ := env2 hA hρ
  unfold Q58
  all_goals (refine Q0 ?_; refine Q0 ?_; refine Q2 ?_; refine zm ?_; refine Q1 rfl ?_; refine zl hS ?_; refine zL ?_; refine Qp rfl rfl ?_; refine zn ?_)
  refine Ql rfl (fun hc => ?_) (fun hc => ?_)
  · skip
    all_goals (refine zsk ?_; refine Q0 ?_; refine Q8 ?_; refine Q0 ?_; refine zD [(0, none), (1, none), (2, none), (3, none), (4, none), (5, none), (6, none), (7, none), (8, none), (9, none), (10, some none), (11, some none)] ?_; have hS := hS.drew; refine Q1 rfl ?_; refine zl hS ?_; refine zm ?_; refine zi ?_; intro b1 o1 cs1 x1 hat1 hx1 he1; obtain ⟨vr1, va1, rfl, hr1, ha1⟩ := Q1u he1; (first | (refine zv hS ?_) | (refine zvk hS ?_)); refine Q1 rfl ?_; refine zl hS ?_; refine zm ?_; refine zi ?_; intro b2 o2 cs2 x2 hat2 hx2 he2; obtain ⟨vr2, va2, rfl, hr2, ha2⟩ := Q1u he2; (first | (refine zv hS ?_) | (refine zvk hS ?_)))
    all_goals (refine zR2 (c := Qn6 he1 he2 hS) (h := ?_); rintro v1 w1 ⟨rfl, hS⟩; (cases hdec : decide (x1 = x2)); have hg := of_decide_eq_false hdec; rotate_left; have hg := of_decide_eq_true hdec; all_goals skip)
    all_goals (refine Q1G rfl ?_; refine zn ?_)
    all_goals
      first
      | (refine Q5 rfl ?_ -- Q2C c2
         all_goals (refine Q0 ?_; refine Q2 ?_; refine zm ?_; refine zn ?_; refine zr ?_; refine zf ?_)
         all_goals (refine ⟨_, rfl, ?_, hS.sp⟩; (rw [decide_eq_false]; rintro ⟨e1, e2, e3, _⟩; have := congrArg List.length e3; first | omega | (simp_all; done)); done))
      | (refine Q4 rfl ?_ -- Q2C c2
         all_goals refine zsk ?_)
    all_goals (refine Q2 ?_; refine zm ?_; refine zad ?_; refine zm ?_; refine zn ?_; exact ⟨⟨j + 1, zh, zh, (by omega), by rw [hd, Q7 hx1, Q7 hx2, hg]; simp, hS.sp⟩, Qk (by omega)⟩)
  · skip
    all_goals (refine zex ?_; refine Q0 ?_; refine Q2 ?_; refine Q1 rfl ?_; (first | refine Q1 rfl ?_ | refine QS rfl ?_); refine zl hS ?_; refine Q1 rfl ?_; (first | refine Q1 rfl ?_ | refine QS rfl ?_); refine zl hS ?_)
    all_goals (first | (refine Qq ?_) | (refine Qr ?_) | (refine Qf rfl rfl (fun hc => ?_) (fun hc => ?_)))
    all_goals (refine zm ?_; (first | refine s_gn rfl rfl ?_ | (refine s_gy rfl ?_; refine Q1 rfl ?_)); (first | refine s_gn rfl rfl ?_ | (refine s_gy rfl ?_; (first | refine Q1 rfl ?_ | refine QS rfl ?_))); (first | refine s_gn rfl rfl ?_ | (refine s_gy rfl ?_; refine zl hS ?_)); (first | refine s_gn rfl rfl ?_ | (refine s_gy rfl ?_; refine Q1 rfl ?_)); (first | refine s_gn rfl rfl ?_ | (refine s_gy rfl ?_; (first | refine Q1 rfl ?_ | refine QS rfl ?_))); (first | refine s_gn rfl rfl ?_ | (refine s_gy rfl ?_; refine zl hS ?_)))
    all_goals (first | refine s_gn rfl rfl ?_ | (refine s_gy rfl ?_; (first | (refine Qq ?_) | (refine Qr ?_) | (refine Qf rfl rfl (fun hc => ?_) (fun hc => ?_)))))
    all_goals ((first | (refine zpt ?_) | (refine zpf ?_)); refine zm ?_; (first | refine s_gn rfl rfl ?_ | (refine s_gy rfl ?_; refine Q1 rfl ?_)); (first | refine s_gn rfl rfl ?_ | (refine s_gy rfl ?_; (first | refine Q1 rfl ?_ | refine QS rfl ?_))); (first | refine s_gn rfl rfl ?_ | (refine s_gy rfl ?_; refine zv hS ?_)); (first | refine s_gn rfl rfl ?_ | (refine s_gy rfl ?_; refine Q1 rfl ?_)); (first | refine s_gn rfl rfl ?_ | (refine s_gy rfl ?_; (first | refine Q1 rfl ?_ | refine QS rfl ?_))); (first | refine s_gn rfl rfl ?_ | (refine s_gy rfl ?_; refine zv hS ?_)))
    all_goals ((first | (refine s_gn rfl rfl ?_) | (refine s_gy rfl ?_; refine zR2 (c := Qjq (x := xy) (y := yy) ⟨_, _, rfl, h1, h2⟩ ⟨_, _, rfl, g1, g2⟩ hS) (h := ?_); rintro v1 w1 ⟨rfl, hS⟩; (cases hdec : decide (xy = yy)); have hg := of_decide_eq_false hdec; rotate_left; have hg := of_decide_eq_true hdec; all_goals skip)))
    all_goals ((first | (refine zpt ?_) | (refine zpf ?_)); refine zm ?_; (first | refine s_gn rfl rfl ?_ | (refine s_gy rfl ?_; refine Q1 rfl ?_)); (first | refine s_gn rfl rfl ?_ | (refine s_gy rfl ?_; (first | refine Q1 rfl ?_ | refine QS rfl ?_))); (first | refine s_gn rfl rfl ?_ | (refine s_gy rfl ?_; refine zv hS ?_)); (first | refine s_gn rfl rfl ?_ | (refine s_gy rfl ?_; refine Q1 rfl ?_)); (first | refine s_gn rfl rfl ?_ | (refine s_gy rfl ?_; (first | refine Q1 rfl ?_ | refine QS rfl ?_))); (first | refine s_gn rfl rfl ?_ | (refine s_gy rfl ?_; refine zv hS ?_)))
    all_goals ((first | (refine s_gn rfl rfl ?_) | (refine s_gy rfl ?_; refine zR2 (c := Qjq (x := xn) (y := yn) ⟨_, _, rfl, h3, h4⟩ ⟨_, _, rfl, g3, g4⟩ hS) (h := ?_); rintro v1 w1 ⟨rfl, hS⟩; (cases hdec : decide (xn = yn)); have hg := of_decide_eq_false hdec; rotate_left; have hg := of_decide_eq_true hdec; all_goals skip)))
    all_goals ((first | (refine zpt ?_) | (refine zpf ?_)); refine zm ?_; (first | refine s_gn rfl rfl ?_ | (refine s_gy rfl ?_; refine Q1 rfl ?_)); (first | refine s_gn rfl rfl ?_ | (refine s_gy rfl ?_; (first | refine Q1 rfl ?_ | refine QS rfl ?_))); (first | refine s_gn rfl rfl ?_ | (refine s_gy rfl ?_; refine zl hS ?_)); (first | refine s_gn rfl rfl ?_ | (refine s_gy rfl ?_; refine Q1 rfl ?_)); (first | refine s_gn rfl rfl ?_ | (refine s_gy rfl ?_; (first | refine Q1 rfl ?_ | refine QS rfl ?_))); (first | refine s_gn rfl rfl ?_ | (refine s_gy rfl ?_; refine zl hS ?_)); (first | (refine s_gn rfl rfl ?_) | (refine s_gy rfl ?_; refine zR2 (c := Q9J h5 g5 hS) (h := ?_); rintro v1 w1 ⟨rfl, hS⟩)); (first | (refine zpt ?_) | (refine zpf ?_)); refine zm ?_; refine zn ?_; refine zr ?_; refine zf ?_; (first | (refine ⟨_, rfl, ?_, hS.sp⟩; (rw [decide_eq_false]; rintro ⟨e1, e2, e3, _⟩; have := congrArg List.length e3; first | omega | (simp_all; done)); done) | (refine ⟨_, rfl, ?_, hS.sp⟩; rw [decide_eq_false]; rintro ⟨e1, e2, e3, _⟩; rw [hd, Q7 hx1, Q7 hx2, List.cons.injEq] at e3; exact hg e3.1; done) | (refine ⟨_, rfl, ?_, hS.sp⟩; have hcc : xc = yc := (by rw [hd, List.drop_of_length_le (by omega), List.drop_of_length_le (by omega)]); simp [*]; done)))
theorem Qn5 {x y : Module} {cx : Cx} {w : World} {L : List Res} {cs ds : List Value} (hx : modR.at cx cs x) (hy : modR.at cx ds y) (hS : St cx w L) : Rets Tryz.prog QR [.agg ⟨cs⟩, .agg ⟨ds⟩] w fun u w' => u = .bool (decide (x = y)) ∧ St cx w' L := by
  obtain ⟨vf, rfl, hl⟩ := Q1B hx
  obtain ⟨uf, rfl, hm⟩ := Q1B hy
  obtain ⟨l⟩ := x
  obtain ⟨m⟩ := y
  have hlen := hl.len
  simp only [Module.mk.injEq] at *
  all_goals refine Qbr ?_
  all_goals (unfold R_SameModule_lc; refine Q0 ?_; refine Q2 ?_; refine zb hS ?_; intro p2 w1 hS; refine zb hS ?_; intro p3 w1 hS; refine zm ?_; refine zn ?_; refine Q0 ?_; refine Q0 ?_; refine Q2 ?_; refine Q1 rfl ?_; refine zl hS ?_; refine zL ?_; refine Q1 rfl ?_; refine zl hS ?_; refine zL ?_)
  all_goals (first | (refine Q1m ?_) | (refine Q1n ?_) | (refine Qs rfl rfl (fun hc => ?_) (fun hc => ?_)))
  all_goals (refine zn ?_)
  all_goals
    first
    | (refine Q5 rfl ?_ -- QR c0
       all_goals (refine Q0 ?_; refine Q2 ?_; refine zm ?_; refine zn ?_; refine zr ?_; refine zf ?_)
       all_goals (refine ⟨_, rfl, ?_, hS.sp⟩; rw [decide_eq_false]; exact fun e => absurd (congrArg List.length e) (by omega); done))
    | (refine Q4 rfl ?_ -- QR c0
       all_goals refine zsk ?_)
  all_goals (refine Q0 ?_; refine Q0 ?_; refine Q2 ?_; refine zm ?_; refine zn ?_; refine Q8 ?_)
  refine zoL hS [2, 3] (fun A LL ρ' w' => ∃ (j : Nat), Has ρ' A ∧ Has ρ' [(5, .int .i64 j)] ∧ (j ≤ l.length) ∧ (l.length = m.length) ∧ (l = m ↔ l.drop j = m.drop j) ∧ St cx w' (LL)) (fun ρ' _ => (l.length - iv (ρ' 5)).toNat) ?_ ?_
  · exact ⟨0, zh, zh, (by omega), (by omega), by simp, hS.sp⟩
  rintro ρ w1 ⟨j, hA, hρ, hj, hlm, hd, hS⟩; obtain ⟨ρ, rfl⟩ := env2 hA hρ
  unfold Q4w
  all_goals (refine Q0 ?_; refine Q0 ?_; refine Q2 ?_; refine zm ?_; refine Q1 rfl ?_; refine zl hS ?_; refine zL ?_; refine Qp rfl rfl ?_; refine zn ?_)
  refine Ql rfl (fun hc => ?_) (fun hc => ?_)
  · skip
    all_goals (refine zsk ?_; refine Q0 ?_; refine Q8 ?_; refine Q0 ?_)
    refine Qg1 10 11 (by kernel_rfl) ?_ ?_
    · skip
      all_goals (refine zC [(0, none), (1, none), (2, none), (3, none), (4, none), (5, none), (6, none), (7, none), (8, none), (9, none), (10, some (some [1, 4, 6, 9])), (11, some (some [1, 4, 6, 9])), (12, some (some [6, 9])), (13, some none)] ?_; have hS := hS.drew; refine s_cq ?_; refine Q1 rfl ?_; refine zt ?_; refine s_cq ?_; refine zl hS ?_; refine zt ?_; refine s_cq ?_; refine zm ?_; refine zt ?_; refine s_cq ?_; refine zi ?_; intro b1 o1 cs1 x1 hat1 hx1 he1; obtain ⟨vp1, vr1, vb1, rfl, hp1, hr1, hb1⟩ := QQ he1; refine zt ?_; refine s_cq ?_; (first | (refine zv hS ?_) | (refine zvk hS ?_)); refine zt ?_; refine s_cq ?_; refine Q1 rfl ?_; refine zt ?_; refine s_cq ?_; refine zl hS ?_; refine zt ?_; refine s_cq ?_; refine zm ?_; refine zt ?_; refine s_cq ?_; refine zi ?_; intro b2 o2 cs2 x2 hat2 hx2 he2; obtain ⟨vp2, vr2, vb2, rfl, hp2, hr2, hb2⟩ := QQ he2; refine zt ?_; refine s_cq ?_; (first | (refine zv hS ?_) | (refine zvk hS ?_)); refine zt ?_; refine Qx ?_; refine Qc hS ?_; intro p6 w1 hS; refine zt ?_; refine zy ?_; refine Qx ?_; refine Qc hS ?_; intro p7 w1 hS; refine zt ?_)
      all_goals (refine zy ?_; refine Qx ?_; refine zsn hS ?_; intro w1 hS; have hS := hS.ns; refine zt ?_; refine zy ?_; refine s_cf ?_; refine zsn hS ?_; intro w1 hS; have hS := hS.ns; refine zt ?_; refine zcn ?_; refine Q0 ?_; refine Q0 ?_; refine Q2 ?_; refine Q1 rfl ?_; refine zl hS ?_; refine Q1 rfl ?_; refine zl hS ?_)
      all_goals (first | (refine Q1m ?_) | (refine Q1n ?_) | (refine Qs rfl rfl (fun hc => ?_) (fun hc => ?_)))
      all_goals (refine zm ?_; (first | refine s_gn rfl rfl ?_ | (refine s_gy rfl ?_; refine Q1 rfl ?_)); (first | refine s_gn rfl rfl ?_ | (refine s_gy rfl ?_; refine zl hS ?_)); (first | refine s_gn rfl rfl ?_ | (refine s_gy rfl ?_; refine Q1 rfl ?_)); (first | refine s_gn rfl rfl ?_ | (refine s_gy rfl ?_; refine zl hS ?_)))
      all_goals ((first | (refine s_gn rfl rfl ?_) | (refine s_gy rfl ?_; refine zR2 (c := Q4G (l := x1.params) (m := x2.params) hp1 hp2 hS) (h := ?_); rintro v1 w1 ⟨rfl, hS⟩; (cases hdec : decide (x1.params = x2.params)); have hg := of_decide_eq_false hdec; rotate_left; have hg := of_decide_eq_true hdec; all_goals skip)))
      all_goals ((first | refine s_gn rfl rfl ?_ | (refine s_gy rfl ?_; refine Q1G rfl ?_)); (first | (refine zpt ?_) | (refine zpf ?_)); refine zm ?_; (first | refine s_gn rfl rfl ?_ | (refine s_gy rfl ?_; refine Q1 rfl ?_)); (first | refine s_gn rfl rfl ?_ | (refine s_gy rfl ?_; refine zl hS ?_)); (first | refine s_gn rfl rfl ?_ | (refine s_gy rfl ?_; refine Q1 rfl ?_)); (first | refine s_gn rfl rfl ?_ | (refine s_gy rfl ?_; refine zl hS ?_)))
      all_goals ((first | (refine s_gn rfl rfl ?_) | (refine s_gy rfl ?_; refine zR2 (c := Q4G (l := x1.results) (m := x2.results) hr1 hr2 hS) (h := ?_); rintro v1 w1 ⟨rfl, hS⟩; (cases hdec : decide (x1.results = x2.results)); have hg := of_decide_eq_false hdec; rotate_left; have hg := of_decide_eq_true hdec; all_goals skip)))
      all_goals ((first | refine s_gn rfl rfl ?_ | (refine s_gy rfl ?_; refine Q1G rfl ?_)); (first | (refine zpt ?_) | (refine zpf ?_)); refine zm ?_; (first | refine s_gn rfl rfl ?_ | (refine s_gy rfl ?_; refine Q1 rfl ?_)); (first | refine s_gn rfl rfl ?_ | (refine s_gy rfl ?_; refine zl hS ?_)); (first | refine s_gn rfl rfl ?_ | (refine s_gy rfl ?_; refine zL ?_)); (first | refine s_gn rfl rfl ?_ | (refine s_gy rfl ?_; refine Q1 rfl ?_)); (first | refine s_gn rfl rfl ?_ | (refine s_gy rfl ?_; refine zl hS ?_)); (first | refine s_gn rfl rfl ?_ | (refine s_gy rfl ?_; refine zL ?_)))
      all_goals (first | refine s_gn rfl rfl ?_ | (refine s_gy rfl ?_; (first | (refine Q1m ?_) | (refine Q1n ?_) | (refine Qs rfl rfl (fun hc => ?_) (fun hc => ?_)))))
      all_goals ((first | (refine zpt ?_) | (refine zpf ?_)); refine zn ?_)
      all_goals
        first
        | (refine Q5 rfl ?_ -- QR c2
           all_goals (refine Q0 ?_; refine Q2 ?_; refine zm ?_; refine zn ?_; refine zr ?_; refine zf ?_)
           all_goals (first | (refine ⟨_, rfl, ?_, hS.sp⟩; rw [decide_eq_false]; exact fun e => absurd (congrArg List.length e) (by omega); done) | (refine ⟨_, rfl, ?_, hS.sp⟩; (rw [decide_eq_false]; rw [hd, Q7 hx1, Q7 hx2, List.cons.injEq]; rintro ⟨rfl, _⟩; first | (simp_all; done) | (simp at *; omega)); done)))
        | (refine Q4 rfl ?_ -- QR c2
           all_goals refine zsk ?_)
      all_goals (refine Q0 ?_; have hlb := hb1.len; refine Q2 ?_; refine zm ?_; refine zn ?_; refine Q8 ?_)
      refine zoL hS [2, 3, 5, 6, 7] (fun A LL ρ' w' => ∃ (i : Nat), Has ρ' A ∧ Has ρ' [(8, .int .i64 i)] ∧ (i ≤ x1.blocks.length) ∧ (x1.blocks.length = x2.blocks.length) ∧ (x1.regs = x2.regs) ∧ (x1.params = x2.params) ∧ (x1.results = x2.results) ∧ (x1.blocks = x2.blocks ↔ x1.blocks.drop i = x2.blocks.drop i) ∧ St cx w' (LL)) (fun ρ' _ => (x1.blocks.length - iv (ρ' 8)).toNat) ?_ ?_
      · exact ⟨0, zh, zh, (by omega), (by omega), (by omega), by assumption, by assumption, by simp, hS.sp⟩
      rintro ρ w1 ⟨i, hA, hρ, hi, hlb2, hre, hpe, hrr, hd2, hS⟩; obtain ⟨ρ, rfl⟩ := env2 hA hρ
      unfold Q39
      all_goals (refine Q0 ?_; refine Q0 ?_; refine Q2 ?_; refine zm ?_; refine Q1 rfl ?_; refine zl hS ?_; refine zL ?_; refine Qp rfl rfl ?_; refine zn ?_)
      refine Ql rfl (fun hc => ?_) (fun hc => ?_)
      · skip
        all_goals (refine zsk ?_; refine Q0 ?_; refine Q8 ?_; refine Q0 ?_; refine zD [(0, none), (1, none), (2, none), (3, none), (4, none), (5, none), (6, none), (7, none), (8, none), (9, none), (10, some none), (11, some none)] ?_; have hS := hS.drew; refine Q1 rfl ?_; refine zl hS ?_; refine zm ?_; refine zi ?_; intro b3 o3 cs3 x3 hat3 hx3 he3; obtain ⟨vp3, vc3, ve31, ve32, ve33, ve34, ve35, rfl, hp3, hc3, he31, he32, he33, he34, he35⟩ := Q12 he3; (first | (refine zv hS ?_) | (refine zvk hS ?_)); refine Q1 rfl ?_; refine zl hS ?_; refine zm ?_; refine zi ?_; intro b4 o4 cs4 x4 hat4 hx4 he4; obtain ⟨vp4, vc4, ve41, ve42, ve43, ve44, ve45, rfl, hp4, hc4, he41, he42, he43, he44, he45⟩ := Q12 he4; (first | (refine zv hS ?_) | (refine zvk hS ?_)))
        all_goals (refine zR2 (c := Qfg he3 he4 hS) (h := ?_); rintro v1 w1 ⟨rfl, hS⟩; (cases hdec : decide (x3 = x4)); have hg := of_decide_eq_false hdec; rotate_left; have hg := of_decide_eq_true hdec; all_goals skip)
        all_goals (refine Q1G rfl ?_; refine zn ?_)
        all_goals
          first
          | (refine Q5 rfl ?_ -- QR c4
             all_goals (refine Q0 ?_; refine Q2 ?_; refine zm ?_; refine zn ?_; refine zr ?_; refine zf ?_)
             all_goals (first | (refine ⟨_, rfl, ?_, hS.sp⟩; rw [decide_eq_false]; exact fun e => absurd (congrArg List.length e) (by omega); done) | (refine ⟨_, rfl, ?_, hS.sp⟩; (rw [decide_eq_false]; rw [hd, Q7 hx1, Q7 hx2, List.cons.injEq]; rintro ⟨rfl, _⟩; first | (simp_all; done) | (simp at *; omega)); done)))
          | (refine Q4 rfl ?_ -- QR c4
             all_goals refine zsk ?_)
        all_goals (refine Q2 ?_; refine zm ?_; refine zad ?_; refine zm ?_; refine zn ?_; exact ⟨⟨i + 1, zh, zh, (by omega), (by omega), (by omega), by assumption, by assumption, by rw [hd2, Q7 hx3, Q7 hx4, hg]; simp, hS.sp⟩, Qk (by omega)⟩)
      · skip
        all_goals (refine zex ?_; refine Q2 ?_; refine zm ?_; refine zad ?_; refine zm ?_; refine zn ?_; exact ⟨⟨j + 1, zh, zh, (by omega), (by omega), by rw [hd, Q7 hx1, Q7 hx2, Fun.eq_of hre hpe hrr (by rw [hd2, List.drop_of_length_le (by omega), List.drop_of_length_le (by omega)])]; simp, hS.sp⟩, Qk (by omega)⟩)
    · skip
      all_goals (refine zC [(0, none), (1, none), (2, none), (3, none), (4, none), (5, none), (6, none), (7, none), (8, none), (9, none), (11, some (some [1, 4, 6, 9])), (10, some (some [1, 4, 6, 9])), (12, some (some [6, 9])), (13, some none)] ?_; have hS := hS.drew; refine s_cq ?_; refine Q1 rfl ?_; refine zt ?_; refine s_cq ?_; refine zl hS ?_; refine zt ?_; refine s_cq ?_; refine zm ?_; refine zt ?_; refine s_cq ?_; refine zi ?_; intro b1 o1 cs1 x1 hat1 hx1 he1; obtain ⟨vp1, vr1, vb1, rfl, hp1, hr1, hb1⟩ := QQ he1; refine zt ?_; refine s_cq ?_; (first | (refine zv hS ?_) | (refine zvk hS ?_)); refine zt ?_; refine s_cq ?_; refine Q1 rfl ?_; refine zt ?_; refine s_cq ?_; refine zl hS ?_; refine zt ?_; refine s_cq ?_; refine zm ?_; refine zt ?_; refine s_cq ?_; refine zi ?_; intro b2 o2 cs2 x2 hat2 hx2 he2; obtain ⟨vp2, vr2, vb2, rfl, hp2, hr2, hb2⟩ := QQ he2; refine zt ?_; refine s_cq ?_; (first | (refine zv hS ?_) | (refine zvk hS ?_)); refine zt ?_; refine Qx ?_; refine Qc hS ?_; intro p7 w1 hS; refine zt ?_; refine zy ?_; refine Qx ?_; refine Qc hS ?_; intro p6 w1 hS; refine zt ?_)
      all_goals (refine zy ?_; refine Qx ?_; refine zsn hS ?_; intro w1 hS; have hS := hS.ns; refine zt ?_; refine zy ?_; refine s_cf ?_; refine zsn hS ?_; intro w1 hS; have hS := hS.ns; refine zt ?_; refine zcn ?_; refine Q0 ?_; refine Q0 ?_; refine Q2 ?_; refine Q1 rfl ?_; refine zl hS ?_; refine Q1 rfl ?_; refine zl hS ?_)
      all_goals (first | (refine Q1m ?_) | (refine Q1n ?_) | (refine Qs rfl rfl (fun hc => ?_) (fun hc => ?_)))
      all_goals (refine zm ?_; (first | refine s_gn rfl rfl ?_ | (refine s_gy rfl ?_; refine Q1 rfl ?_)); (first | refine s_gn rfl rfl ?_ | (refine s_gy rfl ?_; refine zl hS ?_)); (first | refine s_gn rfl rfl ?_ | (refine s_gy rfl ?_; refine Q1 rfl ?_)); (first | refine s_gn rfl rfl ?_ | (refine s_gy rfl ?_; refine zl hS ?_)))
      all_goals ((first | (refine s_gn rfl rfl ?_) | (refine s_gy rfl ?_; refine zR2 (c := Q4G (l := x1.params) (m := x2.params) hp1 hp2 hS) (h := ?_); rintro v1 w1 ⟨rfl, hS⟩; (cases hdec : decide (x1.params = x2.params)); have hg := of_decide_eq_false hdec; rotate_left; have hg := of_decide_eq_true hdec; all_goals skip)))
      all_goals ((first | refine s_gn rfl rfl ?_ | (refine s_gy rfl ?_; refine Q1G rfl ?_)); (first | (refine zpt ?_) | (refine zpf ?_)); refine zm ?_; (first | refine s_gn rfl rfl ?_ | (refine s_gy rfl ?_; refine Q1 rfl ?_)); (first | refine s_gn rfl rfl ?_ | (refine s_gy rfl ?_; refine zl hS ?_)); (first | refine s_gn rfl rfl ?_ | (refine s_gy rfl ?_; refine Q1 rfl ?_)); (first | refine s_gn rfl rfl ?_ | (refine s_gy rfl ?_; refine zl hS ?_)))
      all_goals ((first | (refine s_gn rfl rfl ?_) | (refine s_gy rfl ?_; refine zR2 (c := Q4G (l := x1.results) (m := x2.results) hr1 hr2 hS) (h := ?_); rintro v1 w1 ⟨rfl, hS⟩; (cases hdec : decide (x1.results = x2.results)); have hg := of_decide_eq_false hdec; rotate_left; have hg := of_decide_eq_true hdec; all_goals skip)))
      all_goals ((first | refine s_gn rfl rfl ?_ | (refine s_gy rfl ?_; refine Q1G rfl ?_)); (first | (refine zpt ?_) | (refine zpf ?_)); refine zm ?_; (first | refine s_gn rfl rfl ?_ | (refine s_gy rfl ?_; refine Q1 rfl ?_)); (first | refine s_gn rfl rfl ?_ | (refine s_gy rfl ?_; refine zl hS ?_)); (first | refine s_gn rfl rfl ?_ | (refine s_gy rfl ?_; refine zL ?_)); (first | refine s_gn rfl rfl ?_ | (refine s_gy rfl ?_; refine Q1 rfl ?_)); (first | refine s_gn rfl rfl ?_ | (refine s_gy rfl ?_; refine zl hS ?_)); (first | refine s_gn rfl rfl ?_ | (refine s_gy rfl ?_; refine zL ?_)))
      all_goals (first | refine s_gn rfl rfl ?_ | (refine s_gy rfl ?_; (first | (refine Q1m ?_) | (refine Q1n ?_) | (refine Qs rfl rfl (fun hc => ?_) (fun hc => ?_)))))
      all_goals ((first | (refine zpt ?_) | (refine zpf ?_)); refine zn ?_)
      all_goals
        first
        | (refine Q5 rfl ?_ -- QR c2
           all_goals (refine Q0 ?_; refine Q2 ?_; refine zm ?_; refine zn ?_; refine zr ?_; refine zf ?_)
           all_goals (first | (refine ⟨_, rfl, ?_, hS.sp⟩; rw [decide_eq_false]; exact fun e => absurd (congrArg List.length e) (by omega); done) | (refine ⟨_, rfl, ?_, hS.sp⟩; (rw [decide_eq_false]; rw [hd, Q7 hx1, Q7 hx2, List.cons.injEq]; rintro ⟨rfl, _⟩; first | (simp_all; done) | (simp at *; omega)); done)))
        | (refine Q4 rfl ?_ -- QR c2
           all_goals refine zsk ?_)
      all_goals (refine Q0 ?_; have hlb := hb1.len; refine Q2 ?_; refine zm ?_; refine zn ?_; refine Q8 ?_)
      refine zoL hS [2, 3, 5, 6, 7] (fun A LL ρ' w' => ∃ (i : Nat), Has ρ' A ∧ Has ρ' [(8, .int .i64 i)] ∧ (i ≤ x1.blocks.length) ∧ (x1.blocks.length = x2.blocks.length) ∧ (x1.regs = x2.regs) ∧ (x1.params = x2.params) ∧ (x1.results = x2.results) ∧ (x1.blocks = x2.blocks ↔ x1.blocks.drop i = x2.blocks.drop i) ∧ St cx w' (LL)) (fun ρ' _ => (x1.blocks.length - iv (ρ' 8)).toNat) ?_ ?_
      · exact ⟨0, zh, zh, (by omega), (by omega), (by omega), by assumption, by assumption, by simp, hS.sp⟩
      rintro ρ w1 ⟨i, hA, hρ, hi, hlb2, hre, hpe, hrr, hd2, hS⟩; obtain ⟨ρ, rfl⟩ := env2 hA hρ
      unfold Q39
      all_goals (refine Q0 ?_; refine Q0 ?_; refine Q2 ?_; refine zm ?_; refine Q1 rfl ?_; refine zl hS ?_; refine zL ?_; refine Qp rfl rfl ?_; refine zn ?_)
      refine Ql rfl (fun hc => ?_) (fun hc => ?_)
      · skip
        all_goals (refine zsk ?_; refine Q0 ?_; refine Q8 ?_; refine Q0 ?_; refine zD [(0, none), (1, none), (2, none), (3, none), (4, none), (5, none), (6, none), (7, none), (8, none), (9, none), (10, some none), (11, some none)] ?_; have hS := hS.drew; refine Q1 rfl ?_; refine zl hS ?_; refine zm ?_; refine zi ?_; intro b3 o3 cs3 x3 hat3 hx3 he3; obtain ⟨vp3, vc3, ve31, ve32, ve33, ve34, ve35, rfl, hp3, hc3, he31, he32, he33, he34, he35⟩ := Q12 he3; (first | (refine zv hS ?_) | (refine zvk hS ?_)); refine Q1 rfl ?_; refine zl hS ?_; refine zm ?_; refine zi ?_; intro b4 o4 cs4 x4 hat4 hx4 he4; obtain ⟨vp4, vc4, ve41, ve42, ve43, ve44, ve45, rfl, hp4, hc4, he41, he42, he43, he44, he45⟩ := Q12 he4; (first | (refine zv hS ?_) | (refine zvk hS ?_)))
        all_goals (refine zR2 (c := Qfg he3 he4 hS) (h := ?_); rintro v1 w1 ⟨rfl, hS⟩; (cases hdec : decide (x3 = x4)); have hg := of_decide_eq_false hdec; rotate_left; have hg := of_decide_eq_true hdec; all_goals skip)
        all_goals (refine Q1G rfl ?_; refine zn ?_)
        all_goals
          first
          | (refine Q5 rfl ?_ -- QR c4
             all_goals (refine Q0 ?_; refine Q2 ?_; refine zm ?_; refine zn ?_; refine zr ?_; refine zf ?_)
             all_goals (first | (refine ⟨_, rfl, ?_, hS.sp⟩; rw [decide_eq_false]; exact fun e => absurd (congrArg List.length e) (by omega); done) | (refine ⟨_, rfl, ?_, hS.sp⟩; (rw [decide_eq_false]; rw [hd, Q7 hx1, Q7 hx2, List.cons.injEq]; rintro ⟨rfl, _⟩; first | (simp_all; done) | (simp at *; omega)); done)))
          | (refine Q4 rfl ?_ -- QR c4
             all_goals refine zsk ?_)
        all_goals (refine Q2 ?_; refine zm ?_; refine zad ?_; refine zm ?_; refine zn ?_; exact ⟨⟨i + 1, zh, zh, (by omega), (by omega), (by omega), by assumption, by assumption, by rw [hd2, Q7 hx3, Q7 hx4, hg]; simp, hS.sp⟩, Qk (by omega)⟩)
      · skip
        all_goals (refine zex ?_; refine Q2 ?_; refine zm ?_; refine zad ?_; refine zm ?_; refine zn ?_; exact ⟨⟨j + 1, zh, zh, (by omega), (by omega), by rw [hd, Q7 hx1, Q7 hx2, Fun.eq_of hre hpe hrr (by rw [hd2, List.drop_of_length_le (by omega), List.drop_of_length_le (by omega)])]; simp, hS.sp⟩, Qk (by omega)⟩)
  · skip
    all_goals (refine zex ?_; refine Q0 ?_; refine Q2 ?_; refine zm ?_; refine zn ?_; refine zr ?_; refine zf ?_)
    all_goals (first | (refine ⟨_, rfl, ?_, hS.sp⟩; rw [decide_eq_false]; exact fun e => absurd (congrArg List.length e) (by omega); done) | (refine ⟨_, rfl, ?_, hS.sp⟩; (rw [decide_eq_false]; rw [hd, Q7 hx1, Q7 hx2, List.cons.injEq]; rintro ⟨rfl, _⟩; first | (simp_all; done) | (simp at *; omega)); done) | (refine ⟨_, rfl, ?_, hS.sp⟩; rw [decide_eq_false]; rw [hd, Q7 hx1, Q7 hx2, List.cons.injEq]; rintro ⟨rfl, _⟩; rw [hx3] at hx4; cases hx4; exact hg rfl; done) | (refine ⟨_, rfl, ?_, hS.sp⟩; rw [decide_eq_true]; rw [hd, List.drop_of_length_le (by omega), List.drop_of_length_le (by omega)]; done))
end Go.Proofs.YtjecflbbcnocdaaGreatDoor
namespace Go.Proofs.YtjecflbbcnocdaaGreatDoor
open Go.Lir
set_option maxHeartbeats 1000000
attribute [local irreducible] LC.wp Q3 QW Q13 retQ Q2i LO.wp Qv Calls
set_option linter.unusedSimpArgs false
set_option linter.unusedVariables false
variable {cx : Cx} {w : World} {L : List Res} {i : Nat}
def Qop : Block := ⟨0, [], [], ⟨3, 0, ⟨0, [], []⟩, ⟨0, [], []⟩, []⟩⟩
def leastM : Module := ⟨[⟨0, [], [], [Qop]⟩]⟩
abbrev Qfm (vc : Value) : List Value := [.int .i64 0, .slice none 0 0, vc, .int .i64 3, .int .i64 0, .int .i64 0, .slice none 0 0, .slice none 0 0, .int .i64 0, .slice none 0 0, .slice none 0 0, .slice none 0 0]
theorem flt_int2 : Int2 Tryz.prog 29 := int2_of (by kernel_rfl)
theorem least_c (hS : St cx w L) : Rets Tryz.prog Ql7 [] w fun u w' => ∃ a b, u = .agg ⟨[.slice (some ⟨a, 0, none⟩) 1 1]⟩ ∧ St cx w' (blk a 43 [.int .i64 0, .slice none 0 0, .slice none 0 0, .slice (some ⟨b, 0, none⟩) 1 1] :: blk b 52 (Qfm (.slice none 0 0)) :: L) := by
  all_goals refine Ql6 ?_
  all_goals (unfold Law_least_lc; refine Q0 ?_; refine Q2 ?_; refine Qc hS ?_; intro p0 w1 hS; refine zn ?_; refine Q0 ?_; refine Q2 ?_; refine zb1 [_, _, _, _, _, _, _, _, _] ?_; refine zb1 [_, _, _, _, _, _, _, _, _, _, _, _] ?_; refine Q9H (cs := [_, _, _, _, _, _, _, _, _, _, _, _]) vw (by rfl) ?_; intro q1 w1 hb1 hf1 _ hk1; have hS := hS.laid hb1 hf1 hk1; refine zb1 [_, _, _, _] ?_; refine Q9H (cs := [_, _, _, _]) vw (by rfl) ?_; intro q2 w1 hb1 hf1 _ hk1; have hS := hS.laid hb1 hf1 hk1; refine zb1 [_] ?_; refine zsn hS ?_; intro w1 hS; have hS := hS.ns; refine zn ?_; refine zr ?_; refine Q2c vw (Qe (n := 1) (by kernel_rfl) (by kernel_rfl) (hS.blkAt fd) (by rfl) (by rfl)) ?_; exact ⟨_, rfl, q2, q1, rfl, hS.sp⟩)
/-- Such a module, from now on only read. -/
theorem least_fz {a b : Nat} {code : List Ins} {vc : Value} (hk : insR.sl cx vc code) (hS : St cx w (blk a 43 [.int .i64 0, .slice none 0 0, .slice none 0 0, .slice (some ⟨b, 0, none⟩) 1 1] :: blk b 52 (Qfm vc) :: L)) :
    ∃ c', cx.Le c' ∧ St c' w L ∧ modR.at c' [.slice (some ⟨a, 0, none⟩) 1 1] ⟨[⟨0, [], [], [⟨0, [], code, ⟨3, 0, ⟨0, [], []⟩, ⟨0, [], []⟩, []⟩⟩]⟩]⟩ := by
  have n1 : ∀ c : Cx, intR.sl c (.slice none 0 0) [] := fun c => Rep.SR.nil _ _ _
  have n2 : ∀ c : Cx, tyR.sl c (.slice none 0 0) [] := fun c => Rep.SR.nil _ _ _
  obtain ⟨c1, hle1, hS, h1⟩ := St.freeze1 (r := blockR) (x := ⟨0, [], code, ⟨3, 0, ⟨0, [], []⟩, ⟨0, [], []⟩, []⟩⟩) hS.mv1 (QjT (x := ⟨0, [], code, ⟨3, 0, ⟨0, [], []⟩, ⟨0, [], []⟩, []⟩⟩) (n2 _) hk (n1 _) (n1 _) (n1 _) (n1 _) (n1 _))
  obtain ⟨c2, hle2, hS, h2⟩ := St.freeze1 (r := funcR) (x := ⟨0, [], [], [⟨0, [], code, ⟨3, 0, ⟨0, [], []⟩, ⟨0, [], []⟩, []⟩⟩]⟩) hS ⟨_, _, _, rfl, n2 _, n2 _, h1⟩
  exact ⟨c2, hle1.trans hle2, hS, _, rfl, h2⟩
end Go.Proofs.YtjecflbbcnocdaaGreatDoor
namespace Go.Proofs.YtjecflbbcnocdaaGreatDoor
open Go.Lir
set_option maxHeartbeats 1000000
attribute [local irreducible] LC.wp Q3 QW Q13 retQ Q2i LO.wp Qv Calls
set_option linter.unusedSimpArgs false
set_option linter.unusedVariables false
theorem QjE : leastM.Short := by
  refine ⟨by decide, fun f hf => ?_⟩
  simp [leastM] at hf; subst hf
  refine ⟨⟨by decide, by simp⟩, ⟨by decide, by simp⟩, by decide, fun b hb => ?_⟩
  simp [Qop] at hb; subst hb
  exact ⟨⟨by decide, by simp⟩, by decide, by simp, ⟨by decide, by decide⟩, ⟨by decide, by decide⟩, by decide⟩
theorem inI0 : InI 0 := ⟨by decide, by decide⟩
theorem inI3 : InI 3 := ⟨by decide, by decide⟩
theorem Qoo : leastM.InR := by
  intro f hf
  simp [leastM] at hf; subst hf
  refine ⟨inI0, by simp, by simp, fun b hb => ?_⟩
  simp [Qop] at hb; subst hb
  exact ⟨inI0, by simp, by simp, inI3, inI0, ⟨inI0, by simp, by simp⟩, ⟨inI0, by simp, by simp⟩, by simp⟩
def QmG : List UInt8 := [102, 117, 110, 99, 32, 48, 32, 40, 41, 32, 45, 62, 32, 40, 41, 32, 123, 10, 98, 108, 111, 99, 107, 32, 48, 32, 40, 41, 32, 123, 10, 9, 114, 101, 116, 32, 40, 41, 59, 10, 125, 10, 125, 10]
theorem Qlw : Q1v leastM = (QmG, (0, 0)) := by kernel_rfl
attribute [local irreducible] Q1v
variable {cx : Cx} {w : World} {L : List Res}
theorem least_pr {cs : List Value} (hx : modR.at cx cs leastM) (hT : PowT cx) (hS : St cx w L) : Rets Tryz.prog Q1t [.agg ⟨cs⟩] w fun u w' => u = .tuple #[strV QmG, .agg ⟨[.int .i64 0, .int .i64 0]⟩] ∧ St cx w' L := by
  have h := Qoe QjE Qoo hx hT hS
  rw [Qlw] at h
  exact h
theorem QgC (hT : PowT cx) (hS : St cx w L) : Rets Tryz.prog Q4C [] w fun u w' => u = .bool true ∧ St cx w' L := by
  have n0 : ∀ c : Cx, insR.sl c (.slice none 0 0) [] := fun c => Rep.SR.nil _ _ _
  all_goals refine Q73 ?_
  all_goals (unfold Law_renderBegun_lc; refine Q0 ?_; refine Q2 ?_; refine zm ?_; refine zn ?_; refine Q0 ?_; refine Q2 ?_; refine zR0 (c := least_c hS) (h := ?_); rintro v1 w1 ⟨la, lb, rfl, hS⟩; obtain ⟨c1, hle1, hS, hm1⟩ := least_fz (n0 _) hS; refine zR1 (c := least_pr hm1 (hT.up hle1) hS) (h := ?_); rintro v1 w1 ⟨rfl, hS⟩; refine zm ?_; refine QcP rfl rfl ?_; refine QcP rfl rfl ?_; refine Qc hS ?_; intro p2 w1 hS; refine zm ?_; refine zsn hS ?_; intro w1 hS; have hS := hS.ns; refine zn ?_; refine Q0 ?_; refine Q2 ?_; refine Q1 rfl ?_; refine zl hS ?_)
  all_goals (refine Qq ?_)
  all_goals (refine zm ?_; (first | refine s_gn rfl rfl ?_ | (refine s_gy rfl ?_; refine zm ?_)); (first | refine s_gn rfl rfl ?_ | (refine s_gy rfl ?_; refine s_seqt rfl rfl rfl ?_)); refine zpt ?_; refine zm ?_; refine zn ?_; refine zr ?_; refine zf ?_; exact ⟨_, rfl, rfl, St.weak hS.sp hle1⟩)
theorem Qdf {m : Module} {cs : List Value} (hr : m.InR) (hm : modR.at cx cs m) (hT : PowT cx) (hS : St cx w L) : Rets Tryz.prog Q1h [.agg ⟨cs⟩] w fun u w' => u = .bool true ∧ St cx w' L := by
  obtain ⟨vm, rfl, hfm⟩ := Q1B hm
  obtain ⟨am, nm, rfl⟩ := Rep.SR.shape hfm
  have hle := St.refl hS
  all_goals refine Q5Q ?_
  all_goals (unfold Law_RenderPrints_lc; refine Q0 ?_; refine Q2 ?_; refine zb hS ?_; intro p1 w1 hS; refine zm ?_; refine zn ?_; refine Q0 ?_; refine Q0 ?_; refine Q2 ?_; refine zR0 (c := QgC hT hS) (h := ?_); rintro v1 w1 ⟨rfl, hS⟩; refine Q1G rfl ?_; refine zn ?_)
  all_goals
    first
    | (refine Q5 rfl ?_ -- Q1h c0
       all_goals (refine Q0 ?_; refine Q2 ?_; refine zm ?_; refine zn ?_; refine zr ?_; refine zf ?_)
       all_goals (exact ⟨_, rfl, rfl, St.weak hS.sp hle⟩))
    | (refine Q4 rfl ?_ -- Q1h c0
       all_goals refine zsk ?_)
  all_goals (refine Q0 ?_; refine Q0 ?_; refine Q2 ?_; refine zv hS ?_)
  all_goals (refine zR1 (c := Qng hm hS) (h := ?_); rintro v1 w1 ⟨b, rfl, hfw, hS⟩; cases b; have hsh := hfw rfl)
  all_goals (refine zn ?_)
  all_goals
    first
    | (refine Q5 rfl ?_ -- Q1h c1
       all_goals (refine Q0 ?_; refine Q2 ?_; refine zm ?_; refine zn ?_; refine zr ?_; refine zf ?_)
       all_goals (exact ⟨_, rfl, rfl, St.weak hS.sp hle⟩))
    | (refine Q4 rfl ?_ -- Q1h c1
       all_goals refine zsk ?_)
  all_goals (refine Q0 ?_; refine Q2 ?_; refine zv hS ?_)
  all_goals (refine zR1 (c := Qo5 hsh hm hS) (h := ?_); rintro v1 w1 ⟨c1, ds, rfl, hle2, hm1, hS⟩; obtain ⟨v9, rfl, hf9⟩ := Q1B hm1; obtain ⟨a9, n9, rfl⟩ := Rep.SR.shape hf9; (try have hle := hle.trans hle2); (try have hm := hm.up hle2); have hT1 := hT.up hle)
  all_goals (refine Qc hS ?_; intro p3 w1 hS; refine zsn hS ?_; intro w1 hS; have hS := hS.ns; refine zn ?_; refine Q0 ?_; refine Q2 ?_; refine zv hS ?_; refine zR1 (c := Qoe hsh hr hm1 hT1 hS) (h := ?_); rintro v1 w1 ⟨rfl, hS⟩; refine zm ?_; refine QcP rfl rfl ?_; refine QcP rfl rfl ?_; refine Qc hS ?_; intro p5 w1 hS; refine zm ?_; refine zsn hS ?_; intro w1 hS; have hS := hS.ns; refine zn ?_; refine Q0 ?_; refine Q2 ?_; refine zv hS ?_; refine zR1 (c := Qn7 hsh hr hm hT1 hS) (h := ?_); rintro v1 w1 ⟨rfl, hS⟩; refine zm ?_; refine QcP rfl rfl ?_; refine QcP rfl rfl ?_; refine Qc hS ?_; intro p7 w1 hS; refine zm ?_; refine zsn hS ?_; intro w1 hS; have hS := hS.ns; refine zn ?_; refine Q0 ?_; refine Q2 ?_; refine zv hS ?_; refine zv hS ?_; refine s_eq2_t (a := (Q1v m).2) flt_int2 rfl rfl ?_; refine zm ?_; (first | refine s_gn rfl rfl ?_ | (refine s_gy rfl ?_; refine zm ?_)); (first | refine s_gn rfl rfl ?_ | (refine s_gy rfl ?_; refine zm ?_)); (first | refine s_gn rfl rfl ?_ | (refine s_gy rfl ?_; refine s_seqt rfl rfl rfl ?_)))
  all_goals (refine zpt ?_; refine zm ?_; (first | refine s_gn rfl rfl ?_ | (refine s_gy rfl ?_; refine zv hS ?_)); (first | refine s_gn rfl rfl ?_ | (refine s_gy rfl ?_; refine zv hS ?_)); (first | refine s_gn rfl rfl ?_ | (refine s_gy rfl ?_; refine zR2 (c := Qn5 hm1 hm hS) (h := ?_); rintro v1 w1 ⟨rfl, hS⟩; rw [decide_eq_true (show m = m from rfl)])); refine zpt ?_; refine zm ?_; refine zn ?_; refine zr ?_; refine zf ?_; exact ⟨_, rfl, rfl, St.weak hS.sp hle⟩)
end Go.Proofs.YtjecflbbcnocdaaGreatDoor
namespace Go.Proofs.YtjecflbbcnocdaaGreatDoor
open Go.Lir
theorem renderPrints_rd {c : Array Value} {x : Module} {w : World} (hT : PowT (Cx.top w)) (h1 : cModI.cod.rd w.heap c.toList x) : Rets Tryz.prog Q1h [.agg c] w fun v w' => v = .bool true ∧ Fr NF w w' := by
  obtain ⟨h4, h5⟩ := cModI.top h1
  exact (Qdf h5 h4 hT (St.top w)).mono fun _ _ ⟨h, h2⟩ => ⟨h, h2.fr⟩
end Go.Proofs.YtjecflbbcnocdaaGreatDoor
namespace Go.Proofs.YtjecflbbcnocdaaGreatDoor
open Go.Lir
abbrev laid3 : List (String × DataW Unit) := [("math/bits.deBruijn32tab", Rows.laid_math_bits_deBruijn32tab), ("math/bits.deBruijn64tab", Rows.laid_math_bits_deBruijn64tab), ("internal/strconv.uint64pow10", Rows.laid_internal_strconv_uint64pow10)]
theorem door_met (os : Os) (args : Array Value) : laidMetH Tryz.prog laid3 ((World.doorLaid Tryz.prog 2000 os).forCall (fun _ _ => 0) ⟨#[], args, []⟩).memory :=
  laidMetH_of_parts3 (fuel := 8) (laidMet_of_run' 8 (by kernel_rfl) (by kernel_rfl)) (by kernel_rfl) (by kernel_rfl)
theorem pow_lit : (Rows.laid_internal_strconv_uint64pow10 : DataW Unit) = Lib.tabData .u64 Lib.pow10Tab := by kernel_rfl
/-- The table of powers of ten lies in what is only read. -/
theorem pow_of {W : World} (h : laidMetH Tryz.prog laid3 W) : PowT (Cx.top W) := by
  rw [MakeChecks.laidMetH_plain _ _ _ (by kernel_rfl)] at h
  have h2 := h.tail.tail
  rw [pow_lit] at h2
  exact TabK.top (Lib.tabIs_of_head (g := 0) (t := 193) (e := 177) (n := 20) (by kernel_rfl) (by kernel_rfl) (by kernel_rfl) (by kernel_rfl) (by kernel_rfl) (by kernel_rfl) h2)
end Go.Proofs.YtjecflbbcnocdaaGreatDoor
