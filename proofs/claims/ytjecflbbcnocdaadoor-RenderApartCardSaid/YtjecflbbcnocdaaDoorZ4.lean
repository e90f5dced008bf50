/- Lemmas of the proof, part 4: what the functions of the program do (contracts), and what follows. -/
import Derived.Test.YtjecflbbcnocdaaDoorZ2
import Derived.Test.YtjecflbbcnocdaaDoorZ3
import Derived.Test.YtjecflbbcnocdaaDoorZ1
import Derived.Test.YtjecflbbcnocdaaDoorRows
import Derived.ProofKit
import Derived.LaidMore
import Derived.OpenShut
import Derived.Stop.LaidErr
import Derived.Lib.LaidTab
import Derived.MakeChecks
namespace Go.Proofs.YtjecflbbcnocdaaDoor
open Go.Lir
set_option maxHeartbeats 1000000
attribute [local irreducible] LC.wp Q1 Qu Qw retQ Q1z LO.wp Qb Calls
set_option linter.unusedSimpArgs false
set_option linter.unusedVariables false
attribute [local irreducible] orF mkF orC Q1J Q1c Q18 Q1L Qj Q1X Q3q Q2B Q35 Qfi Qho
variable {cx : Cx} {w : World} {L : List Res} {i : Nat}
theorem fault_if (c : Int) : (if decide (c ≠ 0) = true then c else 0) = c := by by_cases h : c = 0 <;> simp [h]
theorem QeW {l : List Ty} {regs : Int} {v vf : Value} {g : Flt} {at' : Int} {b : Nat} (hl : tyR.sl cx v l) (hS : St cx w L) (hi : nth L i = some (jdg b vf g at')) :
    Rets Tryd.prog Q3U [.pointer (some ⟨b, 0, none⟩), v, .int .i64 regs] w fun u w' => u = .tuple #[] ∧ St cx w' (L.set i (jdg b vf (orF g (mkF (Qj l regs) at')) at')) := by
  have hS := hS.out hi
  have hlen := hl.len
  have e0 : orF g (mkF (Qj l regs) at') = orF g (mkF (orC (if 8 < l.length then 2 else 0) (Q3j regs l)) at') := by
    congr 2
    unfold Qj
    split
    · rw [Q6o (by decide)]
    · rw [Q4D]
  rw [e0]
  all_goals refine Q5F ?_
  all_goals (unfold code_judge_list_lc)
  refine zM [0, 1, 2] (fun A ρ' w' => Has ρ' A ∧ Has ρ' [] ∧ St cx w' (jdg b vf (orF g (mkF (if 8 < l.length then 2 else 0) at')) at' :: L.eraseIdx i)) ?_ ?_
  · skip
    all_goals (refine Q2 ?_; refine zm ?_; refine zm ?_; refine zL ?_)
    all_goals (first | (refine Q10 ?_) | (refine Q14 ?_) | (refine Qi rfl rfl (fun hc => ?_) (fun hc => ?_)))
    all_goals (refine zR3 (c := Q1p (by intro _; decide) hS fd) (h := ?_); rintro v1 w1 ⟨rfl, hS⟩; simp only [List.set_cons_zero, List.set_cons_succ, if_true, Bool.false_eq_true, if_false] at hS; refine zn ?_; exact ⟨zh, zh, by first | (rw [if_pos (by omega)]; exact hS.sp) | (rw [if_neg (by omega)]; exact hS.sp)⟩)
  rintro ρ w1 ⟨hA, hρ, hS⟩; obtain ⟨ρ, rfl⟩ := env2 hA hρ
  all_goals (refine Q0 ?_; refine Q2 ?_; refine zm ?_; refine zL ?_; refine zm ?_; refine zn ?_; refine Q7 ?_)
  refine zo [0, 2, 14, 15] (fun A ρ' w' => ∃ (j : Nat) (h : Flt), Has ρ' A ∧ Has ρ' [(16, .int .i64 j)] ∧ (j ≤ l.length) ∧ (orF g (mkF (orC (if 8 < l.length then 2 else 0) (Q3j regs l)) at') = orF h (mkF (Q3j regs (l.drop j)) at')) ∧ St cx w' (jdg b vf h at' :: L.eraseIdx i)) (fun ρ' _ => (l.length - iv (ρ' 16)).toNat) ?_ ?_
  · exact ⟨0, _, zh, zh, (by omega), by rw [List.drop_zero, Q1S], hS.sp⟩
  rintro ρ w1 ⟨j, h, hA, hρ, hj, hd, hS⟩; obtain ⟨ρ, rfl⟩ := env2 hA hρ
  unfold Q2O
  all_goals (refine Q0 ?_; refine Q2 ?_; refine Qp rfl rfl ?_; refine zn ?_; refine Q0 ?_)
  refine Qm rfl (fun hc => ?_) (fun hc => ?_)
  · skip
    all_goals (refine zsk ?_; refine Q0 ?_; refine Q7 ?_; refine Q0 ?_; refine Q2 ?_; refine zi ?_; intro b1 o1 cs1 x1 hat1 hx1 he1; obtain ⟨vl1, rfl, hl1⟩ := QS he1; (first | (refine zv hS ?_) | (refine zvk hS ?_)); refine Qf hS ?_; intro p7 w1 hS; refine zsn hS ?_; intro w1 hS; have hS := hS.ns; refine zn ?_; refine Q0 ?_; refine Q2 ?_; refine zv hS ?_; refine zm ?_; refine zR2 (c := tcheck_c (by assumption) hS) (h := ?_); rintro v1 w1 ⟨rfl, hS⟩; refine zm ?_; refine zn ?_; refine Q2 ?_; refine zm ?_; refine zm ?_; refine Q6c rfl rfl ?_; refine zm ?_; refine zR3 (c := Q1p (by intro h; exact of_decide_eq_true h) hS fd) (h := ?_); rintro v1 w1 ⟨rfl, hS⟩; simp only [List.set_cons_zero, List.set_cons_succ, fault_if] at hS; refine zn ?_; refine Q2 ?_; refine zad ?_; refine zm ?_; refine zn ?_; exact ⟨⟨j + 1, _, zh, zh, (by omega), by rw [hd, Q4 hx1, Q3j, ← Q1S], hS.sp⟩, Qk (by omega)⟩)
  · skip
    all_goals (refine zex ?_; refine Q3J ?_; refine ⟨_, rfl, rfl, ?_⟩; rw [hd, List.drop_of_length_le (by omega), Q3j, mkF_0, Qg6 rfl]; exact St.back hS hi)
def fltV (g : Flt) : Value := .agg ⟨[.int .i64 g.1, .int .i64 g.2]⟩
theorem kindne_c {t : Ty} {cs : List Value} (ht : tyR.at cx cs t) (hS : St cx w L) : Rets Tryd.prog Q2P [.agg ⟨cs⟩] w fun u w' => u = .bool (decide (t.kind ≠ 1)) ∧ St cx w' L := by
  obtain ⟨v, rfl, hl⟩ := QS ht
  all_goals refine Q9l ?_
  all_goals (unfold code_Check_1_lc; refine Q0 ?_; refine Q2 ?_; refine zb hS ?_; intro p1 w1 hS; refine zm ?_; refine zn ?_; refine Q0 ?_; refine Q2 ?_; refine zf0 ?_; refine zl hS ?_; refine Q6c rfl rfl ?_; refine zm ?_; refine zn ?_; refine zr ?_; refine zf ?_; refine ⟨_, rfl, ?_, hS.sp⟩; (rfl); done)
theorem pcont_c {l : List Ty} {v : Value} (hl : tyR.sl cx v l) (hS : St cx w L) : Rets Tryd.prog QP [v, .func (.func Q2P) #[] #[]] w fun u w' => ∃ q, u = .bool q ∧ (q = true ↔ ∃ t ∈ l, t.kind ≠ 1) ∧ St cx w' L := by
  have hlen := hl.len
  have hidx : ∀ {w : World} {L : List Res}, St cx w L → Rets Tryd.prog Qh [v, .func (.func Q2P) #[] #[]] w fun u w' => ∃ r : Int, u = .int .i64 r ∧ (0 ≤ r ↔ ∃ t ∈ l, t.kind ≠ 1) ∧ St cx w' L := by
    intro w L hS
    all_goals refine Q1y ?_
    all_goals (unfold slices_IndexFunc_api_Type_api_Type_lc; refine Q0 ?_; refine Q2 ?_; refine zm ?_; refine zn ?_; refine Q0 ?_; refine Q0 ?_; refine Q2 ?_; refine zm ?_; refine zL ?_; refine zm ?_; refine zn ?_; refine Q7 ?_)
    refine zoL hS [0, 1, 7] (fun A LL ρ' w' => ∃ (j : Nat), Has ρ' A ∧ Has ρ' [(8, .int .i64 j)] ∧ (j ≤ l.length) ∧ (∀ t ∈ l.take j, t.kind = 1) ∧ St cx w' (LL)) (fun ρ' _ => (l.length - iv (ρ' 8)).toNat) ?_ ?_
    · exact ⟨0, zh, zh, (by omega), by simp, hS.sp⟩
    rintro ρ w1 ⟨j, hA, hρ, hj, hd, hS⟩; obtain ⟨ρ, rfl⟩ := env2 hA hρ
    unfold QO
    all_goals (refine Q0 ?_; refine Q2 ?_; refine Qp rfl rfl ?_; refine zn ?_; refine Q0 ?_)
    refine Qm rfl (fun hc => ?_) (fun hc => ?_)
    · skip
      all_goals (refine zsk ?_; refine Q0 ?_; refine Q7 ?_; refine Q0 ?_; refine Q2 ?_; refine zm ?_; refine zm ?_; refine zn ?_; refine Q0 ?_; refine Q2 ?_; refine zm ?_; refine zm ?_; refine zm ?_; refine zi ?_; intro b1 o1 cs1 x1 hat1 hx1 he1; obtain ⟨vl1, rfl, hl1⟩ := QS he1; (first | (refine zv hS ?_) | (refine zvk hS ?_)))
      all_goals (refine Qgw rfl (by kernel_rfl) (by rfl) (kindne_c he1 hS) ?_; rintro v1 w1 ⟨rfl, hS⟩; (cases hdec : decide (x1.kind ≠ 1)); have hg := of_decide_eq_false hdec; rotate_left; have hg := of_decide_eq_true hdec; all_goals skip)
      all_goals (refine zn ?_)
      all_goals
        first
        | (refine zct ?_ -- Qh c1
           all_goals (refine Q0 ?_; refine Q2 ?_; refine zm ?_; refine zm ?_; refine zn ?_; refine zr ?_; refine zf ?_)
           all_goals (exact ⟨_, rfl, j, rfl, ⟨fun _ => ⟨x1, List.mem_of_getElem? hx1, hg⟩, fun _ => by omega⟩, hS.sp⟩))
        | (refine zcf ?_ -- Qh c1
           all_goals refine zsk ?_)
      all_goals (refine Q2 ?_; refine zad ?_; refine zm ?_; refine zn ?_; exact ⟨⟨j + 1, zh, zh, (by omega), Q80 hd hx1 (Classical.not_not.1 hg), hS.sp⟩, Qk (by omega)⟩)
    · skip
      all_goals (refine zex ?_; refine Q0 ?_; refine Q2 ?_; refine zm ?_; refine zn ?_; refine zr ?_; refine zf ?_)
      all_goals (first | (exact ⟨_, rfl, j, rfl, ⟨fun _ => ⟨x1, List.mem_of_getElem? hx1, hg⟩, fun _ => by omega⟩, hS.sp⟩) | (exact ⟨_, rfl, -1, rfl, ⟨fun h => by omega, fun ⟨t, ht, hk⟩ => absurd (Q7Z hd (by omega) t ht) hk⟩, hS.sp⟩))
  all_goals refine Q1h ?_
  all_goals (unfold slices_ContainsFunc_api_Type_api_Type_lc; refine Q0 ?_; refine Q2 ?_; refine zm ?_; refine zn ?_; refine Q0 ?_; refine Q2 ?_; refine zm ?_; refine zm ?_; refine zR2 (c := hidx hS) (h := ?_); rintro v1 w1 ⟨r, rfl, hr, hS⟩)
  all_goals (first | (refine QdU ?_) | (refine QdV ?_) | (refine Q3E rfl rfl (fun hc => ?_) (fun hc => ?_)))
  all_goals (refine zm ?_; refine zn ?_; refine zr ?_; refine zf ?_)
  all_goals (first | (exact ⟨_, rfl, _, rfl, ⟨fun _ => hr.1 (by omega), fun _ => rfl⟩, hS.sp⟩) | (exact ⟨_, rfl, _, rfl, ⟨fun h => Bool.noConfusion h, fun h => by have := hr.2 h; omega⟩, hS.sp⟩))
theorem Qhn {g : Flt} {a : Int} {x : Fun} {b : Nat} {y : Block} {q : Bool} (hq : q = true ↔ (b = 0 ∧ (y.regs ≠ x.regs ∨ y.params ≠ x.params))) :
    orF (orF (orF (orF g (mkF (if y.regs < x.regs ∨ 16 < y.regs then 1 else 0) a)) (mkF (Qj y.params y.regs) a)) (mkF (if q = true then 9 else 0) a)) (mkF (if 40 < y.code.length then 2 else 0) a) = orF g (mkF (Q1X x b y) a) := by
  rw [Q1S, Q1S, Q1S]
  congr 2
  unfold Q1X
  by_cases h0 : y.regs < x.regs ∨ 16 < y.regs
  · rw [if_pos h0, if_pos h0]; simp only [Q6o (show (1 : Int) ≠ 0 by decide)]
  · rw [if_neg h0, if_neg h0, Q4D]
    by_cases h : Qj y.params y.regs ≠ 0
    · rw [if_pos h]; simp only [Q6o h]
    · rw [if_neg h, Classical.not_not.1 h, Q4D]
      by_cases hb : b = 0 ∧ (y.regs ≠ x.regs ∨ y.params ≠ x.params)
      · rw [if_pos hb, if_pos (hq.2 hb)]; simp only [Q6o (show (9 : Int) ≠ 0 by decide)]
      · rw [if_neg hb, if_neg (fun h => hb (hq.1 h)), Q4D]
theorem pblock_c {fs : List Fun} {f b : Nat} {x : Fun} {y : Block} {vf : Value} {g : Flt} {a : Int} {p : Nat} (hxf : fs[f]? = some x) (hyb : x.blocks[b]? = some y) (hf0 : f ≤ 1000000) (hb0 : b ≤ 1000000) (hlc : y.code.length ≤ 100000) (hf : funcR.sl cx vf fs) (hS : St cx w L) (hi : nth L i = some (jdg p vf g a)) :
    Rets Tryd.prog Q1H [.pointer (some ⟨p, 0, none⟩), .int .i64 f, .int .i64 b] w fun u w' => u = .tuple #[] ∧ ∃ a', St cx w' (L.set i (jdg p vf (orF g (Q3g fs.length f x b y)) a')) := by
  have hflt := (List.getElem?_eq_some_iff.1 hxf).1
  have hblt := (List.getElem?_eq_some_iff.1 hyb).1
  have hS := hS.out hi
  all_goals refine Q4S ?_
  all_goals (unfold code_judge_block_lc; refine Q0 ?_; refine Q2 ?_; refine zm ?_; refine znc ?_; refine zf0 ?_; refine zf0 ?_; refine zl hS ?_; refine zm ?_; refine zi ?_; intro b1 o1 cs1 x1 hat1 hx1 he1; obtain ⟨vp1, vr1, vb1, rfl, hp1, hr1, hb1⟩ := Q1l he1; (first | (refine zv hS ?_) | (refine zvk hS ?_)); refine Qf hS ?_; intro p6 w1 hS; refine zsn hS ?_; intro w1 hS; have hS := hS.ns; refine zn ?_; have e1 : x = x1 := Option.some.inj (hxf.symm.trans hx1); subst e1; refine Q0 ?_; refine Q2 ?_; refine zf0 ?_; refine zl hS ?_; refine zm ?_; refine zi ?_; intro b2 o2 cs2 x2 hat2 hx2 he2; obtain ⟨vp2, vc2, ve21, ve22, ve23, ve24, ve25, rfl, hp2, hc2, he21, he22, he23, he24, he25⟩ := Q19 he2; (first | (refine zv hS ?_) | (refine zvk hS ?_)); refine Qf hS ?_; intro p7 w1 hS; refine zsn hS ?_; intro w1 hS; have hS := hS.ns; refine zn ?_; have e2 : y = x2 := Option.some.inj (hyb.symm.trans hx2); subst e2)
  refine zM [0, 1, 2, 6, 7] (fun A ρ' w' => Has ρ' A ∧ Has ρ' [] ∧ St cx w' (blk p7 65 [.int .i64 y.regs, vp2, vc2, .int .i64 y.fin.op, .int .i64 y.fin.a, .int .i64 y.fin.yes.block, ve21, ve22, .int .i64 y.fin.no.block, ve23, ve24, ve25] :: blk p6 56 [.int .i64 x.regs, vp1, vr1, vb1] :: jdg p vf g (Q35 f b) :: L.eraseIdx i)) ?_ ?_
  · skip
    all_goals (refine Q2 ?_; refine zm ?_; refine zm ?_; refine zm ?_; refine zR2 (c := Qg5 f b hf0 hb0 hS) (h := ?_); rintro v1 w1 ⟨rfl, hS⟩; refine znc ?_; refine zf0 ?_; refine zst hS ?_; intro w1 hS; have hS := hS.ns; refine zn ?_; exact ⟨zh, zh, hS.sp⟩)
  rintro ρ w1 ⟨hA, hρ, hS⟩; obtain ⟨ρ, rfl⟩ := env2 hA hρ
  refine zM [0, 1, 2, 6, 7] (fun A ρ' w' => Has ρ' A ∧ Has ρ' [] ∧ St cx w' (blk p7 65 [.int .i64 y.regs, vp2, vc2, .int .i64 y.fin.op, .int .i64 y.fin.a, .int .i64 y.fin.yes.block, ve21, ve22, .int .i64 y.fin.no.block, ve23, ve24, ve25] :: blk p6 56 [.int .i64 x.regs, vp1, vr1, vb1] :: jdg p vf (orF g (mkF (if y.regs < x.regs ∨ 16 < y.regs then 1 else 0) (Q35 f b))) (Q35 f b) :: L.eraseIdx i)) ?_ ?_
  · skip
    all_goals (refine Q2 ?_; refine zm ?_; refine zf0 ?_; refine zl hS ?_; refine zf0 ?_; refine zl hS ?_)
    all_goals (first | (refine Q2D ?_) | (refine Q2E ?_) | (refine Q1i rfl rfl (fun hc => ?_) (fun hc => ?_)))
    all_goals (refine zm ?_; (first | refine zgn ?_ | (refine zgy ?_; refine zf0 ?_)); (first | refine zgn ?_ | (refine zgy ?_; refine zl hS ?_)))
    all_goals (first | refine zgn ?_ | (refine zgy ?_; (first | (refine Q10 ?_) | (refine Q14 ?_) | (refine Qi rfl rfl (fun hc => ?_) (fun hc => ?_)))))
    all_goals ((first | (refine zpt ?_) | (refine zpf ?_)); refine zR3 (c := Q1p (g := _) (by intro _; decide) hS fd) (h := ?_); rintro v1 w1 ⟨rfl, hS⟩; simp only [List.set_cons_zero, List.set_cons_succ, if_true, Bool.false_eq_true, if_false] at hS; refine zn ?_; exact ⟨zh, zh, by first | (rw [if_pos (by omega)]; exact hS.sp) | (rw [if_neg (by omega)]; exact hS.sp)⟩)
  rintro ρ w1 ⟨hA, hρ, hS⟩; obtain ⟨ρ, rfl⟩ := env2 hA hρ
  all_goals (refine Q0 ?_; refine Q2 ?_; refine zm ?_; refine zf0 ?_; refine zl hS ?_; refine zf0 ?_; refine zl hS ?_; refine zR3 (c := QeW hp2 hS fd) (h := ?_); rintro v1 w1 ⟨rfl, hS⟩; have hS := hS.ns; refine zn ?_; refine Q0 ?_; refine Q2 ?_)
  refine zKL hS 18 [0, 1, 2, 6, 7] (fun A LL ρ' w' => ∃ (q : Bool), Has ρ' A ∧ Has ρ' [(46, .pointer (some ⟨p, 0, none⟩)), (63, .bool q)] ∧ (q = true ↔ (b = 0 ∧ (y.regs ≠ x.regs ∨ y.params ≠ x.params))) ∧ St cx w' (LL)) ?_ ?_
  · skip
    all_goals (refine zm ?_; refine zm ?_)
    all_goals (first | (refine QM ?_) | (refine QR ?_) | (refine Q9 rfl rfl (fun hc => ?_) (fun hc => ?_)))
    all_goals (refine zm ?_; (first | refine zgn ?_ | (refine zgy ?_; refine zf0 ?_)); (first | refine zgn ?_ | (refine zgy ?_; refine zl hS ?_)); (first | refine zgn ?_ | (refine zgy ?_; refine zf0 ?_)); (first | refine zgn ?_ | (refine zgy ?_; refine zl hS ?_)))
    all_goals (first | refine zgn ?_ | (refine zgy ?_; (first | (refine Q22 ?_) | (refine Q23 ?_) | (refine QQ rfl rfl (fun hc => ?_) (fun hc => ?_)))))
    all_goals ((first | refine zgn ?_ | (refine zgy ?_; refine zm ?_)); (first | refine zgn ?_ | (refine zgy ?_; refine zf0 ?_)); (first | refine zgn ?_ | (refine zgy ?_; refine zl hS ?_)); (first | refine zgn ?_ | (refine zgy ?_; refine zf0 ?_)); (first | refine zgn ?_ | (refine zgy ?_; refine zl hS ?_)))
    all_goals (first | refine zgn ?_ | (refine zgy ?_; refine zR3 (c := eqfT_c (by kernel_rfl) (fun a _ b _ {_ _ _ _} h1 h2 h3 => psame_c a b h1 h2 h3) hp2 hp1 hS) (h := ?_); rintro v1 w1 ⟨rfl, hS⟩; (cases hdec : decide (y.params = x.params)); have hg := of_decide_eq_false hdec; rotate_left; have hg := of_decide_eq_true hdec; all_goals skip))
    all_goals ((first | refine zgn ?_ | (refine zgy ?_; refine znt ?_)); (first | refine zgn ?_ | (refine zgy ?_; (first | (refine zpt ?_) | (refine zpf ?_)))); (first | (refine zpt ?_) | (refine zpf ?_)); refine Q8n ?_; refine Q2I ?_)
    all_goals (first | (exact ⟨_, zh, zh, by exact ⟨fun _ => ⟨by omega, .inl (by assumption)⟩, fun _ => rfl⟩, hS.sp⟩) | (exact ⟨_, zh, zh, by exact ⟨fun _ => ⟨by omega, .inr (by assumption)⟩, fun _ => rfl⟩, hS.sp⟩) | (exact ⟨_, zh, zh, by exact ⟨fun h => Bool.noConfusion h, fun h => absurd h.1 (by omega)⟩, hS.sp⟩) | (exact ⟨_, zh, zh, by exact ⟨fun h => Bool.noConfusion h, fun h => h.2.elim (fun h => absurd h (by assumption)) (fun h => absurd (by assumption) h)⟩, hS.sp⟩))
  rintro ρ w1 ⟨q, hA, hρ, hq, hS⟩; obtain ⟨ρ, rfl⟩ := env2 hA hρ
  all_goals (refine zR3 (c := Q1p (g := _) (by intro _; decide) hS fd) (h := ?_); rintro v1 w1 ⟨rfl, hS⟩; simp only [List.set_cons_zero, List.set_cons_succ, if_true, Bool.false_eq_true, if_false] at hS; refine zn ?_)
  refine zM [0, 1, 2, 6, 7] (fun A ρ' w' => Has ρ' A ∧ Has ρ' [] ∧ St cx w' (blk p7 65 [.int .i64 y.regs, vp2, vc2, .int .i64 y.fin.op, .int .i64 y.fin.a, .int .i64 y.fin.yes.block, ve21, ve22, .int .i64 y.fin.no.block, ve23, ve24, ve25] :: blk p6 56 [.int .i64 x.regs, vp1, vr1, vb1] :: jdg p vf (orF g (mkF (Q1X x b y) (Q35 f b))) (Q35 f b) :: L.eraseIdx i)) ?_ ?_
  · skip
    all_goals (refine Q2 ?_; refine zm ?_; refine zf0 ?_; refine zl hS ?_; refine zL ?_)
    all_goals (first | (refine Q10 ?_) | (refine Q14 ?_) | (refine Qi rfl rfl (fun hc => ?_) (fun hc => ?_)))
    all_goals (refine zR3 (c := Q1p (g := _) (by intro _; decide) hS fd) (h := ?_); rintro v1 w1 ⟨rfl, hS⟩; simp only [List.set_cons_zero, List.set_cons_succ, if_true, Bool.false_eq_true, if_false] at hS; refine zn ?_; exact ⟨zh, zh, by rw [← Qhn hq]; first | (rw [if_pos (c := 40 < y.code.length) (by omega)]; exact hS.sp) | (rw [if_neg (c := 40 < y.code.length) (by omega)]; exact hS.sp)⟩)
  rintro ρ w1 ⟨hA, hρ, hS⟩; obtain ⟨ρ, rfl⟩ := env2 hA hρ
  all_goals (refine Q0 ?_; refine Q0 ?_; refine Q2 ?_; refine zm ?_; refine zn ?_; refine Q7 ?_)
  refine zo [0, 1, 2, 6, 7] (fun A ρ' w' => ∃ (j : Nat) (h : Flt) (at2 : Int), Has ρ' A ∧ Has ρ' [(8, .int .i64 j)] ∧ (j ≤ y.code.length) ∧ (orF (orF g (mkF (Q1X x b y) (Q35 f b))) (Q2b fs.length f b 0 y.code) = orF h (Q2b fs.length f b j (y.code.drop j))) ∧ St cx w' (blk p7 65 [.int .i64 y.regs, vp2, vc2, .int .i64 y.fin.op, .int .i64 y.fin.a, .int .i64 y.fin.yes.block, ve21, ve22, .int .i64 y.fin.no.block, ve23, ve24, ve25] :: blk p6 56 [.int .i64 x.regs, vp1, vr1, vb1] :: jdg p vf h at2 :: L.eraseIdx i)) (fun ρ' _ => (y.code.length - iv (ρ' 8)).toNat) ?_ ?_
  · exact ⟨0, _, _, zh, zh, (by omega), by rw [List.drop_zero], hS.sp⟩
  rintro ρ w1 ⟨j, h, at2, hA, hρ, hj, hd, hS⟩; obtain ⟨ρ, rfl⟩ := env2 hA hρ
  unfold Q2A
  all_goals (refine Q0 ?_; refine Q0 ?_; refine Q2 ?_; refine zm ?_; refine zf0 ?_; refine zl hS ?_; refine zL ?_)
  all_goals (first | (refine Q2D ?_) | (refine Q2E ?_) | (refine Q1i rfl rfl (fun hc => ?_) (fun hc => ?_)))
  all_goals (refine zm ?_; (first | refine zgn ?_ | (refine zgy ?_; refine zm ?_)); (first | refine zgn ?_ | (refine zgy ?_; refine znc ?_)); (first | refine zgn ?_ | (refine zgy ?_; refine zf0 ?_)); (first | refine zgn ?_ | (refine zgy ?_; (first | refine zf0 ?_ | refine zfd ?_))); (first | refine zgn ?_ | (refine zgy ?_; refine zl hS ?_)))
  all_goals (first | refine zgn ?_ | (refine zgy ?_; (first | (refine QM ?_) | (refine QR ?_) | (refine Q9 rfl rfl (fun hc => ?_) (fun hc => ?_)))))
  all_goals ((first | (refine zpt ?_) | (refine zpf ?_)); refine zn ?_)
  all_goals
    first
    | (refine zct ?_ -- Q1H c0
       all_goals (refine zsk ?_; refine Q0 ?_; refine Q7 ?_; refine Q0 ?_; refine Q2 ?_; refine zm ?_; refine zm ?_; refine zm ?_; refine zm ?_; refine zR3 (c := pInsAt_c f b j hf0 hb0 (by omega) hS) (h := ?_); rintro v1 w1 ⟨rfl, hS⟩; refine znc ?_; refine zf0 ?_; refine zst hS ?_; intro w1 hS; have hS := hS.ns; refine zn ?_; have hS : St cx _ (blk p7 65 [.int .i64 y.regs, vp2, vc2, .int .i64 y.fin.op, .int .i64 y.fin.a, .int .i64 y.fin.yes.block, ve21, ve22, .int .i64 y.fin.no.block, ve23, ve24, ve25] :: blk p6 56 [.int .i64 x.regs, vp1, vr1, vb1] :: jdg p vf h (Qho f b j) :: L.eraseIdx i) := hS; refine Q2 ?_; refine zm ?_; refine zf0 ?_; refine zl hS ?_; refine zm ?_; refine zi ?_; intro b3 o3 cs3 x3 hat3 hx3 he3; obtain ⟨vr3, va3, rfl, hr3, ha3⟩ := Q1U he3; (first | (refine zv hS ?_) | (refine zvk hS ?_)); refine zR2 (c := ins_c he3 hf hS fd) (h := ?_); rintro v1 w1 ⟨rfl, hS⟩; have hS := hS.ns; refine zn ?_; refine Q2 ?_; refine zm ?_; refine zad ?_; refine zm ?_; refine zn ?_)
       all_goals (exact ⟨⟨j + 1, _, _, zh, zh, (by omega), by rw [hd, Q4 hx3, Q2b, Q2y], hS.sp⟩, Qk (by omega)⟩))
    | (refine zcf ?_ -- Q1H c0
       all_goals (refine zex ?_; (first | (rw [List.drop_of_length_le (by omega), Q2b, Qg6 (b := (0, 0)) rfl] at hd) | (rw [Qg7 (a := h) (by assumption)] at hd)); refine Q0 ?_; refine Q2 ?_; refine zm ?_; refine zm ?_; refine zm ?_; refine zR2 (c := pEndAt_c f b hf0 hb0 hS) (h := ?_); rintro v1 w1 ⟨rfl, hS⟩; refine znc ?_; refine zf0 ?_; refine zst hS ?_; intro w1 hS; have hS := hS.ns; refine zn ?_; have hS : St cx _ (blk p7 65 [.int .i64 y.regs, vp2, vc2, .int .i64 y.fin.op, .int .i64 y.fin.a, .int .i64 y.fin.yes.block, ve21, ve22, .int .i64 y.fin.no.block, ve23, ve24, ve25] :: blk p6 56 [.int .i64 x.regs, vp1, vr1, vb1] :: jdg p vf h (Qfi f b) :: L.eraseIdx i) := hS; refine Q2 ?_; refine zm ?_; refine zv hS ?_; refine zf0 ?_; refine zv hS ?_; refine zR3 (c := end_c (e := y.fin) he1 ⟨_, _, _, _, _, rfl, he21, he22, he23, he24, he25⟩ hS fd) (h := ?_); rintro v1 w1 ⟨rfl, hS⟩; have hS := hS.ns; refine zn ?_)
       all_goals (refine Q3J ?_; refine ⟨_, rfl, rfl, Qfi f b, ?_⟩; have hS := hS.drop.drop; rw [show orF g (Q3g fs.length f x b y) = orF h (mkF (Q1L x.blocks.length y.fin) (Qfi f b)) from (by unfold Q3g; rw [← Q2y, ← Q2y, hd])]; exact St.back hS hi))
theorem Qhb {g : Flt} {a : Int} {x : Fun} {f : Nat} {q : Bool} (hq : q = true ↔ (f = 0 ∧ (0 < x.regs ∨ 0 < x.params.length ∨ ∃ t ∈ x.results, t.kind ≠ 1))) :
    orF (orF (orF (orF (orF g (mkF (if x.regs < 0 ∨ 6 < x.regs then 1 else 0) a)) (mkF (Qj x.params x.regs) a)) (mkF (Qj x.results x.regs) a)) (mkF (if x.blocks.length < 1 ∨ 12 < x.blocks.length then 2 else 0) a)) (mkF (if q = true then 18 else 0) a) = orF g (mkF (Q3q f x) a) := by
  rw [Q1S, Q1S, Q1S, Q1S]
  congr 2
  unfold Q3q
  by_cases h0 : x.regs < 0 ∨ 6 < x.regs
  · rw [if_pos h0, if_pos h0]; simp only [Q6o (show (1 : Int) ≠ 0 by decide)]
  · rw [if_neg h0, if_neg h0, Q4D]
    by_cases h : Qj x.params x.regs ≠ 0
    · rw [if_pos h]; simp only [Q6o h]
    · rw [if_neg h, Classical.not_not.1 h, Q4D]
      by_cases h1 : Qj x.results x.regs ≠ 0
      · rw [if_pos h1]; simp only [Q6o h1]
      · rw [if_neg h1, Classical.not_not.1 h1, Q4D]
        by_cases h2 : x.blocks.length < 1 ∨ 12 < x.blocks.length
        · rw [if_pos h2, if_pos h2]; simp only [Q6o (show (2 : Int) ≠ 0 by decide)]
        · rw [if_neg h2, if_neg h2, Q4D]
          by_cases hb : f = 0 ∧ (0 < x.regs ∨ 0 < x.params.length ∨ ∃ t ∈ x.results, t.kind ≠ 1)
          · rw [if_pos hb, if_pos (hq.2 hb)]
          · rw [if_neg hb, if_neg (fun h => hb (hq.1 h))]
theorem pcheck_c {m : Module} (hsh : m.Short) {cs : List Value} (hm : modR.at cx cs m) (hS : St cx w L) :
    Rets Tryd.prog Q2t [.agg ⟨cs⟩] w fun u w' => u = fltV m.fault ∧ St cx w' L := by
  obtain ⟨vf, rfl, hf⟩ := Q2p hm
  have hsl := hsh.1
  have hsf := hsh.2
  obtain ⟨a0, n0, rfl⟩ := Rep.SR.shape hf
  generalize hvf : Value.slice a0 m.funcs.length n0 = vf at *
  all_goals refine Qdu ?_
  all_goals (unfold code_Check_lc; refine Q0 ?_; refine Q2 ?_; refine zb hS ?_; intro p1 w1 hS; refine Qf hS ?_; intro p2 w1 hS; refine zn ?_; refine Q0 ?_; refine Q2 ?_; refine zv hS ?_; refine Qfy (cs := [vf, .int .i64 0, .int .i64 0, .int .i64 (-1)]) vw vw (by subst hvf; rfl) ?_; refine zb hS ?_; intro p9 w1 hS; refine zm ?_; refine zn ?_)
  refine zM [1, 2, 3] (fun A ρ' w' => Has ρ' A ∧ Has ρ' [] ∧ St cx w' (jdg p9 vf (mkF (if m.funcs.length < 1 ∨ 8 < m.funcs.length then 2 else 0) (-1)) (-1) :: blk p2 25 [.int .i64 0, .int .i64 0] :: blk p1 37 [vf] :: L)) ?_ ?_
  · skip
    all_goals (have hS : St cx _ (jdg p9 vf (0, 0) (-1) :: blk p2 25 [.int .i64 0, .int .i64 0] :: blk p1 37 [vf] :: L) := hS; refine Q2 ?_; refine zm ?_; refine zf0 ?_; refine zl hS ?_; refine zL ?_)
    all_goals (first | (refine QM ?_) | (refine QR ?_) | (refine Q9 rfl rfl (fun hc => ?_) (fun hc => ?_)))
    all_goals (refine zm ?_; (first | refine zgn ?_ | (refine zgy ?_; refine zf0 ?_)); (first | refine zgn ?_ | (refine zgy ?_; refine zl hS ?_)); (first | refine zgn ?_ | (refine zgy ?_; refine zL ?_)))
    all_goals (first | refine zgn ?_ | (refine zgy ?_; (first | (refine Q10 ?_) | (refine Q14 ?_) | (refine Qi rfl rfl (fun hc => ?_) (fun hc => ?_)))))
    all_goals ((first | (refine zpt ?_) | (refine zpf ?_)); refine zR3 (c := Q1p (g := _) (by intro _; decide) hS fd) (h := ?_); rintro v1 w1 ⟨rfl, hS⟩; simp only [List.set_cons_zero, List.set_cons_succ, if_true, Bool.false_eq_true, if_false] at hS; refine zn ?_; exact ⟨zh, zh, by rw [orF_0 (mkF_z _ _)] at hS; first | (rw [if_pos (by omega)]; exact hS.sp) | (rw [if_neg (by omega)]; exact hS.sp)⟩)
  rintro ρ w1 ⟨hA, hρ, hS⟩; obtain ⟨ρ, rfl⟩ := env2 hA hρ
  all_goals (refine Q0 ?_; refine Q0 ?_; refine Q2 ?_; refine zm ?_; refine zn ?_; refine Q7 ?_)
  refine zo [1, 2, 3] (fun A ρ' w' => ∃ (f : Nat) (h : Flt) (a : Int), Has ρ' A ∧ Has ρ' [(4, .int .i64 f)] ∧ (f ≤ m.funcs.length) ∧ (m.fault = orF h (Q2z m.funcs.length f (m.funcs.drop f))) ∧ St cx w' (jdg p9 vf h a :: blk p2 25 [.int .i64 0, .int .i64 0] :: blk p1 37 [vf] :: L)) (fun ρ' _ => (m.funcs.length - iv (ρ' 4)).toNat) ?_ ?_
  · exact ⟨0, _, _, zh, zh, (by omega), by rw [List.drop_zero]; rfl, hS.sp⟩
  rintro ρ w1 ⟨f, h, a, hA, hρ, hj, hd, hS⟩; obtain ⟨ρ, rfl⟩ := env2 hA hρ
  unfold Q5Q
  all_goals (refine Q0 ?_; refine Q0 ?_; refine Q2 ?_; refine zm ?_; refine zf0 ?_; refine zl hS ?_; refine zL ?_)
  all_goals (first | (refine Q2D ?_) | (refine Q2E ?_) | (refine Q1i rfl rfl (fun hc => ?_) (fun hc => ?_)))
  all_goals (refine zm ?_; (first | refine zgn ?_ | (refine zgy ?_; refine zm ?_)); (first | refine zgn ?_ | (refine zgy ?_; refine znc ?_)); (first | refine zgn ?_ | (refine zgy ?_; refine zf0 ?_)); (first | refine zgn ?_ | (refine zgy ?_; (first | refine zf0 ?_ | refine zfd ?_))); (first | refine zgn ?_ | (refine zgy ?_; refine zl hS ?_)))
  all_goals (first | refine zgn ?_ | (refine zgy ?_; (first | (refine QM ?_) | (refine QR ?_) | (refine Q9 rfl rfl (fun hc => ?_) (fun hc => ?_)))))
  all_goals ((first | (refine zpt ?_) | (refine zpf ?_)); refine zn ?_)
  all_goals
    first
    | (refine zct ?_ -- Q2t c0
       all_goals (refine zsk ?_; refine Q0 ?_; refine Q7 ?_; refine Q0 ?_; refine Q2 ?_; refine zf0 ?_; refine zl hS ?_; refine zm ?_; refine zi ?_; intro b1 o1 cs1 x1 hat1 hx1 he1; obtain ⟨vp1, vr1, vb1, rfl, hp1, hr1, hb1⟩ := Q1l he1; (first | (refine zv hS ?_) | (refine zvk hS ?_)); refine Qf hS ?_; intro p5 w1 hS; refine zsn hS ?_; intro w1 hS; have hS := hS.ns; refine zn ?_; have hsx := hsf x1 (List.mem_of_getElem? hx1); have hlb := hsx.2.2.1; have hlp := hp1.len; have hlr := hr1.len; refine Q0 ?_; refine Q2 ?_; refine zm ?_; refine zm ?_; refine zR1 (c := QgQ f (by omega) hS) (h := ?_); rintro v1 w1 ⟨rfl, hS⟩; refine znc ?_; refine zf0 ?_; refine zst hS ?_; intro w1 hS; have hS := hS.ns; refine zn ?_)
       refine zM [1, 2, 3, 4, 5] (fun A ρ' w' => Has ρ' A ∧ Has ρ' [] ∧ St cx w' (blk p5 56 [.int .i64 x1.regs, vp1, vr1, vb1] :: jdg p9 vf (orF h (mkF (if x1.regs < 0 ∨ 6 < x1.regs then 1 else 0) (Q2B f))) (Q2B f) :: blk p2 25 [.int .i64 0, .int .i64 0] :: blk p1 37 [vf] :: L)) ?_ ?_
       · skip
         all_goals (have hS : St cx _ (blk p5 56 [.int .i64 x1.regs, vp1, vr1, vb1] :: jdg p9 vf h (Q2B f) :: blk p2 25 [.int .i64 0, .int .i64 0] :: blk p1 37 [vf] :: L) := hS; refine Q2 ?_; refine zm ?_; refine zf0 ?_; refine zl hS ?_)
         all_goals (first | (refine Q2D ?_) | (refine Q2E ?_) | (refine Q1i rfl rfl (fun hc => ?_) (fun hc => ?_)))
         all_goals (refine zm ?_; (first | refine zgn ?_ | (refine zgy ?_; refine zf0 ?_)); (first | refine zgn ?_ | (refine zgy ?_; refine zl hS ?_)))
         all_goals (first | refine zgn ?_ | (refine zgy ?_; (first | (refine Q10 ?_) | (refine Q14 ?_) | (refine Qi rfl rfl (fun hc => ?_) (fun hc => ?_)))))
         all_goals ((first | (refine zpt ?_) | (refine zpf ?_)); refine zR3 (c := Q1p (g := _) (by intro _; decide) hS fd) (h := ?_); rintro v1 w1 ⟨rfl, hS⟩; simp only [List.set_cons_zero, List.set_cons_succ, if_true, Bool.false_eq_true, if_false] at hS; refine zn ?_; exact ⟨zh, zh, by first | (rw [if_pos (by omega)]; exact hS.sp) | (rw [if_neg (by omega)]; exact hS.sp)⟩)
       rintro ρ w1 ⟨hA, hρ, hS⟩; obtain ⟨ρ, rfl⟩ := env2 hA hρ
       all_goals (refine Q0 ?_; refine Q2 ?_; refine zm ?_; refine zf0 ?_; refine zl hS ?_; refine zf0 ?_; refine zl hS ?_; refine zR3 (c := QeW hp1 hS fd) (h := ?_); rintro v1 w1 ⟨rfl, hS⟩; have hS := hS.ns; refine zn ?_; refine Q0 ?_; refine Q2 ?_; refine zm ?_; refine zf0 ?_; refine zl hS ?_; refine zf0 ?_; refine zl hS ?_; refine zR3 (c := QeW hr1 hS fd) (h := ?_); rintro v1 w1 ⟨rfl, hS⟩; have hS := hS.ns; refine zn ?_)
       refine zM [1, 2, 3, 4, 5] (fun A ρ' w' => Has ρ' A ∧ Has ρ' [] ∧ St cx w' (blk p5 56 [.int .i64 x1.regs, vp1, vr1, vb1] :: jdg p9 vf (orF (orF (orF (orF h (mkF (if x1.regs < 0 ∨ 6 < x1.regs then 1 else 0) (Q2B f))) (mkF (Qj x1.params x1.regs) (Q2B f))) (mkF (Qj x1.results x1.regs) (Q2B f))) (mkF (if x1.blocks.length < 1 ∨ 12 < x1.blocks.length then 2 else 0) (Q2B f))) (Q2B f) :: blk p2 25 [.int .i64 0, .int .i64 0] :: blk p1 37 [vf] :: L)) ?_ ?_
       · skip
         all_goals (refine Q2 ?_; refine zm ?_; refine zf0 ?_; refine zl hS ?_; refine zL ?_)
         all_goals (first | (refine QM ?_) | (refine QR ?_) | (refine Q9 rfl rfl (fun hc => ?_) (fun hc => ?_)))
         all_goals (refine zm ?_; (first | refine zgn ?_ | (refine zgy ?_; refine zf0 ?_)); (first | refine zgn ?_ | (refine zgy ?_; refine zl hS ?_)); (first | refine zgn ?_ | (refine zgy ?_; refine zL ?_)))
         all_goals (first | refine zgn ?_ | (refine zgy ?_; (first | (refine Q10 ?_) | (refine Q14 ?_) | (refine Qi rfl rfl (fun hc => ?_) (fun hc => ?_)))))
         all_goals ((first | (refine zpt ?_) | (refine zpf ?_)); refine zR3 (c := Q1p (g := _) (by intro _; decide) hS fd) (h := ?_); rintro v1 w1 ⟨rfl, hS⟩; simp only [List.set_cons_zero, List.set_cons_succ, if_true, Bool.false_eq_true, if_false] at hS; refine zn ?_; exact ⟨zh, zh, by first | (rw [if_pos (c := x1.blocks.length < 1 ∨ 12 < x1.blocks.length) (by omega)]; exact hS.sp) | (rw [if_neg (c := x1.blocks.length < 1 ∨ 12 < x1.blocks.length) (by omega)]; exact hS.sp)⟩)
       rintro ρ w1 ⟨hA, hρ, hS⟩; obtain ⟨ρ, rfl⟩ := env2 hA hρ
       refine zM [1, 2, 3, 4, 5] (fun A ρ' w' => Has ρ' A ∧ Has ρ' [] ∧ St cx w' (blk p5 56 [.int .i64 x1.regs, vp1, vr1, vb1] :: jdg p9 vf (orF h (mkF (Q3q f x1) (Q2B f))) (Q2B f) :: blk p2 25 [.int .i64 0, .int .i64 0] :: blk p1 37 [vf] :: L)) ?_ ?_
       · skip
         all_goals (refine Q2 ?_)
         refine zKL hS 19 [1, 2, 3, 4, 5] (fun A LL ρ' w' => ∃ (q : Bool), Has ρ' A ∧ Has ρ' [(81, .pointer (some ⟨p9, 0, none⟩)), (99, .bool q)] ∧ (q = true ↔ (f = 0 ∧ (0 < x1.regs ∨ 0 < x1.params.length ∨ ∃ t ∈ x1.results, t.kind ≠ 1))) ∧ St cx w' (LL)) ?_ ?_
         · skip
           all_goals (refine zm ?_; refine zm ?_)
           all_goals (first | (refine QM ?_) | (refine QR ?_) | (refine Q9 rfl rfl (fun hc => ?_) (fun hc => ?_)))
           all_goals (refine zm ?_; (first | refine zgn ?_ | (refine zgy ?_; refine zf0 ?_)); (first | refine zgn ?_ | (refine zgy ?_; refine zl hS ?_)))
           all_goals (first | refine zgn ?_ | (refine zgy ?_; (first | (refine Q10 ?_) | (refine Q14 ?_) | (refine Qi rfl rfl (fun hc => ?_) (fun hc => ?_)))))
           all_goals ((first | refine zgn ?_ | (refine zgy ?_; refine zm ?_)); (first | refine zgn ?_ | (refine zgy ?_; refine zf0 ?_)); (first | refine zgn ?_ | (refine zgy ?_; refine zl hS ?_)); (first | refine zgn ?_ | (refine zgy ?_; refine zL ?_)))
           all_goals (first | refine zgn ?_ | (refine zgy ?_; (first | (refine Q10 ?_) | (refine Q14 ?_) | (refine Qi rfl rfl (fun hc => ?_) (fun hc => ?_)))))
           all_goals ((first | refine zgn ?_ | (refine zgy ?_; (first | (refine zpt ?_) | (refine zpf ?_)))); (first | refine zgn ?_ | (refine zgy ?_; refine zm ?_)); (first | refine zgn ?_ | (refine zgy ?_; refine zf0 ?_)); (first | refine zgn ?_ | (refine zgy ?_; refine zl hS ?_)))
           all_goals ((first | (refine zgn ?_) | (refine zgy ?_; refine zR2 (c := pcont_c hr1 hS) (h := ?_); rintro v1 w1 ⟨qc, rfl, hqc, hS⟩; cases qc)))
           all_goals ((first | refine zgn ?_ | (refine zgy ?_; (first | (refine zpt ?_) | (refine zpf ?_)))); (first | (refine zpt ?_) | (refine zpf ?_)); refine Q8n ?_; refine Q2I ?_)
           all_goals (first | (exact ⟨_, zh, zh, by exact ⟨fun _ => ⟨by omega, .inl (by omega)⟩, fun _ => rfl⟩, hS.sp⟩) | (exact ⟨_, zh, zh, by exact ⟨fun _ => ⟨by omega, .inr (.inl (by omega))⟩, fun _ => rfl⟩, hS.sp⟩) | (exact ⟨_, zh, zh, by exact ⟨fun _ => ⟨by omega, .inr (.inr (hqc.1 rfl))⟩, fun _ => rfl⟩, hS.sp⟩) | (exact ⟨_, zh, zh, by exact ⟨fun h => Bool.noConfusion h, fun h => absurd h.1 (by omega)⟩, hS.sp⟩) | (exact ⟨_, zh, zh, by exact ⟨fun h => Bool.noConfusion h, fun h => h.2.elim (fun h => by omega) (fun h => h.elim (fun h => by omega) (fun h => Bool.noConfusion (hqc.2 h)))⟩, hS.sp⟩))
         rintro ρ w1 ⟨q, hA, hρ, hq, hS⟩; obtain ⟨ρ, rfl⟩ := env2 hA hρ
         all_goals (refine zR3 (c := Q1p (g := _) (by intro _; decide) hS fd) (h := ?_); rintro v1 w1 ⟨rfl, hS⟩; simp only [List.set_cons_zero, List.set_cons_succ, if_true, Bool.false_eq_true, if_false] at hS; refine zn ?_; exact ⟨zh, zh, by rw [← Qhb hq]; exact hS.sp⟩)
       rintro ρ w1 ⟨hA, hρ, hS⟩; obtain ⟨ρ, rfl⟩ := env2 hA hρ
       all_goals (refine Q0 ?_; refine Q2 ?_; refine zm ?_; refine zn ?_; refine Q7 ?_)
       refine zo [1, 2, 3, 4, 5] (fun A ρ' w' => ∃ (b : Nat) (h2 : Flt) (a2 : Int), Has ρ' A ∧ Has ρ' [(6, .int .i64 b)] ∧ (b ≤ x1.blocks.length) ∧ (orF (orF h (mkF (Q3q f x1) (Q2B f))) (Q1m m.funcs.length f x1 0 x1.blocks) = orF h2 (Q1m m.funcs.length f x1 b (x1.blocks.drop b))) ∧ St cx w' (blk p5 56 [.int .i64 x1.regs, vp1, vr1, vb1] :: jdg p9 vf h2 a2 :: blk p2 25 [.int .i64 0, .int .i64 0] :: blk p1 37 [vf] :: L)) (fun ρ' _ => (x1.blocks.length - iv (ρ' 6)).toNat) ?_ ?_
       · exact ⟨0, _, _, zh, zh, (by omega), by rw [List.drop_zero], hS.sp⟩
       rintro ρ w1 ⟨b, h2, a2, hA, hρ, hb, hd2, hS⟩; obtain ⟨ρ, rfl⟩ := env2 hA hρ
       unfold Q4q
       all_goals (refine Q0 ?_; refine Q0 ?_; refine Q2 ?_; refine zm ?_; refine zf0 ?_; refine zl hS ?_; refine zL ?_)
       all_goals (first | (refine Q2D ?_) | (refine Q2E ?_) | (refine Q1i rfl rfl (fun hc => ?_) (fun hc => ?_)))
       all_goals (refine zm ?_; (first | refine zgn ?_ | (refine zgy ?_; refine zm ?_)); (first | refine zgn ?_ | (refine zgy ?_; refine znc ?_)); (first | refine zgn ?_ | (refine zgy ?_; refine zf0 ?_)); (first | refine zgn ?_ | (refine zgy ?_; (first | refine zf0 ?_ | refine zfd ?_))); (first | refine zgn ?_ | (refine zgy ?_; refine zl hS ?_)))
       all_goals (first | refine zgn ?_ | (refine zgy ?_; (first | (refine QM ?_) | (refine QR ?_) | (refine Q9 rfl rfl (fun hc => ?_) (fun hc => ?_)))))
       all_goals ((first | (refine zpt ?_) | (refine zpf ?_)); refine zn ?_)
       all_goals
         first
         | (refine zct ?_ -- Q2t c1
            all_goals (refine zsk ?_; refine Q0 ?_; refine Q7 ?_; obtain ⟨y, hy⟩ : ∃ y, x1.blocks[b]? = some y := ⟨_, List.getElem?_eq_getElem (by omega)⟩; have hsy := hsx.2.2.2 y (List.mem_of_getElem? hy); refine Q2 ?_; refine zm ?_; refine zm ?_; refine zm ?_; refine zR3 (c := pblock_c hx1 hy (by omega) (by omega) hsy.2.1 hf hS fd) (h := ?_); rintro v1 w1 ⟨rfl, a3, hS⟩; have hS := hS.ns; refine zn ?_; refine Q2 ?_; refine zm ?_; refine zad ?_; refine zm ?_; refine zn ?_)
            all_goals (exact ⟨⟨b + 1, _, _, zh, zh, (by omega), by rw [hd2, Q4 hy, Q1m, Q2y], hS.sp⟩, Qk (by omega)⟩))
         | (refine zcf ?_ -- Q2t c1
            all_goals (refine zex ?_; (first | (rw [List.drop_of_length_le (by omega), Q1m, Qg6 (b := (0, 0)) rfl] at hd2) | (rw [Qg7 (a := h2) (by assumption)] at hd2)); refine Q2 ?_; refine zm ?_; refine zad ?_; refine zm ?_; refine zn ?_)
            all_goals (exact ⟨⟨f + 1, h2, a2, zh, zh, (by omega), by rw [hd, Q4 hx1, Q2z, ← Q2y, show orF h (Q7X m.funcs.length f x1) = h2 from (by unfold Q7X; rw [← Q2y, hd2])], hS.sp⟩, Qk (by omega)⟩)))
    | (refine zcf ?_ -- Q2t c0
       all_goals (refine zex ?_; (first | (rw [List.drop_of_length_le (by omega), Q2z, Qg6 (b := (0, 0)) rfl] at hd) | (rw [Qg7 (a := h) (by assumption)] at hd)); refine Q0 ?_; refine Q2 ?_; refine zm ?_; refine znc ?_; refine zf0 ?_; refine zv hS ?_; refine zsn hS ?_; intro w1 hS; have hS := hS.ns; refine zn ?_; refine zr ?_; refine q_retc vw (Q3e (n := 2) (by kernel_rfl) (by kernel_rfl) (hS.blkAt fd) (by rfl) (by rfl)) ?_)
       all_goals (refine ⟨_, rfl, ?_, hS.sp⟩; rw [hd]; rfl; done))
end Go.Proofs.YtjecflbbcnocdaaDoor
namespace Go.Proofs.YtjecflbbcnocdaaDoor
open Go.Lir
set_option maxHeartbeats 1000000
attribute [local irreducible] LC.wp Q1 Qu Qw retQ Q1z LO.wp Qb Calls
set_option linter.unusedSimpArgs false
set_option linter.unusedVariables false
/-- What Print gives: the text, the fault. -/
def Q16 (m : Module) : List UInt8 × Flt :=
  if m.fault.1 ≠ 0 then ([], m.fault) else if m.small = false then ([], (8, -1)) else if 40000 < m.txt.length then ([], (2, -1)) else (m.txt, (0, 0))
theorem pr_1 {m : Module} (h : m.fault.1 ≠ 0) : Q16 m = ([], m.fault) := if_pos h
theorem pr_2 {m : Module} (h : m.fault.1 = 0) (h2 : m.small = false) : Q16 m = ([], (8, -1)) := by unfold Q16; rw [if_neg (fun h9 => h9 h), if_pos h2]
theorem pr_3 {m : Module} (h : m.fault.1 = 0) (h2 : m.small = true) (h3 : 40000 < m.txt.length) : Q16 m = ([], (2, -1)) := by unfold Q16; rw [if_neg (fun h9 => h9 h), if_neg (by rw [h2]; decide), if_pos h3]
theorem pr_4 {m : Module} (h : m.fault.1 = 0) (h2 : m.small = true) (h3 : ¬ 40000 < m.txt.length) : Q16 m = (m.txt, (0, 0)) := by unfold Q16; rw [if_neg (fun h9 => h9 h), if_neg (by rw [h2]; decide), if_neg h3]
attribute [local irreducible] Lib.itoa Lib.join Q24 Q1b Ins.txt Tail.txt To.txt Module.txt Module.fault Module.small
variable {cx : Cx} {w : World} {L : List Res}
theorem has_funs {m : Module} (h : m.fault.1 = 0) : 0 < m.funcs.length := by
  apply Classical.byContradiction
  intro h9
  unfold Module.fault at h
  rw [if_pos (by omega), Qg7 (by rw [Q3O]; decide), Q3O] at h
  cases h
theorem mod_len {m : Module} (hp : m.Pr) : m.txt.length ≤ 280000000 := by
  have := Q6t hp.2
  have := hp.1
  unfold Module.txt; omega
theorem QeV {m : Module} {cs : List Value} (hsh : m.Short) (hr : m.InR) (hx : modR.at cx cs m) (hT : PowT cx) (hS : St cx w L) :
    Rets Tryd.prog Q12 [.agg ⟨cs⟩] w fun u w' => u = .tuple #[strV (Q16 m).1, .agg ⟨[.int .i64 (Q16 m).2.1, .int .i64 (Q16 m).2.2]⟩] ∧ St cx w' L := by
  have hx' := hx
  obtain ⟨vf, rfl, hf⟩ := Q2p hx
  have hpr := fun h => mod_pr hr (m := m) h
  all_goals refine Q8Y ?_
  all_goals (unfold render_Print_lc; refine Q0 ?_; refine Q2 ?_; refine zb hS ?_; intro p1 w1 hS; refine zm ?_; refine Qf hS ?_; intro p3 w1 hS; refine zn ?_; refine Q0 ?_; refine Q0 ?_; refine Q2 ?_; refine zv hS ?_; refine zR1 (c := pcheck_c hsh hx' hS) (h := ?_); rintro v1 w1 ⟨rfl, hS⟩; unfold fltV; refine Qf hS ?_; intro p4 w1 hS; refine zsn hS ?_; intro w1 hS; have hS := hS.ns; refine zn ?_; refine Q0 ?_; refine Q2 ?_; refine zf0 ?_; refine zl hS ?_)
  all_goals (first | (refine Q22 ?_) | (refine Q23 ?_) | (refine QQ rfl rfl (fun hc => ?_) (fun hc => ?_)))
  all_goals (refine zn ?_)
  all_goals
    first
    | (refine zct ?_ -- Q12 c0
       all_goals (refine Q0 ?_; refine zD [(0, none), (1, none), (2, some none)] ?_; have hS := hS.drew; refine zv hS ?_; refine zm ?_; refine zsn hS ?_; intro w1 hS; have hS := hS.ns; refine zn ?_; refine zr ?_; refine QcX vw vw (Q3e (n := 2) (by kernel_rfl) (by kernel_rfl) (hS.blkAt fd) (by rfl) (by rfl)) ?_)
       all_goals (exact ⟨_, rfl, (by rw [pr_1 (by omega)]; rfl), hS.sp⟩))
    | (refine zcf ?_ -- Q12 c0
       all_goals refine zsk ?_)
  all_goals (refine Q0 ?_; refine Q0 ?_; refine Q2 ?_; refine zv hS ?_)
  all_goals (refine zR1 (c := QgT hx' hS) (h := ?_); rintro v1 w1 ⟨rfl, hS⟩; cases hq : m.small)
  all_goals (refine znt ?_; refine zn ?_)
  all_goals
    first
    | (refine zct ?_ -- Q12 c1
       all_goals (refine Q0 ?_; refine Q2 ?_; refine zb2 [_, _] ?_; refine zm ?_; refine zsn hS ?_; intro w1 hS; have hS := hS.ns; refine zn ?_; refine zr ?_; refine QcX vw vw (Q3e (n := 2) (by kernel_rfl) (by kernel_rfl) (hS.blkAt fd) (by rfl) (by rfl)) ?_)
       all_goals ((first | exact ⟨_, rfl, (by rw [pr_1 (by omega)]; rfl), hS.sp⟩ | exact ⟨_, rfl, (by rw [pr_2 (by omega) hq]; rfl), hS.sp⟩)))
    | (refine zcf ?_ -- Q12 c1
       all_goals refine zsk ?_)
  all_goals (refine Q0 ?_; refine Q2 ?_; refine zv hS ?_; have hp := hpr (by omega); have hml := mod_len hp; refine zR1 (c := whole_c hp (has_funs (by omega)) hx' hT hS) (h := ?_); rintro v1 w1 ⟨rfl, hS⟩; refine zm ?_; refine zn ?_; refine Q0 ?_; refine Q0 ?_; refine Q2 ?_; refine zm ?_; refine Qgv rfl ?_)
  all_goals (first | (refine Q10 ?_) | (refine Q14 ?_) | (refine Qi rfl rfl (fun hc => ?_) (fun hc => ?_)))
  all_goals (refine zn ?_)
  all_goals
    first
    | (refine zct ?_ -- Q12 c2
       all_goals (refine Q0 ?_; refine Q2 ?_; refine zb2 [_, _] ?_; refine zm ?_; refine zsn hS ?_; intro w1 hS; have hS := hS.ns; refine zn ?_; refine zr ?_; refine QcX vw vw (Q3e (n := 2) (by kernel_rfl) (by kernel_rfl) (hS.blkAt fd) (by rfl) (by rfl)) ?_)
       all_goals ((first | exact ⟨_, rfl, (by rw [pr_1 (by omega)]; rfl), hS.sp⟩ | exact ⟨_, rfl, (by rw [pr_2 (by omega) hq]; rfl), hS.sp⟩ | exact ⟨_, rfl, (by rw [pr_3 (by omega) hq (by omega)]; rfl), hS.sp⟩)))
    | (refine zcf ?_ -- Q12 c2
       all_goals refine zsk ?_)
  all_goals (refine Q0 ?_; refine Q2 ?_; refine zm ?_; refine zb0 [_, _] ?_; refine zm ?_; refine zsn hS ?_; intro w1 hS; have hS := hS.ns; refine zn ?_; refine zr ?_; refine QcX vw vw (Q3e (n := 2) (by kernel_rfl) (by kernel_rfl) (hS.blkAt fd) (by rfl) (by rfl)) ?_; (first | exact ⟨_, rfl, (by rw [pr_1 (by omega)]; rfl), hS.sp⟩ | exact ⟨_, rfl, (by rw [pr_2 (by omega) hq]; rfl), hS.sp⟩ | exact ⟨_, rfl, (by rw [pr_3 (by omega) hq (by omega)]; rfl), hS.sp⟩ | exact ⟨_, rfl, (by rw [pr_4 (by omega) hq (by omega)]; rfl), hS.sp⟩))
end Go.Proofs.YtjecflbbcnocdaaDoor
namespace Go.Lir
section
variable {P : Program} {l : List GO} {Q : QT} {ρ : Env} {w : World}
end
end Go.Lir
namespace Go.Lir
section
variable {P : Program} {l : List GO} {Q : QT} {ρ : Env} {w : World}
/-- A block is from here on only read, as a list of one. -/
theorem St.freeze1 {α : Type} {r : Rep α} {c : Cx} {L : List Res} {T b : Nat} {cs : List Value} {x : α} (h : St c w (blk b T cs :: L)) (hr : r.at c cs x) : ∃ c', c.Le c' ∧ St c' w L ∧ r.sl c' (.slice (some ⟨b, 0, none⟩) 1 1) [x] := by
  have h1 : St c w (sl T r.es (.slice (some ⟨b, 0, none⟩) 1 1) [cs] :: L) := h.slOf (css := [cs]) (by simp) (by intro q hq; simp at hq; subst hq; exact r.len hr) rfl
  exact h1.freezeL (r := r) ((Rep.LR.nil r _ _).push hr) rfl (by simp)
end
end Go.Lir
namespace Go.Proofs.YtjecflbbcnocdaaDoor
open Go.Lir
set_option maxHeartbeats 1000000
attribute [local irreducible] LC.wp Q1 Qu Qw retQ Q1z LO.wp Qb Calls
set_option linter.unusedSimpArgs false
set_option linter.unusedVariables false
end Go.Proofs.YtjecflbbcnocdaaDoor
namespace Go.Proofs.YtjecflbbcnocdaaDoor
open Go.Lir
set_option maxHeartbeats 1000000
attribute [local irreducible] LC.wp Q1 Qu Qw retQ Q1z LO.wp Qb Calls
set_option linter.unusedSimpArgs false
set_option linter.unusedVariables false
theorem Qbv {x y : Block} {cx : Cx} {w : World} {L : List Res} {cs ds : List Value} (hx : blockR.at cx cs x) (hy : blockR.at cx ds y) (hS : St cx w L) : Rets Tryd.prog Q20 [.agg ⟨cs⟩, .agg ⟨ds⟩] w fun u w' => u = .bool (decide (x = y)) ∧ St cx w' L := by
  obtain ⟨vp, vc, v1, v2, v3, v4, v5, rfl, hp, hc0, h1, h2, h3, h4, h5⟩ := Q19 hx
  obtain ⟨up, uc, u1, u2, u3, u4, u5, rfl, gp, gc, g1, g2, g3, g4, g5⟩ := Q19 hy
  have hlen := hc0.len
  obtain ⟨xr, xp, xc, ⟨xo, xa, xy, xn, xg⟩⟩ := x
  obtain ⟨yr, yp, yc, ⟨yo, ya, yy, yn, yg⟩⟩ := y
  simp only [Block.mk.injEq, Tail.mk.injEq] at *
  all_goals refine Qbb ?_
  all_goals (unfold R_sameBlock_lc; refine Q0 ?_; refine Q2 ?_; refine zb hS ?_; intro p2 w1 hS; refine zb hS ?_; intro p3 w1 hS; refine zm ?_; refine zn ?_)
  refine zML hS [2, 3] (fun A LL ρ' w' => Has ρ' A ∧ Has ρ' [] ∧ (xr = yr) ∧ (xp = yp) ∧ (xc.length = yc.length) ∧ St cx w' (LL)) ?_ ?_
  · skip
    all_goals (refine Q0 ?_; refine Q2 ?_; refine zf0 ?_; refine zl hS ?_; refine zf0 ?_; refine zl hS ?_)
    all_goals (first | (refine Q22 ?_) | (refine Q23 ?_) | (refine QQ rfl rfl (fun hc => ?_) (fun hc => ?_)))
    all_goals (refine zm ?_; (first | refine zgn ?_ | (refine zgy ?_; refine zf0 ?_)); (first | refine zgn ?_ | (refine zgy ?_; refine zl hS ?_)); (first | refine zgn ?_ | (refine zgy ?_; refine zf0 ?_)); (first | refine zgn ?_ | (refine zgy ?_; refine zl hS ?_)))
    all_goals ((first | (refine zgn ?_) | (refine zgy ?_; refine zR2 (c := Q4Z hp gp hS) (h := ?_); rintro v1 w1 ⟨rfl, hS⟩; (cases hdec : decide (xp = yp)); have hg := of_decide_eq_false hdec; rotate_left; have hg := of_decide_eq_true hdec; all_goals skip)))
    all_goals ((first | refine zgn ?_ | (refine zgy ?_; refine znt ?_)); (first | (refine zpt ?_) | (refine zpf ?_)); refine zm ?_; (first | refine zgn ?_ | (refine zgy ?_; refine zf0 ?_)); (first | refine zgn ?_ | (refine zgy ?_; refine zl hS ?_)); (first | refine zgn ?_ | (refine zgy ?_; refine zL ?_)); (first | refine zgn ?_ | (refine zgy ?_; refine zf0 ?_)); (first | refine zgn ?_ | (refine zgy ?_; refine zl hS ?_)); (first | refine zgn ?_ | (refine zgy ?_; refine zL ?_)))
    all_goals (first | refine zgn ?_ | (refine zgy ?_; (first | (refine Q22 ?_) | (refine Q23 ?_) | (refine QQ rfl rfl (fun hc => ?_) (fun hc => ?_)))))
    all_goals ((first | (refine zpt ?_) | (refine zpf ?_)); refine zn ?_)
    all_goals
      first
      | (refine zct ?_ -- Q20 c0
         all_goals (refine Q0 ?_; refine Q2 ?_; refine zm ?_; refine zn ?_; refine zr ?_; refine zf ?_)
         all_goals (refine ⟨_, rfl, ?_, hS.sp⟩; (rw [decide_eq_false]; rintro ⟨e1, e2, e3, _⟩; have := congrArg List.length e3; first | omega | (simp_all; done)); done))
      | (refine zcf ?_ -- Q20 c0
         all_goals refine zsk ?_)
    all_goals (exact ⟨zh, zh, by omega, by assumption, by omega, hS.sp⟩)
  rintro ρ w1 ⟨hA, hρ, hr, hpp, hll, hS⟩; obtain ⟨ρ, rfl⟩ := env2 hA hρ
  all_goals (refine Q0 ?_; refine Q0 ?_; refine Q2 ?_; refine zm ?_; refine zn ?_; refine Q7 ?_)
  refine zoL hS [2, 3] (fun A LL ρ' w' => ∃ (j : Nat), Has ρ' A ∧ Has ρ' [(5, .int .i64 j)] ∧ (j ≤ xc.length) ∧ (xc = yc ↔ xc.drop j = yc.drop j) ∧ St cx w' (LL)) (fun ρ' _ => (xc.length - iv (ρ' 5)).toNat) ?_ ?_
  · exact ⟨0, zh, zh, (by omega), by simp, hS.sp⟩
  rintro ρ w1 ⟨j, hA, hρ, hj, hd, hS⟩; obtain ⟨ρ, rfl⟩ := env2 hA hρ
  unfold Q4r
  all_goals (refine Q0 ?_; refine Q0 ?_; refine Q2 ?_; refine zm ?_; refine zf0 ?_; refine zl hS ?_; refine zL ?_; refine Qp rfl rfl ?_; refine zn ?_)
  refine Qm rfl (fun hc => ?_) (fun hc => ?_)
  · skip
    all_goals (refine zsk ?_; refine Q0 ?_; refine Q7 ?_; refine Q0 ?_; refine zD [(0, none), (1, none), (2, none), (3, none), (4, none), (5, none), (6, none), (7, none), (8, none), (9, none), (10, some none), (11, some none)] ?_; have hS := hS.drew; refine zf0 ?_; refine zl hS ?_; refine zm ?_; refine zi ?_; intro b1 o1 cs1 x1 hat1 hx1 he1; obtain ⟨vr1, va1, rfl, hr1, ha1⟩ := Q1U he1; (first | (refine zv hS ?_) | (refine zvk hS ?_)); refine zf0 ?_; refine zl hS ?_; refine zm ?_; refine zi ?_; intro b2 o2 cs2 x2 hat2 hx2 he2; obtain ⟨vr2, va2, rfl, hr2, ha2⟩ := Q1U he2; (first | (refine zv hS ?_) | (refine zvk hS ?_)))
    all_goals (refine zR2 (c := Qg1 he1 he2 hS) (h := ?_); rintro v1 w1 ⟨rfl, hS⟩; (cases hdec : decide (x1 = x2)); have hg := of_decide_eq_false hdec; rotate_left; have hg := of_decide_eq_true hdec; all_goals skip)
    all_goals (refine znt ?_; refine zn ?_)
    all_goals
      first
      | (refine zct ?_ -- Q20 c2
         all_goals (refine Q0 ?_; refine Q2 ?_; refine zm ?_; refine zn ?_; refine zr ?_; refine zf ?_)
         all_goals (refine ⟨_, rfl, ?_, hS.sp⟩; (rw [decide_eq_false]; rintro ⟨e1, e2, e3, _⟩; have := congrArg List.length e3; first | omega | (simp_all; done)); done))
      | (refine zcf ?_ -- Q20 c2
         all_goals refine zsk ?_)
    all_goals (refine Q2 ?_; refine zm ?_; refine zad ?_; refine zm ?_; refine zn ?_; exact ⟨⟨j + 1, zh, zh, (by omega), by rw [hd, Q4 hx1, Q4 hx2, hg]; simp, hS.sp⟩, Qk (by omega)⟩)
  · skip
    all_goals (refine zex ?_; refine Q0 ?_; refine Q2 ?_; refine zf0 ?_; (first | refine zf0 ?_ | refine zfd ?_); refine zl hS ?_; refine zf0 ?_; (first | refine zf0 ?_ | refine zfd ?_); refine zl hS ?_)
    all_goals (first | (refine QM ?_) | (refine QR ?_) | (refine Q9 rfl rfl (fun hc => ?_) (fun hc => ?_)))
    all_goals (refine zm ?_; (first | refine zgn ?_ | (refine zgy ?_; refine zf0 ?_)); (first | refine zgn ?_ | (refine zgy ?_; (first | refine zf0 ?_ | refine zfd ?_))); (first | refine zgn ?_ | (refine zgy ?_; refine zl hS ?_)); (first | refine zgn ?_ | (refine zgy ?_; refine zf0 ?_)); (first | refine zgn ?_ | (refine zgy ?_; (first | refine zf0 ?_ | refine zfd ?_))); (first | refine zgn ?_ | (refine zgy ?_; refine zl hS ?_)))
    all_goals (first | refine zgn ?_ | (refine zgy ?_; (first | (refine QM ?_) | (refine QR ?_) | (refine Q9 rfl rfl (fun hc => ?_) (fun hc => ?_)))))
    all_goals ((first | (refine zpt ?_) | (refine zpf ?_)); refine zm ?_; (first | refine zgn ?_ | (refine zgy ?_; refine zf0 ?_)); (first | refine zgn ?_ | (refine zgy ?_; (first | refine zf0 ?_ | refine zfd ?_))); (first | refine zgn ?_ | (refine zgy ?_; refine zv hS ?_)); (first | refine zgn ?_ | (refine zgy ?_; refine zf0 ?_)); (first | refine zgn ?_ | (refine zgy ?_; (first | refine zf0 ?_ | refine zfd ?_))); (first | refine zgn ?_ | (refine zgy ?_; refine zv hS ?_)))
    all_goals ((first | (refine zgn ?_) | (refine zgy ?_; refine zR2 (c := Qe8 (x := xy) (y := yy) ⟨_, _, rfl, h1, h2⟩ ⟨_, _, rfl, g1, g2⟩ hS) (h := ?_); rintro v1 w1 ⟨rfl, hS⟩; (cases hdec : decide (xy = yy)); have hg := of_decide_eq_false hdec; rotate_left; have hg := of_decide_eq_true hdec; all_goals skip)))
    all_goals ((first | (refine zpt ?_) | (refine zpf ?_)); refine zm ?_; (first | refine zgn ?_ | (refine zgy ?_; refine zf0 ?_)); (first | refine zgn ?_ | (refine zgy ?_; (first | refine zf0 ?_ | refine zfd ?_))); (first | refine zgn ?_ | (refine zgy ?_; refine zv hS ?_)); (first | refine zgn ?_ | (refine zgy ?_; refine zf0 ?_)); (first | refine zgn ?_ | (refine zgy ?_; (first | refine zf0 ?_ | refine zfd ?_))); (first | refine zgn ?_ | (refine zgy ?_; refine zv hS ?_)))
    all_goals ((first | (refine zgn ?_) | (refine zgy ?_; refine zR2 (c := Qe8 (x := xn) (y := yn) ⟨_, _, rfl, h3, h4⟩ ⟨_, _, rfl, g3, g4⟩ hS) (h := ?_); rintro v1 w1 ⟨rfl, hS⟩; (cases hdec : decide (xn = yn)); have hg := of_decide_eq_false hdec; rotate_left; have hg := of_decide_eq_true hdec; all_goals skip)))
    all_goals ((first | (refine zpt ?_) | (refine zpf ?_)); refine zm ?_; (first | refine zgn ?_ | (refine zgy ?_; refine zf0 ?_)); (first | refine zgn ?_ | (refine zgy ?_; (first | refine zf0 ?_ | refine zfd ?_))); (first | refine zgn ?_ | (refine zgy ?_; refine zl hS ?_)); (first | refine zgn ?_ | (refine zgy ?_; refine zf0 ?_)); (first | refine zgn ?_ | (refine zgy ?_; (first | refine zf0 ?_ | refine zfd ?_))); (first | refine zgn ?_ | (refine zgy ?_; refine zl hS ?_)); (first | (refine zgn ?_) | (refine zgy ?_; refine zR2 (c := Q8r h5 g5 hS) (h := ?_); rintro v1 w1 ⟨rfl, hS⟩)); (first | (refine zpt ?_) | (refine zpf ?_)); refine zm ?_; refine zn ?_; refine zr ?_; refine zf ?_; (first | (refine ⟨_, rfl, ?_, hS.sp⟩; (rw [decide_eq_false]; rintro ⟨e1, e2, e3, _⟩; have := congrArg List.length e3; first | omega | (simp_all; done)); done) | (refine ⟨_, rfl, ?_, hS.sp⟩; rw [decide_eq_false]; rintro ⟨e1, e2, e3, _⟩; rw [hd, Q4 hx1, Q4 hx2, List.cons.injEq] at e3; exact hg e3.1; done) | (refine ⟨_, rfl, ?_, hS.sp⟩; have hcc : xc = yc := (by rw [hd, List.drop_of_length_le (by omega), List.drop_of_length_le (by omega)]); simp [*]; done)))
theorem Qg0 {x y : Module} {cx : Cx} {w : World} {L : List Res} {cs ds : List Value} (hx : modR.at cx cs x) (hy : modR.at cx ds y) (hS : St cx w L) : Rets Tryd.prog Qt [.agg ⟨cs⟩, .agg ⟨ds⟩] w fun u w' => u = .bool (decide (x = y)) ∧ St cx w' L := by
  obtain ⟨vf, rfl, hl⟩ := Q2p hx
  obtain ⟨uf, rfl, hm⟩ := Q2p hy
  obtain ⟨l⟩ := x
  obtain ⟨m⟩ := y
  have hlen := hl.len
  simp only [Module.mk.injEq] at *
  all_goals refine Q9P ?_
  all_goals (unfold R_SameModule_lc; refine Q0 ?_; refine Q2 ?_; refine zb hS ?_; intro p2 w1 hS; refine zb hS ?_; intro p3 w1 hS; refine zm ?_; refine zn ?_; refine Q0 ?_; refine Q0 ?_; refine Q2 ?_; refine zf0 ?_; refine zl hS ?_; refine zL ?_; refine zf0 ?_; refine zl hS ?_; refine zL ?_)
  all_goals (first | (refine Q22 ?_) | (refine Q23 ?_) | (refine QQ rfl rfl (fun hc => ?_) (fun hc => ?_)))
  all_goals (refine zn ?_)
  all_goals
    first
    | (refine zct ?_ -- Qt c0
       all_goals (refine Q0 ?_; refine Q2 ?_; refine zm ?_; refine zn ?_; refine zr ?_; refine zf ?_)
       all_goals (refine ⟨_, rfl, ?_, hS.sp⟩; rw [decide_eq_false]; exact fun e => absurd (congrArg List.length e) (by omega); done))
    | (refine zcf ?_ -- Qt c0
       all_goals refine zsk ?_)
  all_goals (refine Q0 ?_; refine Q0 ?_; refine Q2 ?_; refine zm ?_; refine zn ?_; refine Q7 ?_)
  refine zoL hS [2, 3] (fun A LL ρ' w' => ∃ (j : Nat), Has ρ' A ∧ Has ρ' [(5, .int .i64 j)] ∧ (j ≤ l.length) ∧ (l.length = m.length) ∧ (l = m ↔ l.drop j = m.drop j) ∧ St cx w' (LL)) (fun ρ' _ => (l.length - iv (ρ' 5)).toNat) ?_ ?_
  · exact ⟨0, zh, zh, (by omega), (by omega), by simp, hS.sp⟩
  rintro ρ w1 ⟨j, hA, hρ, hj, hlm, hd, hS⟩; obtain ⟨ρ, rfl⟩ := env2 hA hρ
  unfold Q40
  all_goals (refine Q0 ?_; refine Q0 ?_; refine Q2 ?_; refine zm ?_; refine zf0 ?_; refine zl hS ?_; refine zL ?_; refine Qp rfl rfl ?_; refine zn ?_)
  refine Qm rfl (fun hc => ?_) (fun hc => ?_)
  · skip
    all_goals (refine zsk ?_; refine Q0 ?_; refine Q7 ?_; refine Q0 ?_)
    refine s_split 10 11 (by kernel_rfl) ?_ ?_
    · skip
      all_goals (refine zC [(0, none), (1, none), (2, none), (3, none), (4, none), (5, none), (6, none), (7, none), (8, none), (9, none), (10, some (some [1, 4, 6, 9])), (11, some (some [1, 4, 6, 9])), (12, some (some [6, 9])), (13, some none)] ?_; have hS := hS.drew; refine s_cq ?_; refine zf0 ?_; refine zt ?_; refine s_cq ?_; refine zl hS ?_; refine zt ?_; refine s_cq ?_; refine zm ?_; refine zt ?_; refine s_cq ?_; refine zi ?_; intro b1 o1 cs1 x1 hat1 hx1 he1; obtain ⟨vp1, vr1, vb1, rfl, hp1, hr1, hb1⟩ := Q1l he1; refine zt ?_; refine s_cq ?_; (first | (refine zv hS ?_) | (refine zvk hS ?_)); refine zt ?_; refine s_cq ?_; refine zf0 ?_; refine zt ?_; refine s_cq ?_; refine zl hS ?_; refine zt ?_; refine s_cq ?_; refine zm ?_; refine zt ?_; refine s_cq ?_; refine zi ?_; intro b2 o2 cs2 x2 hat2 hx2 he2; obtain ⟨vp2, vr2, vb2, rfl, hp2, hr2, hb2⟩ := Q1l he2; refine zt ?_; refine s_cq ?_; (first | (refine zv hS ?_) | (refine zvk hS ?_)); refine zt ?_; refine Q13 ?_; refine Qf hS ?_; intro p6 w1 hS; refine zt ?_; refine zy ?_; refine Q13 ?_; refine Qf hS ?_; intro p7 w1 hS; refine zt ?_)
      all_goals (refine zy ?_; refine Q13 ?_; refine zsn hS ?_; intro w1 hS; have hS := hS.ns; refine zt ?_; refine zy ?_; refine s_cf ?_; refine zsn hS ?_; intro w1 hS; have hS := hS.ns; refine zt ?_; refine zcn ?_; refine Q0 ?_; refine Q0 ?_; refine Q2 ?_; refine zf0 ?_; refine zl hS ?_; refine zf0 ?_; refine zl hS ?_)
      all_goals (first | (refine Q22 ?_) | (refine Q23 ?_) | (refine QQ rfl rfl (fun hc => ?_) (fun hc => ?_)))
      all_goals (refine zm ?_; (first | refine zgn ?_ | (refine zgy ?_; refine zf0 ?_)); (first | refine zgn ?_ | (refine zgy ?_; refine zl hS ?_)); (first | refine zgn ?_ | (refine zgy ?_; refine zf0 ?_)); (first | refine zgn ?_ | (refine zgy ?_; refine zl hS ?_)))
      all_goals ((first | (refine zgn ?_) | (refine zgy ?_; refine zR2 (c := Q4Z (l := x1.params) (m := x2.params) hp1 hp2 hS) (h := ?_); rintro v1 w1 ⟨rfl, hS⟩; (cases hdec : decide (x1.params = x2.params)); have hg := of_decide_eq_false hdec; rotate_left; have hg := of_decide_eq_true hdec; all_goals skip)))
      all_goals ((first | refine zgn ?_ | (refine zgy ?_; refine znt ?_)); (first | (refine zpt ?_) | (refine zpf ?_)); refine zm ?_; (first | refine zgn ?_ | (refine zgy ?_; refine zf0 ?_)); (first | refine zgn ?_ | (refine zgy ?_; refine zl hS ?_)); (first | refine zgn ?_ | (refine zgy ?_; refine zf0 ?_)); (first | refine zgn ?_ | (refine zgy ?_; refine zl hS ?_)))
      all_goals ((first | (refine zgn ?_) | (refine zgy ?_; refine zR2 (c := Q4Z (l := x1.results) (m := x2.results) hr1 hr2 hS) (h := ?_); rintro v1 w1 ⟨rfl, hS⟩; (cases hdec : decide (x1.results = x2.results)); have hg := of_decide_eq_false hdec; rotate_left; have hg := of_decide_eq_true hdec; all_goals skip)))
      all_goals ((first | refine zgn ?_ | (refine zgy ?_; refine znt ?_)); (first | (refine zpt ?_) | (refine zpf ?_)); refine zm ?_; (first | refine zgn ?_ | (refine zgy ?_; refine zf0 ?_)); (first | refine zgn ?_ | (refine zgy ?_; refine zl hS ?_)); (first | refine zgn ?_ | (refine zgy ?_; refine zL ?_)); (first | refine zgn ?_ | (refine zgy ?_; refine zf0 ?_)); (first | refine zgn ?_ | (refine zgy ?_; refine zl hS ?_)); (first | refine zgn ?_ | (refine zgy ?_; refine zL ?_)))
      all_goals (first | refine zgn ?_ | (refine zgy ?_; (first | (refine Q22 ?_) | (refine Q23 ?_) | (refine QQ rfl rfl (fun hc => ?_) (fun hc => ?_)))))
      all_goals ((first | (refine zpt ?_) | (refine zpf ?_)); refine zn ?_)
      all_goals
        first
        | (refine zct ?_ -- Qt c2
           all_goals (refine Q0 ?_; refine Q2 ?_; refine zm ?_; refine zn ?_; refine zr ?_; refine zf ?_)
           all_goals (first | (refine ⟨_, rfl, ?_, hS.sp⟩; rw [decide_eq_false]; exact fun e => absurd (congrArg List.length e) (by omega); done) | (refine ⟨_, rfl, ?_, hS.sp⟩; (rw [decide_eq_false]; rw [hd, Q4 hx1, Q4 hx2, List.cons.injEq]; rintro ⟨rfl, _⟩; first | (simp_all; done) | (simp at *; omega)); done)))
        | (refine zcf ?_ -- Qt c2
           all_goals refine zsk ?_)
      all_goals (refine Q0 ?_; have hlb := hb1.len; refine Q2 ?_; refine zm ?_; refine zn ?_; refine Q7 ?_)
      refine zoL hS [2, 3, 5, 6, 7] (fun A LL ρ' w' => ∃ (i : Nat), Has ρ' A ∧ Has ρ' [(8, .int .i64 i)] ∧ (i ≤ x1.blocks.length) ∧ (x1.blocks.length = x2.blocks.length) ∧ (x1.regs = x2.regs) ∧ (x1.params = x2.params) ∧ (x1.results = x2.results) ∧ (x1.blocks = x2.blocks ↔ x1.blocks.drop i = x2.blocks.drop i) ∧ St cx w' (LL)) (fun ρ' _ => (x1.blocks.length - iv (ρ' 8)).toNat) ?_ ?_
      · exact ⟨0, zh, zh, (by omega), (by omega), (by omega), by assumption, by assumption, by simp, hS.sp⟩
      rintro ρ w1 ⟨i, hA, hρ, hi, hlb2, hre, hpe, hrr, hd2, hS⟩; obtain ⟨ρ, rfl⟩ := env2 hA hρ
      unfold Q2C
      all_goals (refine Q0 ?_; refine Q0 ?_; refine Q2 ?_; refine zm ?_; refine zf0 ?_; refine zl hS ?_; refine zL ?_; refine Qp rfl rfl ?_; refine zn ?_)
      refine Qm rfl (fun hc => ?_) (fun hc => ?_)
      · skip
        all_goals (refine zsk ?_; refine Q0 ?_; refine Q7 ?_; refine Q0 ?_; refine zD [(0, none), (1, none), (2, none), (3, none), (4, none), (5, none), (6, none), (7, none), (8, none), (9, none), (10, some none), (11, some none)] ?_; have hS := hS.drew; refine zf0 ?_; refine zl hS ?_; refine zm ?_; refine zi ?_; intro b3 o3 cs3 x3 hat3 hx3 he3; obtain ⟨vp3, vc3, ve31, ve32, ve33, ve34, ve35, rfl, hp3, hc3, he31, he32, he33, he34, he35⟩ := Q19 he3; (first | (refine zv hS ?_) | (refine zvk hS ?_)); refine zf0 ?_; refine zl hS ?_; refine zm ?_; refine zi ?_; intro b4 o4 cs4 x4 hat4 hx4 he4; obtain ⟨vp4, vc4, ve41, ve42, ve43, ve44, ve45, rfl, hp4, hc4, he41, he42, he43, he44, he45⟩ := Q19 he4; (first | (refine zv hS ?_) | (refine zvk hS ?_)))
        all_goals (refine zR2 (c := Qbv he3 he4 hS) (h := ?_); rintro v1 w1 ⟨rfl, hS⟩; (cases hdec : decide (x3 = x4)); have hg := of_decide_eq_false hdec; rotate_left; have hg := of_decide_eq_true hdec; all_goals skip)
        all_goals (refine znt ?_; refine zn ?_)
        all_goals
          first
          | (refine zct ?_ -- Qt c4
             all_goals (refine Q0 ?_; refine Q2 ?_; refine zm ?_; refine zn ?_; refine zr ?_; refine zf ?_)
             all_goals (first | (refine ⟨_, rfl, ?_, hS.sp⟩; rw [decide_eq_false]; exact fun e => absurd (congrArg List.length e) (by omega); done) | (refine ⟨_, rfl, ?_, hS.sp⟩; (rw [decide_eq_false]; rw [hd, Q4 hx1, Q4 hx2, List.cons.injEq]; rintro ⟨rfl, _⟩; first | (simp_all; done) | (simp at *; omega)); done)))
          | (refine zcf ?_ -- Qt c4
             all_goals refine zsk ?_)
        all_goals (refine Q2 ?_; refine zm ?_; refine zad ?_; refine zm ?_; refine zn ?_; exact ⟨⟨i + 1, zh, zh, (by omega), (by omega), (by omega), by assumption, by assumption, by rw [hd2, Q4 hx3, Q4 hx4, hg]; simp, hS.sp⟩, Qk (by omega)⟩)
      · skip
        all_goals (refine zex ?_; refine Q2 ?_; refine zm ?_; refine zad ?_; refine zm ?_; refine zn ?_; exact ⟨⟨j + 1, zh, zh, (by omega), (by omega), by rw [hd, Q4 hx1, Q4 hx2, Fun.eq_of hre hpe hrr (by rw [hd2, List.drop_of_length_le (by omega), List.drop_of_length_le (by omega)])]; simp, hS.sp⟩, Qk (by omega)⟩)
    · skip
      all_goals (refine zC [(0, none), (1, none), (2, none), (3, none), (4, none), (5, none), (6, none), (7, none), (8, none), (9, none), (11, some (some [1, 4, 6, 9])), (10, some (some [1, 4, 6, 9])), (12, some (some [6, 9])), (13, some none)] ?_; have hS := hS.drew; refine s_cq ?_; refine zf0 ?_; refine zt ?_; refine s_cq ?_; refine zl hS ?_; refine zt ?_; refine s_cq ?_; refine zm ?_; refine zt ?_; refine s_cq ?_; refine zi ?_; intro b1 o1 cs1 x1 hat1 hx1 he1; obtain ⟨vp1, vr1, vb1, rfl, hp1, hr1, hb1⟩ := Q1l he1; refine zt ?_; refine s_cq ?_; (first | (refine zv hS ?_) | (refine zvk hS ?_)); refine zt ?_; refine s_cq ?_; refine zf0 ?_; refine zt ?_; refine s_cq ?_; refine zl hS ?_; refine zt ?_; refine s_cq ?_; refine zm ?_; refine zt ?_; refine s_cq ?_; refine zi ?_; intro b2 o2 cs2 x2 hat2 hx2 he2; obtain ⟨vp2, vr2, vb2, rfl, hp2, hr2, hb2⟩ := Q1l he2; refine zt ?_; refine s_cq ?_; (first | (refine zv hS ?_) | (refine zvk hS ?_)); refine zt ?_; refine Q13 ?_; refine Qf hS ?_; intro p7 w1 hS; refine zt ?_; refine zy ?_; refine Q13 ?_; refine Qf hS ?_; intro p6 w1 hS; refine zt ?_)
      all_goals (refine zy ?_; refine Q13 ?_; refine zsn hS ?_; intro w1 hS; have hS := hS.ns; refine zt ?_; refine zy ?_; refine s_cf ?_; refine zsn hS ?_; intro w1 hS; have hS := hS.ns; refine zt ?_; refine zcn ?_; refine Q0 ?_; refine Q0 ?_; refine Q2 ?_; refine zf0 ?_; refine zl hS ?_; refine zf0 ?_; refine zl hS ?_)
      all_goals (first | (refine Q22 ?_) | (refine Q23 ?_) | (refine QQ rfl rfl (fun hc => ?_) (fun hc => ?_)))
      all_goals (refine zm ?_; (first | refine zgn ?_ | (refine zgy ?_; refine zf0 ?_)); (first | refine zgn ?_ | (refine zgy ?_; refine zl hS ?_)); (first | refine zgn ?_ | (refine zgy ?_; refine zf0 ?_)); (first | refine zgn ?_ | (refine zgy ?_; refine zl hS ?_)))
      all_goals ((first | (refine zgn ?_) | (refine zgy ?_; refine zR2 (c := Q4Z (l := x1.params) (m := x2.params) hp1 hp2 hS) (h := ?_); rintro v1 w1 ⟨rfl, hS⟩; (cases hdec : decide (x1.params = x2.params)); have hg := of_decide_eq_false hdec; rotate_left; have hg := of_decide_eq_true hdec; all_goals skip)))
      all_goals ((first | refine zgn ?_ | (refine zgy ?_; refine znt ?_)); (first | (refine zpt ?_) | (refine zpf ?_)); refine zm ?_; (first | refine zgn ?_ | (refine zgy ?_; refine zf0 ?_)); (first | refine zgn ?_ | (refine zgy ?_; refine zl hS ?_)); (first | refine zgn ?_ | (refine zgy ?_; refine zf0 ?_)); (first | refine zgn ?_ | (refine zgy ?_; refine zl hS ?_)))
      all_goals ((first | (refine zgn ?_) | (refine zgy ?_; refine zR2 (c := Q4Z (l := x1.results) (m := x2.results) hr1 hr2 hS) (h := ?_); rintro v1 w1 ⟨rfl, hS⟩; (cases hdec : decide (x1.results = x2.results)); have hg := of_decide_eq_false hdec; rotate_left; have hg := of_decide_eq_true hdec; all_goals skip)))
      all_goals ((first | refine zgn ?_ | (refine zgy ?_; refine znt ?_)); (first | (refine zpt ?_) | (refine zpf ?_)); refine zm ?_; (first | refine zgn ?_ | (refine zgy ?_; refine zf0 ?_)); (first | refine zgn ?_ | (refine zgy ?_; refine zl hS ?_)); (first | refine zgn ?_ | (refine zgy ?_; refine zL ?_)); (first | refine zgn ?_ | (refine zgy ?_; refine zf0 ?_)); (first | refine zgn ?_ | (refine zgy ?_; refine zl hS ?_)); (first | refine zgn ?_ | (refine zgy ?_; refine zL ?_)))
      all_goals (first | refine zgn ?_ | (refine zgy ?_; (first | (refine Q22 ?_) | (refine Q23 ?_) | (refine QQ rfl rfl (fun hc => ?_) (fun hc => ?_)))))
      all_goals ((first | (refine zpt ?_) | (refine zpf ?_)); refine zn ?_)
      all_goals
        first
        | (refine zct ?_ -- Qt c2
           all_goals (refine Q0 ?_; refine Q2 ?_; refine zm ?_; refine zn ?_; refine zr ?_; refine zf ?_)
           all_goals (first | (refine ⟨_, rfl, ?_, hS.sp⟩; rw [decide_eq_false]; exact fun e => absurd (congrArg List.length e) (by omega); done) | (refine ⟨_, rfl, ?_, hS.sp⟩; (rw [decide_eq_false]; rw [hd, Q4 hx1, Q4 hx2, List.cons.injEq]; rintro ⟨rfl, _⟩; first | (simp_all; done) | (simp at *; omega)); done)))
        | (refine zcf ?_ -- Qt c2
           all_goals refine zsk ?_)
      all_goals (refine Q0 ?_; have hlb := hb1.len; refine Q2 ?_; refine zm ?_; refine zn ?_; refine Q7 ?_)
      refine zoL hS [2, 3, 5, 6, 7] (fun A LL ρ' w' => ∃ (i : Nat), Has ρ' A ∧ Has ρ' [(8, .int .i64 i)] ∧ (i ≤ x1.blocks.length) ∧ (x1.blocks.length = x2.blocks.length) ∧ (x1.regs = x2.regs) ∧ (x1.params = x2.params) ∧ (x1.results = x2.results) ∧ (x1.blocks = x2.blocks ↔ x1.blocks.drop i = x2.blocks.drop i) ∧ St cx w' (LL)) (fun ρ' _ => (x1.blocks.length - iv (ρ' 8)).toNat) ?_ ?_
      · exact ⟨0, zh, zh, (by omega), (by omega), (by omega), by assumption, by assumption, by simp, hS.sp⟩
      rintro ρ w1 ⟨i, hA, hρ, hi, hlb2, hre, hpe, hrr, hd2, hS⟩; obtain ⟨ρ, rfl⟩ := env2 hA hρ
      unfold Q2C
      all_goals (refine Q0 ?_; refine Q0 ?_; refine Q2 ?_; refine zm ?_; refine zf0 ?_; refine zl hS ?_; refine zL ?_; refine Qp rfl rfl ?_; refine zn ?_)
      refine Qm rfl (fun hc => ?_) (fun hc => ?_)
      · skip
        all_goals (refine zsk ?_; refine Q0 ?_; refine Q7 ?_; refine Q0 ?_; refine zD [(0, none), (1, none), (2, none), (3, none), (4, none), (5, none), (6, none), (7, none), (8, none), (9, none), (10, some none), (11, some none)] ?_; have hS := hS.drew; refine zf0 ?_; refine zl hS ?_; refine zm ?_; refine zi ?_; intro b3 o3 cs3 x3 hat3 hx3 he3; obtain ⟨vp3, vc3, ve31, ve32, ve33, ve34, ve35, rfl, hp3, hc3, he31, he32, he33, he34, he35⟩ := Q19 he3; (first | (refine zv hS ?_) | (refine zvk hS ?_)); refine zf0 ?_; refine zl hS ?_; refine zm ?_; refine zi ?_; intro b4 o4 cs4 x4 hat4 hx4 he4; obtain ⟨vp4, vc4, ve41, ve42, ve43, ve44, ve45, rfl, hp4, hc4, he41, he42, he43, he44, he45⟩ := Q19 he4; (first | (refine zv hS ?_) | (refine zvk hS ?_)))
        all_goals (refine zR2 (c := Qbv he3 he4 hS) (h := ?_); rintro v1 w1 ⟨rfl, hS⟩; (cases hdec : decide (x3 = x4)); have hg := of_decide_eq_false hdec; rotate_left; have hg := of_decide_eq_true hdec; all_goals skip)
        all_goals (refine znt ?_; refine zn ?_)
        all_goals
          first
          | (refine zct ?_ -- Qt c4
             all_goals (refine Q0 ?_; refine Q2 ?_; refine zm ?_; refine zn ?_; refine zr ?_; refine zf ?_)
             all_goals (first | (refine ⟨_, rfl, ?_, hS.sp⟩; rw [decide_eq_false]; exact fun e => absurd (congrArg List.length e) (by omega); done) | (refine ⟨_, rfl, ?_, hS.sp⟩; (rw [decide_eq_false]; rw [hd, Q4 hx1, Q4 hx2, List.cons.injEq]; rintro ⟨rfl, _⟩; first | (simp_all; done) | (simp at *; omega)); done)))
          | (refine zcf ?_ -- Qt c4
             all_goals refine zsk ?_)
        all_goals (refine Q2 ?_; refine zm ?_; refine zad ?_; refine zm ?_; refine zn ?_; exact ⟨⟨i + 1, zh, zh, (by omega), (by omega), (by omega), by assumption, by assumption, by rw [hd2, Q4 hx3, Q4 hx4, hg]; simp, hS.sp⟩, Qk (by omega)⟩)
      · skip
        all_goals (refine zex ?_; refine Q2 ?_; refine zm ?_; refine zad ?_; refine zm ?_; refine zn ?_; exact ⟨⟨j + 1, zh, zh, (by omega), (by omega), by rw [hd, Q4 hx1, Q4 hx2, Fun.eq_of hre hpe hrr (by rw [hd2, List.drop_of_length_le (by omega), List.drop_of_length_le (by omega)])]; simp, hS.sp⟩, Qk (by omega)⟩)
  · skip
    all_goals (refine zex ?_; refine Q0 ?_; refine Q2 ?_; refine zm ?_; refine zn ?_; refine zr ?_; refine zf ?_)
    all_goals (first | (refine ⟨_, rfl, ?_, hS.sp⟩; rw [decide_eq_false]; exact fun e => absurd (congrArg List.length e) (by omega); done) | (refine ⟨_, rfl, ?_, hS.sp⟩; (rw [decide_eq_false]; rw [hd, Q4 hx1, Q4 hx2, List.cons.injEq]; rintro ⟨rfl, _⟩; first | (simp_all; done) | (simp at *; omega)); done) | (refine ⟨_, rfl, ?_, hS.sp⟩; rw [decide_eq_false]; rw [hd, Q4 hx1, Q4 hx2, List.cons.injEq]; rintro ⟨rfl, _⟩; rw [hx3] at hx4; cases hx4; exact hg rfl; done) | (refine ⟨_, rfl, ?_, hS.sp⟩; rw [decide_eq_true]; rw [hd, List.drop_of_length_le (by omega), List.drop_of_length_le (by omega)]; done))
end Go.Proofs.YtjecflbbcnocdaaDoor
namespace Go.Proofs.YtjecflbbcnocdaaDoor
open Go.Lir
set_option maxHeartbeats 1000000
attribute [local irreducible] LC.wp Q1 Qu Qw retQ Q1z LO.wp Qb Calls
set_option linter.unusedSimpArgs false
set_option linter.unusedVariables false
variable {cx : Cx} {w : World} {L : List Res} {i : Nat}
def Qh0 : Block := ⟨0, [], [], ⟨3, 0, ⟨0, [], []⟩, ⟨0, [], []⟩, []⟩⟩
def leastM : Module := ⟨[⟨0, [], [], [Qh0]⟩]⟩
abbrev QbD (vc : Value) : List Value := [.int .i64 0, .slice none 0 0, vc, .int .i64 3, .int .i64 0, .int .i64 0, .slice none 0 0, .slice none 0 0, .int .i64 0, .slice none 0 0, .slice none 0 0, .slice none 0 0]
theorem least_c (hS : St cx w L) : Rets Tryd.prog QeK [] w fun u w' => ∃ a b, u = .agg ⟨[.slice (some ⟨a, 0, none⟩) 1 1]⟩ ∧ St cx w' (blk a 56 [.int .i64 0, .slice none 0 0, .slice none 0 0, .slice (some ⟨b, 0, none⟩) 1 1] :: blk b 65 (QbD (.slice none 0 0)) :: L) := by
  all_goals refine QeJ ?_
  all_goals (unfold Law_least_lc; refine Q0 ?_; refine Q2 ?_; refine Qf hS ?_; intro p0 w1 hS; refine zn ?_; refine Q0 ?_; refine Q2 ?_; refine zb1 [_, _, _, _, _, _, _, _, _] ?_; refine zb1 [_, _, _, _, _, _, _, _, _, _, _, _] ?_; refine Q8o (cs := [_, _, _, _, _, _, _, _, _, _, _, _]) vw (by rfl) ?_; intro q1 w1 hb1 hf1 _ hk1; have hS := hS.laid hb1 hf1 hk1; refine zb1 [_, _, _, _] ?_; refine Q8o (cs := [_, _, _, _]) vw (by rfl) ?_; intro q2 w1 hb1 hf1 _ hk1; have hS := hS.laid hb1 hf1 hk1; refine zb1 [_] ?_; refine zsn hS ?_; intro w1 hS; have hS := hS.ns; refine zn ?_; refine zr ?_; refine q_retc vw (Q3e (n := 1) (by kernel_rfl) (by kernel_rfl) (hS.blkAt fd) (by rfl) (by rfl)) ?_; exact ⟨_, rfl, q2, q1, rfl, hS.sp⟩)
/-- Such a module, from now on only read. -/
theorem least_fz {a b : Nat} {code : List Ins} {vc : Value} (hk : insR.sl cx vc code) (hS : St cx w (blk a 56 [.int .i64 0, .slice none 0 0, .slice none 0 0, .slice (some ⟨b, 0, none⟩) 1 1] :: blk b 65 (QbD vc) :: L)) :
    ∃ c', cx.Le c' ∧ St c' w L ∧ modR.at c' [.slice (some ⟨a, 0, none⟩) 1 1] ⟨[⟨0, [], [], [⟨0, [], code, ⟨3, 0, ⟨0, [], []⟩, ⟨0, [], []⟩, []⟩⟩]⟩]⟩ := by
  have n1 : ∀ c : Cx, intR.sl c (.slice none 0 0) [] := fun c => Rep.SR.nil _ _ _
  have n2 : ∀ c : Cx, tyR.sl c (.slice none 0 0) [] := fun c => Rep.SR.nil _ _ _
  obtain ⟨c1, hle1, hS, h1⟩ := St.freeze1 (r := blockR) (x := ⟨0, [], code, ⟨3, 0, ⟨0, [], []⟩, ⟨0, [], []⟩, []⟩⟩) hS.mv1 (Qhl (x := ⟨0, [], code, ⟨3, 0, ⟨0, [], []⟩, ⟨0, [], []⟩, []⟩⟩) (n2 _) hk (n1 _) (n1 _) (n1 _) (n1 _) (n1 _))
  obtain ⟨c2, hle2, hS, h2⟩ := St.freeze1 (r := funcR) (x := ⟨0, [], [], [⟨0, [], code, ⟨3, 0, ⟨0, [], []⟩, ⟨0, [], []⟩, []⟩⟩]⟩) hS ⟨_, _, _, rfl, n2 _, n2 _, h1⟩
  exact ⟨c2, hle1.trans hle2, hS, _, rfl, h2⟩
end Go.Proofs.YtjecflbbcnocdaaDoor
namespace Go.Proofs.YtjecflbbcnocdaaDoor
open Go.Lir
set_option maxHeartbeats 1000000
attribute [local irreducible] LC.wp Q1 Qu Qw retQ Q1z LO.wp Qb Calls
set_option linter.unusedSimpArgs false
set_option linter.unusedVariables false
theorem Qem : leastM.Short := by
  refine ⟨by decide, fun f hf => ?_⟩
  simp [leastM] at hf; subst hf
  refine ⟨⟨by decide, by simp⟩, ⟨by decide, by simp⟩, by decide, fun b hb => ?_⟩
  simp [Qh0] at hb; subst hb
  exact ⟨⟨by decide, by simp⟩, by decide, by simp, ⟨by decide, by decide⟩, ⟨by decide, by decide⟩, by decide⟩
theorem inI0 : InI 0 := ⟨by decide, by decide⟩
theorem inI3 : InI 3 := ⟨by decide, by decide⟩
theorem QgZ : leastM.InR := by
  intro f hf
  simp [leastM] at hf; subst hf
  refine ⟨inI0, by simp, by simp, fun b hb => ?_⟩
  simp [Qh0] at hb; subst hb
  exact ⟨inI0, by simp, by simp, inI3, inI0, ⟨inI0, by simp, by simp⟩, ⟨inI0, by simp, by simp⟩, by simp⟩
def QfF : List UInt8 := [102, 117, 110, 99, 32, 48, 32, 40, 41, 32, 45, 62, 32, 40, 41, 32, 123, 10, 98, 108, 111, 99, 107, 32, 48, 32, 40, 41, 32, 123, 10, 9, 114, 101, 116, 32, 40, 41, 59, 10, 125, 10, 125, 10]
theorem Qf7 : Q16 leastM = (QfF, (0, 0)) := by kernel_rfl
attribute [local irreducible] Q16
variable {cx : Cx} {w : World} {L : List Res}
theorem least_pr {cs : List Value} (hx : modR.at cx cs leastM) (hT : PowT cx) (hS : St cx w L) : Rets Tryd.prog Q12 [.agg ⟨cs⟩] w fun u w' => u = .tuple #[strV QfF, .agg ⟨[.int .i64 0, .int .i64 0]⟩] ∧ St cx w' L := by
  have h := QeV Qem QgZ hx hT hS
  rw [Qf7] at h
  exact h
theorem QcV (hT : PowT cx) (hS : St cx w L) : Rets Tryd.prog Q41 [] w fun u w' => u = .bool true ∧ St cx w' L := by
  have n0 : ∀ c : Cx, insR.sl c (.slice none 0 0) [] := fun c => Rep.SR.nil _ _ _
  all_goals refine Q61 ?_
  all_goals (unfold Law_renderBegun_lc; refine Q0 ?_; refine Q2 ?_; refine zm ?_; refine zn ?_; refine Q0 ?_; refine Q2 ?_; refine zR0 (c := least_c hS) (h := ?_); rintro v1 w1 ⟨la, lb, rfl, hS⟩; obtain ⟨c1, hle1, hS, hm1⟩ := least_fz (n0 _) hS; refine zR1 (c := least_pr hm1 (hT.up hle1) hS) (h := ?_); rintro v1 w1 ⟨rfl, hS⟩; refine zm ?_; refine zxt ?_; refine zxt ?_; refine Qf hS ?_; intro p2 w1 hS; refine zm ?_; refine zsn hS ?_; intro w1 hS; have hS := hS.ns; refine zn ?_; refine Q0 ?_; refine Q2 ?_; refine zf0 ?_; refine zl hS ?_)
  all_goals (refine QM ?_)
  all_goals (refine zm ?_; (first | refine zgn ?_ | (refine zgy ?_; refine zm ?_)); (first | refine zgn ?_ | (refine zgy ?_; refine s_seqt rfl rfl rfl ?_)); refine zpt ?_; refine zm ?_; refine zn ?_; refine zr ?_; refine zf ?_; exact ⟨_, rfl, rfl, St.weak hS.sp hle1⟩)
end Go.Proofs.YtjecflbbcnocdaaDoor
namespace Go.Lir
set_option linter.unusedVariables false
/-! ### numbers' texts -/
theorem QgK (M : Nat) : ∀ (l r : List UInt8) (acc a : Nat), Lib.parseUintM M acc l = .ok a → Lib.parseUintM M acc (l ++ r) = Lib.parseUintM M a r
  | [], r, acc, a, h => by rw [Lib.parseUintM] at h; cases h; rfl
  | c :: l, r, acc, a, h => by
    rw [Lib.parseUintM] at h
    split at h
    · rename_i hd
      split at h
      · cases h
      · rename_i h1
        split at h
        · cases h
        · rename_i h2
          rw [List.cons_append, Lib.parseUintM, if_pos hd, if_neg h1, if_neg h2]
          exact QgK M l r _ a h
    · cases h
theorem Qhf {d : Nat} (h : d < 10) : (UInt8.ofNat (48 + d)).toNat = 48 + d := by
  rw [UInt8.toNat_ofNat']; exact Nat.mod_eq_of_lt (by omega)
theorem QgJ {d acc : Nat} (h : d < 10) (ha : acc * 10 + d ≤ 9223372036854775808) : Lib.parseUintM (2 ^ 64 - 1) acc [UInt8.ofNat (48 + d)] = .ok (acc * 10 + d) := by
  rw [Lib.parseUintM, Qhf h, if_pos (by omega), if_neg (by omega), if_neg (by omega), Lib.parseUintM, show 48 + d - 48 = d by omega]
theorem Qby (u : Nat) : u ≤ 9223372036854775808 → Lib.parseUintM (2 ^ 64 - 1) 0 (Lib.decDigits u) = .ok u := by
  induction u using Nat.strongRecOn with
  | ind u ih =>
    intro hu
    rw [Lib.decDigits]
    split
    · rename_i h
      have := QgJ (acc := 0) h (by omega)
      rw [this]; congr 1; omega
    · rename_i h
      rw [QgK _ _ _ _ _ (ih (u / 10) (by omega) (by omega)), QgJ (by omega) (by omega)]
      congr 1; omega
theorem Q6v (u : Nat) : ∀ c ∈ Lib.decDigits u, Q1k c = true := by
  induction u using Nat.strongRecOn with
  | ind u ih =>
    intro c hc
    have hd : ∀ d, d < 10 → Q1k (UInt8.ofNat (48 + d)) = true := fun d h => by unfold Q1k; rw [Qhf h]; exact decide_eq_true (by omega)
    rw [Lib.decDigits] at hc
    split at hc
    · rename_i h; simp only [List.mem_singleton] at hc; subst hc; exact hd u h
    · rename_i h
      rcases List.mem_append.1 hc with hc | hc
      · exact ih _ (by omega) c hc
      · simp only [List.mem_singleton] at hc; subst hc; exact hd _ (by omega)
theorem Q3s (u : Nat) : ∃ c r, Lib.decDigits u = c :: r ∧ Q1k c = true := by
  cases h : Lib.decDigits u with
  | nil =>
    exfalso
    rw [Lib.decDigits] at h
    split at h
    · cases h
    · simp at h
  | cons c r => exact ⟨c, r, rfl, Q6v u c (by rw [h]; exact List.mem_cons_self ..)⟩
theorem num_itoa {n : Int} (h0 : -9223372036854775808 ≤ n) (h1 : n ≤ 9223372036854775807) : numOf (Lib.itoa n) = some n := by
  have hok : Lib.parseIntB 64 (Lib.itoa n) = .ok n := by
    by_cases hn : n < 0
    · obtain ⟨c, r, hc, _⟩ := Q3s n.natAbs
      have e : Lib.itoa n = 45 :: Lib.decDigits n.natAbs := by unfold Lib.itoa; rw [if_pos hn]
      have e2 : Lib.parseUintB 64 (Lib.decDigits n.natAbs) = .ok n.natAbs := by
        unfold Lib.parseUintB; rw [if_neg (by rw [hc]; simp), Qby _ (by omega)]
      rw [e]
      simp only [Lib.parseIntB]
      rw [if_pos (by decide), e2]
      dsimp only
      rw [if_neg (fun h => h.1 (by decide)), if_neg (fun h => by have := h.2; omega), if_pos (by decide)]
      congr 1; omega
    · obtain ⟨c, r, hc, hd⟩ := Q3s n.toNat
      have e : Lib.itoa n = Lib.decDigits n.toNat := by unfold Lib.itoa; rw [if_neg hn]
      have e2 : Lib.parseUintB 64 (Lib.decDigits n.toNat) = .ok n.toNat := by
        unfold Lib.parseUintB; rw [if_neg (by rw [hc]; simp), Qby _ (by omega)]
      have hd2 : 48 ≤ c.toNat ∧ c.toNat ≤ 57 := of_decide_eq_true hd
      rw [e]
      rw [hc] at e2 ⊢
      simp only [Lib.parseIntB]
      rw [if_neg (by omega), e2]
      dsimp only
      rw [if_neg (by omega), if_neg (by omega), if_neg (by omega)]
      congr 1; omega
  unfold numOf
  rw [hok]
  simp
/-! ### tokens of a text -/
abbrev Tk := List UInt8 × Option Int
abbrev Tok.tk (t : Tok) : Tk := (t.text, t.num)
def Qb0 (s : List UInt8) (ts : List Tk) : Prop := ∀ (n k : Nat) (acc : List Tok), s.length < k → ∃ res, Qgt n k (skip false s) acc = .ok (acc ++ res) ∧ res.map Tok.tk = ts
/-- No letter and no digit stands here. -/
def Sep (s : List UInt8) : Prop := ∀ c r, s = c :: r → Q2H c = false ∧ Q1k c = false
theorem Qgs : Qb0 [] [] := fun n k acc _ => ⟨[], by cases k <;> simp [skip, Qgt], rfl⟩
theorem Qcl {c : UInt8} {s : List UInt8} {ts : List Tk} (hc : c = 10 ∨ c = 32 ∨ c = 9 ∨ c = 13) (h : Qb0 s ts) : Qb0 (c :: s) ts := fun n k acc hk => by
  rw [skip, if_pos hc]; exact h n k acc (by simp at hk; omega)
theorem Q39 {t s : List UInt8} {m : Option Int} {ts : List Tk} (ht : tok1 (t ++ s) = .ok (t, m)) (h : Qb0 s ts) : Qb0 (t ++ s) ((t, m) :: ts) := fun n k acc hk => by
  have hl := Qfu ht
  have hs := Qgl ht s
  rw [hs]
  match t, hl, k, hk with
  | c :: t, _, k + 1, hk =>
    obtain ⟨res, h1, h2⟩ := h n k (acc ++ [⟨n - (c :: t ++ s).length, c :: t, m⟩]) (by simp at hk; omega)
    refine ⟨⟨n - (c :: t ++ s).length, c :: t, m⟩ :: res, ?_, by rw [List.map_cons, h2]⟩
    rw [List.cons_append] at ht h1 ⊢
    rw [Qgt, ht]
    dsimp only
    rw [← List.cons_append, List.drop_left, List.cons_append, h1, List.append_assoc]; rfl
theorem Q4i {p : UInt8 → Bool} : ∀ {l : List UInt8}, (∀ x ∈ l, p x = true) → l.takeWhile p = l
  | [], _ => rfl
  | c :: l, h => by rw [List.takeWhile_cons, if_pos (h c (List.mem_cons_self ..)), Q4i fun x hx => h x (List.mem_cons_of_mem _ hx)]
theorem Q3l {p : UInt8 → Bool} {l s : List UInt8} (hl : ∀ x ∈ l, p x = true) (hs : ∀ c r, s = c :: r → p c = false) : (l ++ s).takeWhile p = l := by
  cases s with
  | nil => rw [List.append_nil]; exact Q4i hl
  | cons c r => exact Q1A hl (hs c r rfl)
theorem tok_word {t s : List UInt8} (h0 : t ≠ []) (h : ∀ x ∈ t, Q2H x = true) (hs : Sep s) : tok1 (t ++ s) = .ok (t, none) := by
  match t, h0 with
  | c :: t, _ =>
    rw [List.cons_append, Qft (h c (List.mem_cons_self ..)), ← List.cons_append, Q3l h fun c r e => (hs c r e).1]
theorem Q9f {c : UInt8} (h : Q1k c = true) : ¬ Q2H c = true ∧ ¬ c = 62 := by
  have h1 : 48 ≤ c.toNat ∧ c.toNat ≤ 57 := of_decide_eq_true h
  refine ⟨fun h2 => ?_, ?_⟩
  · have := of_decide_eq_true h2; omega
  · rintro rfl; exact absurd h1 (by decide)
theorem tok_num {n : Int} {s : List UInt8} (h0 : -9223372036854775808 ≤ n) (h1 : n ≤ 9223372036854775807) (hs : Sep s) : tok1 (Lib.itoa n ++ s) = .ok (Lib.itoa n, some n) := by
  have hn := num_itoa h0 h1
  have hd : ∀ c r, s = c :: r → Q1k c = false := fun c r e => (hs c r e).2
  by_cases hneg : n < 0
  · have e : Lib.itoa n = 45 :: Lib.decDigits n.natAbs := by unfold Lib.itoa; rw [if_pos hneg]
    rw [e] at hn ⊢
    obtain ⟨c, r, hc, hcd⟩ := Q3s n.natAbs
    have hall := Q6v n.natAbs
    rw [hc] at hn hall ⊢
    rw [List.cons_append, List.cons_append, Qfs (Q9f hcd).2 hcd, ← List.cons_append, Q3l hall hd]
    unfold numT; rw [hn]
  · have e : Lib.itoa n = Lib.decDigits n.toNat := by unfold Lib.itoa; rw [if_neg hneg]
    rw [e] at hn ⊢
    obtain ⟨c, r, hc, hcd⟩ := Q3s n.toNat
    have hall := Q6v n.toNat
    rw [hc] at hn hall ⊢
    rw [List.cons_append, Qfv (Q9f hcd).1 hcd, ← List.cons_append, Q3l hall hd]
    unfold numT; rw [hn]
theorem Q3C {c : UInt8} (h : Q4a c = true) : Q2H c = false ∧ Q1k c = false ∧ ¬ c = 45 := by
  have hall : ∀ p : Fin 256, Q4a (UInt8.ofNat p.val) = true → Q2H (UInt8.ofNat p.val) = false ∧ Q1k (UInt8.ofNat p.val) = false ∧ ¬ UInt8.ofNat p.val = 45 := by decide +kernel
  have h1 := hall ⟨c.toNat, c.toNat_lt⟩
  simp only [UInt8.ofNat_toNat] at h1
  exact h1 h
theorem QeQ {c : UInt8} {s : List UInt8} (h : Q4a c = true) : tok1 ([c] ++ s) = .ok ([c], none) := by
  obtain ⟨h1, h2, h3⟩ := Q3C h
  exact Qfr (by rw [h1]; decide) (by rw [h2]; decide) h3 h
/-! ### texts that are Q2x -/
def Pr (t : List UInt8) (g : List Tk) : Prop := ∀ s ts, Sep s → Qb0 s ts → Qb0 (t ++ s) (g ++ ts)
theorem Qgp {c : UInt8} {s : List UInt8} (h : Q2H c = false ∧ Q1k c = false) : Sep (c :: s) := fun a r e => by cases e; exact h
theorem Pr.nil : Pr [] [] := fun s ts _ h => h
theorem Pr.app {a b : List UInt8} {g h : List Tk} (ha : Pr a g) (hb : Pr b h) (hs : ∀ s, Sep s → Sep (b ++ s)) : Pr (a ++ b) (g ++ h) := fun s ts h1 h2 => by
  rw [List.append_assoc, List.append_assoc]; exact ha _ _ (hs s h1) (hb s ts h1 h2)
theorem Pr.sp {b : List UInt8} {c : UInt8} {h : List Tk} (hc : c = 10 ∨ c = 32 ∨ c = 9 ∨ c = 13) (hb : Pr b h) : Pr (c :: b) h := fun s ts h1 h2 => Qcl hc (hb s ts h1 h2)
theorem sp_sep {c : UInt8} (hc : c = 10 ∨ c = 32 ∨ c = 9 ∨ c = 13) : Q2H c = false ∧ Q1k c = false := by rcases hc with rfl | rfl | rfl | rfl <;> decide
/-- One behind the other, with a blank between. -/
theorem Pr.app_sp {a b : List UInt8} {c : UInt8} {g h : List Tk} (hc : c = 10 ∨ c = 32 ∨ c = 9 ∨ c = 13) (ha : Pr a g) (hb : Pr b h) : Pr (a ++ c :: b) (g ++ h) :=
  ha.app (hb.sp hc) fun s _ => Qgp (sp_sep hc)
theorem Pr.word {t : List UInt8} (h0 : t ≠ []) (h : ∀ x ∈ t, Q2H x = true) : Pr t [(t, none)] := fun s ts h1 h2 => Q39 (tok_word h0 h h1) h2
theorem Pr.num {n : Int} (h0 : -9223372036854775808 ≤ n) (h1 : n ≤ 9223372036854775807) : Pr (Lib.itoa n) [(Lib.itoa n, some n)] := fun s ts h2 h3 => Q39 (tok_num h0 h1 h2) h3
theorem Pr.sig {c : UInt8} (h : Q4a c = true) : Pr [c] [([c], none)] := fun s ts h1 h2 => Q39 (QeQ h) h2
/-- A sign may stand ahead of whatever comes. -/
theorem Pr.sigl {c : UInt8} {b : List UInt8} {g : List Tk} (h : Q4a c = true) (hb : Pr b g) : Pr (c :: b) (([c], none) :: g) := fun s ts h1 h2 => Q39 (QeQ h) (hb s ts h1 h2)
theorem Pr.sigr {c : UInt8} {b : List UInt8} {g : List Tk} (h : Q4a c = true) (hb : Pr b g) : Pr (b ++ [c]) (g ++ [([c], none)]) := hb.app (Pr.sig h) fun s _ => Qgp ⟨(Q3C h).1, (Q3C h).2.1⟩
/-- Things with Q2h between. -/
def Q2h : List (List Tk) → List Tk
  | [] => []
  | [g] => g
  | g :: l => g ++ ([44], none) :: Q2h l
theorem Qeu (g h : List Tk) (l : List (List Tk)) : Q2h (g :: h :: l) = g ++ ([44], none) :: Q2h (h :: l) := rfl
theorem join_cc {x y : List UInt8} {l : List (List UInt8)} {sep : List UInt8} : Lib.join (x :: y :: l) sep = x ++ (sep ++ Lib.join (y :: l) sep) := by
  rw [Lib.join_cons, Lib.join_cons]; simp [Lib.joinTail]
theorem Pr.join : ∀ {l : List (List UInt8 × List Tk)}, (∀ x ∈ l, Pr x.1 x.2) → Pr (Lib.join (l.map Prod.fst) [44, 32]) (Q2h (l.map Prod.snd))
  | [], _ => Pr.nil
  | [x], h => by
    have := h x (List.mem_cons_self ..)
    simp only [List.map_cons, List.map_nil]
    rw [Lib.join_one, Q2h]; exact this
  | x :: y :: l, h => by
    have h1 := h x (List.mem_cons_self ..)
    have h2 := Pr.join (l := y :: l) fun z hz => h z (List.mem_cons_of_mem _ hz)
    simp only [List.map_cons] at h2 ⊢
    rw [join_cc, Qeu]
    exact h1.app (Pr.sigl (by decide) (h2.sp (by decide))) fun s _ => Qgp (by decide)
theorem Pr.listOf {α : Type} {f : α → List UInt8} {g : α → List Tk} {l : List α} {b e : UInt8} (h : ∀ x ∈ l, Pr (f x) (g x)) (hb : Q4a b = true) (he : Q4a e = true) : Pr ([b] ++ Lib.join (l.map f) [44, 32] ++ [e]) (([b], none) :: (Q2h (l.map g) ++ [([e], none)])) := by
  have h1 := Pr.join (l := l.map fun x => (f x, g x)) (by intro x hx; obtain ⟨y, hy, rfl⟩ := List.mem_map.1 hx; exact h y hy)
  simp only [List.map_map] at h1
  exact Pr.sigl hb (Pr.sigr he h1)
/-! ### modules' tokens -/
abbrev nt (n : Int) : Tk := (Lib.itoa n, some n)
abbrev wt (t : List UInt8) : Tk := (t, none)
def Q4o (b : UInt8) (l : List Int) (e : UInt8) : List Tk := wt [b] :: (Q2h (l.map fun n => [nt n]) ++ [wt [e]])
mutual
def Ty.tks : Ty → List Tk
  | .mk k r l => if k = 2 then [wt Qck, nt r] else if k = 4 then [wt Qfw, nt r] else if k = 3 then wt QdZ :: nt r :: wt [40] :: (Q2h (Tys.tkss l) ++ [wt [41]]) else [wt tInt]
def Tys.tkss : List Ty → List (List Tk)
  | [] => []
  | x :: l => x.tks :: Tys.tkss l
end
theorem Tys.tkss_map : ∀ (l : List Ty), Tys.tkss l = l.map Ty.tks
  | [] => by rw [Tys.tkss]; rfl
  | x :: l => by rw [Tys.tkss, Tys.tkss_map l]; rfl
def Q7b (l : List Ty) : List Tk := wt [40] :: (Q2h (Tys.tkss l) ++ [wt [41]])
theorem Qd4 {t : List UInt8} (h : t.all Q2H = true) : ∀ x ∈ t, Q2H x = true := fun x hx => List.all_eq_true.1 h x hx
theorem Ty.pr : ∀ (t : Ty), t.InR → Pr t.txt t.tks := by
  intro t
  induction t using Ty.ind with
  | h k r l ih =>
    intro hr
    obtain ⟨hk, ⟨hr0, hr1⟩, hsub⟩ := hr.parts
    have hw : ∀ t : List UInt8, t ≠ [] → t.all Q2H = true → Pr t [wt t] := fun t h0 h => Pr.word h0 (Qd4 h)
    have hn : Pr (Lib.itoa r) [nt r] := Pr.num hr0 hr1
    rw [Ty.txt, Ty.tks]
    split
    · exact Pr.app_sp (a := Qck) (.inr (.inl rfl)) (hw _ (by decide) (by decide)) hn
    · split
      · exact Pr.app_sp (a := Qfw) (.inr (.inl rfl)) (hw _ (by decide) (by decide)) hn
      · split
        · have hl : Pr ([40] ++ Lib.join (Tys.txts l) [44, 32] ++ [41]) (wt [40] :: (Q2h (Tys.tkss l) ++ [wt [41]])) := by
            rw [Tys.txts_map, Tys.tkss_map]
            exact Pr.listOf (fun x hx => ih x hx (hsub x hx)) (by decide) (by decide)
          have h2 := Pr.app_sp (a := QdZ) (.inr (.inl rfl)) (hw _ (by decide) (by decide)) (Pr.app_sp (c := 32) (.inr (.inl rfl)) hn hl)
          simpa [List.append_assoc] using h2
        · exact hw _ (by decide) (by decide)
theorem Q83 {l : List Ty} (h : ∀ x ∈ l, x.InR) : Pr (Q24 l) (Q7b l) := by
  unfold Q24 Q7b
  rw [Tys.txts_map, Tys.tkss_map]
  exact Pr.listOf (fun x hx => Ty.pr x (h x hx)) (by decide) (by decide)
def SmL (l : List Int) : Prop := ∀ n ∈ l, 0 ≤ n ∧ n ≤ 1000000
theorem Q3d {b e : UInt8} {l : List Int} (h : SmL l) (hb : Q4a b = true) (he : Q4a e = true) : Pr (Q1b [b] l [e]) (Q4o b l e) :=
  Pr.listOf (fun x hx => Pr.num (by have := h x hx; omega) (by have := h x hx; omega)) hb he
end Go.Lir
namespace Go.Lir
set_option linter.unusedVariables false
section
variable {α β : Type}
/-- A reader that reads these tokens as this thing. -/
def Rd (f : List Tok → PGot α) (g : List Tk) (a : α) : Prop := ∀ (l : List Tok) (ts : List Tk), l.map Tok.tk = g ++ ts → ∃ l', f l = .ok (a, l') ∧ l'.map Tok.tk = ts
theorem Rd.bind {f : List Tok → PGot α} {h : α → List Tok → PGot β} {g g2 : List Tk} {a : α} {b : β} (h1 : Rd f g a) (h2 : Rd (h a) g2 b) : Rd (fun l => Qd (f l) h) (g ++ g2) b := fun l ts hl => by
  obtain ⟨l1, e1, m1⟩ := h1 l (g2 ++ ts) (by rw [hl, List.append_assoc])
  obtain ⟨l2, e2, m2⟩ := h2 l1 ts m1
  exact ⟨l2, by show Qd (f l) h = _; rw [e1]; exact e2, m2⟩
theorem Rd.bind1 {f : List Tok → PGot α} {h : α → List Tok → PGot β} {g2 : List Tk} {t : Tk} {a : α} {b : β} (h1 : Rd f [t] a) (h2 : Rd (h a) g2 b) : Rd (fun l => Qd (f l) h) (t :: g2) b := h1.bind h2
theorem Rd.last {f : List Tok → PGot α} {h : α → List Tok → PGot β} {g : List Tk} {a : α} {b : β} (h1 : Rd f g a) (h2 : Rd (h a) [] b) : Rd (fun l => Qd (f l) h) g b := by
  have := h1.bind h2; rwa [List.append_nil] at this
theorem Rd.pure (a : α) : Rd (fun l => .ok (a, l)) [] a := fun l ts hl => ⟨l, rfl, hl⟩
theorem map_cons {l : List Tok} {t : Tk} {ts : List Tk} (h : l.map Tok.tk = t :: ts) : ∃ x r, l = x :: r ∧ x.tk = t ∧ r.map Tok.tk = ts := by
  cases l with
  | nil => cases h
  | cons x r => rw [List.map_cons] at h; cases h; exact ⟨x, r, rfl, rfl, rfl⟩
theorem Q1F {l : List Tok} {s s2 : List UInt8} {m : Option Int} {ts : List Tk} (h : l.map Tok.tk = (s2, m) :: ts) : isT s l = (m.isNone && decide (s2 = s)) := by
  obtain ⟨x, r, rfl, h1, h2⟩ := map_cons h
  simp only [Tok.tk, Prod.mk.injEq] at h1
  show (x.num.isNone && decide (x.text = s)) = _
  rw [h1.1, h1.2]
theorem Q2Q {l : List Tok} {t : Tk} {ts : List Tk} (h : l.map Tok.tk = t :: ts) : l.tail.map Tok.tk = ts := by
  obtain ⟨x, r, rfl, h1, h2⟩ := map_cons h; exact h2
theorem Rd.want {e : Nat} {s : List UInt8} : Rd (want e s) [wt s] () := fun l ts hl => by
  have hl : l.map Tok.tk = (s, none) :: ts := hl
  refine ⟨l.tail, ?_, Q2Q hl⟩
  unfold Lir.want
  rw [Q1F hl, if_pos (by simp)]
theorem Rd.long {e : Nat} {n : Int} : Rd (pLong e) [nt n] n := fun l ts hl => by
  obtain ⟨x, r, rfl, h1, h2⟩ := map_cons hl
  simp only [Tok.tk, Prod.mk.injEq] at h1
  refine ⟨r, ?_, h2⟩
  unfold pLong
  simp only [h1.2]
theorem Rd.num {e : Nat} {n : Int} (h0 : 0 ≤ n ∧ n ≤ 1000000) : Rd (pNum e) [nt n] n := fun l ts hl => by
  obtain ⟨l', e1, h1⟩ := Rd.long (e := e) l ts hl
  refine ⟨l', ?_, h1⟩
  unfold pNum
  rw [if_neg, e1]
  obtain ⟨x, r, rfl, h2, h3⟩ := map_cons hl
  simp only [Tok.tk, Prod.mk.injEq] at h2
  unfold wideT
  simp only [h2.2]
  intro h9
  have := of_decide_eq_true h9
  omega
/-- The tokens of a list behind its first thing. -/
def Q3T (g : α → List Tk) : List α → List Tk
  | [] => []
  | x :: xs => wt [44] :: (g x ++ Q3T g xs)
theorem Qet (g : α → List Tk) : ∀ (x : α) (xs : List α), Q2h ((x :: xs).map g) = g x ++ Q3T g xs
  | x, [] => by simp [Q2h, Q3T]
  | x, y :: xs => by
    have := Qet g y xs
    rw [List.map_cons, List.map_cons, Qeu, ← List.map_cons, this]; rfl
/-- It begins with another token than this sign. -/
def Beg (cl : List UInt8) (g : List Tk) : Prop := ∃ t m r, g = (t, m) :: r ∧ (m.isNone && decide (t = cl)) = false
theorem QgW {e : Nat} {cl : List UInt8} {f : List Tok → PGot α} {g : α → List Tk} (hcl : cl ≠ [44]) : ∀ (xs : List α) (k n : Nat), 0 < n → xs.length < k → (∀ x ∈ xs, Rd f (g x) x) → Rd (Q7r e cl f k n) (Q3T g xs ++ [wt cl]) xs
  | [], k + 1, n, hn, hk, h => fun l ts hl => by
    have hl : l.map Tok.tk = (cl, none) :: ts := hl
    rw [Q7r, Q1F hl, if_pos (by simp)]
    exact ⟨_, rfl, Q2Q hl⟩
  | x :: xs, k + 1, n, hn, hk, h => fun l ts hl => by
    have hl2 : l.map Tok.tk = (([44] : List UInt8), none) :: (g x ++ (Q3T g xs ++ [wt cl] ++ ts)) := by rw [hl]; simp [Q3T, List.append_assoc]
    rw [Q7r, Q1F hl2, if_neg (by simpa using fun h => hcl h.symm), if_neg (by omega)]
    have h1 : Rd (want e [44]) [wt [44]] () := Rd.want
    obtain ⟨l1, e1, m1⟩ := h1 l _ hl2
    obtain ⟨l2, e2, m2⟩ := h x (List.mem_cons_self ..) l1 _ m1
    obtain ⟨l3, e3, m3⟩ := QgW (e := e) hcl xs k (n + 1) (by omega) (by simp at hk; omega) (fun y hy => h y (List.mem_cons_of_mem _ hy)) l2 _ m2
    rw [e1]
    refine ⟨l3, ?_, m3⟩
    simp only [Qd, e2, e3]
theorem QgP {e : Nat} {cl : List UInt8} {f : List Tok → PGot α} (k n : Nat) (l : List Tok) : Q7r e cl f (k + 1) n l = if isT cl l = true then .ok ([], l.tail) else
    Qd (if n = 0 then .ok ((), l) else want e [44] l) fun _ l => Qd (f l) fun x l => Qd (Q7r e cl f k (n + 1) l) fun xs l => .ok (x :: xs, l) := by rw [Q7r]
theorem Q5p {e : Nat} {b cl : List UInt8} {f : List Tok → PGot α} {g : α → List Tk} {xs : List α} (hcl : cl ≠ [44]) (hn : xs.length ≤ 100) (h : ∀ x ∈ xs, Rd f (g x) x) (hb : ∀ x ∈ xs, Beg cl (g x)) : Rd (Qf2 e b cl f) (wt b :: (Q2h (xs.map g) ++ [wt cl])) xs := by
  unfold Qf2
  refine Rd.bind1 Rd.want ?_
  cases xs with
  | nil =>
    intro l ts hl
    have hl : l.map Tok.tk = (cl, none) :: ts := hl
    show ∃ l', Q7r e cl f 101 0 l = _ ∧ _
    rw [show Q7r e cl f 101 0 l = _ from QgP 100 0 l, Q1F hl, if_pos (by simp)]
    exact ⟨_, rfl, Q2Q hl⟩
  | cons x xs =>
    intro l ts hl
    rw [Qet] at hl
    obtain ⟨t, m, r, hg, hno⟩ := hb x (List.mem_cons_self ..)
    have hl2 : l.map Tok.tk = g x ++ (Q3T g xs ++ [wt cl] ++ ts) := by rw [hl]; simp [List.append_assoc]
    have hl3 : l.map Tok.tk = (t, m) :: (r ++ (Q3T g xs ++ [wt cl] ++ ts)) := by rw [hl2, hg]; rfl
    show ∃ l', Q7r e cl f 101 0 l = _ ∧ _
    rw [show Q7r e cl f 101 0 l = _ from QgP 100 0 l, Q1F hl3, hno, if_neg Bool.false_ne_true, if_pos rfl]
    obtain ⟨l2, e2, m2⟩ := h x (List.mem_cons_self ..) l _ hl2
    obtain ⟨l3, e3, m3⟩ := QgW (e := e) hcl xs 100 1 (by omega) (by simp at hn; omega) (fun y hy => h y (List.mem_cons_of_mem _ hy)) l2 _ m2
    refine ⟨l3, ?_, m3⟩
    simp only [Qd, e2, e3]
end
/-! ### types -/
theorem ty_beg (t : Ty) : Beg [41] t.tks := by
  obtain ⟨k, r, l⟩ := t
  rw [Ty.tks]
  repeat' split
  all_goals exact ⟨_, _, _, rfl, by decide⟩
theorem Rd.ty {e : Nat} {n : Int} (hn : n ≤ 1000000) : ∀ (k : Nat) (t : Ty), t.deepB k = true → t.wrong 8 n = 0 → Rd (pTyp e (k + 1)) t.tks t
  | k, .mk kd r l, hd, hw => by
    obtain ⟨w1, w2, w3, w4, w5⟩ := Ty.wrong_parts hw
    have hr : kd ≠ 1 → 0 ≤ r ∧ r < n := by
      intro h1
      rw [Ty.wrong] at hw
      split at hw; · cases hw
      split at hw; · cases hw
      split at hw; · cases hw
      split at hw; · cases hw
      omega
    rw [Ty.deepB] at hd
    split at hd; · cases hd
    have h6 := Qdc hd
    have hz : kd ≠ 3 → l = [] := fun h => List.length_eq_zero_iff.1 (w3 h)
    intro L ts hl
    rcases (show kd = 1 ∨ kd = 2 ∨ kd = 3 ∨ kd = 4 by omega) with rfl | rfl | rfl | rfl
    · obtain rfl := hz (by decide)
      obtain rfl := w2 rfl
      rw [Ty.tks, if_neg (by decide), if_neg (by decide), if_neg (by decide)] at hl
      have hl : L.map Tok.tk = (tInt, none) :: ts := hl
      rw [pTyp, Q1F hl, if_pos (by decide)]
      exact ⟨_, rfl, Q2Q hl⟩
    · obtain rfl := hz (by decide)
      rw [Ty.tks, if_pos rfl] at hl
      have hl : L.map Tok.tk = (Qck, none) :: (nt r :: ts) := hl
      rw [pTyp, Q1F hl, if_neg (by decide), Q1F hl, if_pos (by decide)]
      obtain ⟨l1, e1, m1⟩ := Rd.num (e := e) (n := r) (by have := hr (by decide); omega) L.tail ts (Q2Q hl)
      exact ⟨l1, by simp only [Qd, e1], m1⟩
    · rw [Ty.tks, if_neg (by decide), if_neg (by decide), if_pos rfl] at hl
      have hl : L.map Tok.tk = (QdZ, none) :: (nt r :: (wt [40] :: (Q2h (Tys.tkss l) ++ [wt [41]]) ++ ts)) := by rw [hl]; simp
      rw [pTyp, Q1F hl, if_neg (by decide), Q1F hl, if_neg (by decide), Q1F hl, if_neg (by decide)]
      obtain ⟨l1, e1, m1⟩ := Rd.want (e := e) (s := QdZ) L _ hl
      obtain ⟨l2, e2, m2⟩ := Rd.num (e := e) (n := r) (by have := hr (by decide); omega) l1 _ m1
      have hsub : Rd (Qf2 e [40] [41] (pTyp e k)) (wt [40] :: (Q2h (l.map Ty.tks) ++ [wt [41]])) l := by
        cases l with
        | nil => exact Q5p (by decide) (by decide) (by simp) (by simp)
        | cons x l =>
          match k with
          | 0 =>
            have := h6 x (List.mem_cons_self ..)
            obtain ⟨a, b, c⟩ := x
            rw [Ty.deepB, if_pos (by omega)] at this
            cases this
          | k + 1 => exact Q5p (by decide) (by omega) (fun t ht => Rd.ty hn k t (by rw [show (k : Int) = ((k + 1 : Nat) : Int) - 1 by omega]; exact h6 t ht) (w5 t ht)) fun t _ => ty_beg t
      rw [← Tys.tkss_map] at hsub
      obtain ⟨l3, e3, m3⟩ := hsub l2 _ m2
      exact ⟨l3, by simp only [Qd, e1, e2, e3], m3⟩
    · obtain rfl := hz (by decide)
      rw [Ty.tks, if_neg (by decide), if_pos rfl] at hl
      have hl : L.map Tok.tk = (Qfw, none) :: (nt r :: ts) := hl
      rw [pTyp, Q1F hl, if_neg (by decide), Q1F hl, if_neg (by decide), Q1F hl, if_pos (by decide)]
      obtain ⟨l1, e1, m1⟩ := Rd.num (e := e) (n := r) (by have := hr (by decide); omega) L.tail ts (Q2Q hl)
      exact ⟨l1, by simp only [Qd, e1], m1⟩
theorem Rd.tys {e : Nat} {n : Int} {l : List Ty} (hn : n ≤ 1000000) (h : Qj l n = 0) : Rd (Qeg e) (Q7b l) l := by
  unfold Qj at h
  split at h; · cases h
  unfold Qeg Q7b
  rw [Tys.tkss_map]
  refine Q5p (by decide) (by omega) (fun t ht => ?_) fun t _ => ty_beg t
  have h1 := Q4u h t ht
  unfold Ty.fault at h1
  split at h1; · cases h1
  exact Rd.ty hn 4 t (by simpa using ‹¬ t.deepB 4 = false›) h1
theorem Q3B {l : List Int} (h : QV l = true) : SmL l := fun n hn => of_decide_eq_true (List.all_eq_true.1 h n hn)
theorem nt_beg (cl : List UInt8) (n : Int) : Beg cl [nt n] := ⟨_, _, _, rfl, rfl⟩
theorem Rd.regs {e : Nat} {l : List Int} (hl : l.length ≤ 16) (h : SmL l) : Rd (pRegs e) (Q4o 60 l 62) l := Q5p (by decide) (by omega) (fun n hn => Rd.num (h n hn)) fun n _ => nt_beg _ n
theorem Rd.args {e : Nat} {l : List Int} (hl : l.length ≤ 16) (h : SmL l) : Rd (QgR e) (Q4o 40 l 41) l := Q5p (by decide) (by omega) (fun n hn => Rd.num (h n hn)) fun n _ => nt_beg _ n
end Go.Lir
namespace Go.Lir
set_option linter.unusedVariables false
section
variable {e : Nat}
/-- The word's number. -/
def Qh6 (ws : List (List UInt8)) : List Tk → Nat
  | [] => 0
  | (t, m) :: _ => if m.isNone = true then findW ws t else 0
theorem Qd6 {ws : List (List UInt8)} {l : List Tok} {ts : List Tk} (h : l.map Tok.tk = ts) : Qh5 ws l = Qh6 ws ts := by
  subst h
  cases l <;> rfl
def Ins.tks (x : Ins) : List Tk :=
  if x.op = 1 then [nt x.n]
  else if x.op = 2 then [wt (wordN kindWords x.k), nt x.a, nt x.b]
  else if x.op = 4 ∨ x.op = 11 ∨ x.op = 13 then [nt x.a]
  else if x.op = 5 then nt x.a :: Q4o 40 x.args 41
  else if x.op = 6 then [nt x.a, nt x.k]
  else if x.op = 7 then [nt x.a, nt x.k, nt x.b]
  else if x.op = 8 ∨ x.op = 9 then [nt x.a, nt x.b]
  else if x.op = 10 then [nt x.a, nt x.b, nt x.c]
  else if x.op = 14 then nt x.k :: (Q4o 60 x.regs 62 ++ Q4o 40 x.args 41)
  else []
theorem Rd.kind {k : Int} (h : 1 ≤ k ∧ k ≤ 9) : Rd (pKind e) [wt (wordN kindWords k)] k := fun l ts hl => by
  have hw := Qd6 (ws := kindWords) hl
  have e1 : Qh6 kindWords ([wt (wordN kindWords k)] ++ ts) = k.toNat := by
    have : k = 1 ∨ k = 2 ∨ k = 3 ∨ k = 4 ∨ k = 5 ∨ k = 6 ∨ k = 7 ∨ k = 8 ∨ k = 9 := by omega
    rcases this with rfl | rfl | rfl | rfl | rfl | rfl | rfl | rfl | rfl <;> rfl
  rw [e1] at hw
  refine ⟨l.tail, ?_, Q2Q hl⟩
  unfold pKind
  rw [hw, if_neg (by omega)]
  congr 2; omega
theorem sm4 {a b c k : Int} (h : QV [a, b, c, k] = true) : (0 ≤ a ∧ a ≤ 1000000) ∧ (0 ≤ b ∧ b ≤ 1000000) ∧ (0 ≤ c ∧ c ≤ 1000000) ∧ (0 ≤ k ∧ k ≤ 1000000) := by
  have := Q3B h
  exact ⟨this a (by simp), this b (by simp), this c (by simp), this k (by simp)⟩
theorem Q3R {x : Ins} (h : x.small = true) : QV [x.a, x.b, x.c, x.k] = true ∧ QV x.regs = true ∧ QV x.args = true := by
  unfold Ins.small at h
  rw [Bool.and_eq_true, Bool.and_eq_true] at h
  exact ⟨h.1.1, h.1.2, h.2⟩
/-- The fields that the kind has not are 0; lists are short. -/
theorem Qd5 {n : Nat} {x : Ins} (h : Q1c n x = 0) : (1 ≤ x.op ∧ x.op ≤ 14) ∧ (fA x.op = false → x.a = 0) ∧ (fB x.op = false → x.b = 0) ∧ (fC x.op = false → x.c = 0) ∧ (fK x.op = false → x.k = 0) ∧ (fN x.op = false → x.n = 0) ∧ (fG x.op = false → x.regs = []) ∧ (fR x.op = false → x.args = []) ∧ Q1J n x = 0 := by
  unfold Q1c at h
  split at h; · cases h
  split at h; · cases h
  rename_i h1 h2
  unfold Ins.odd at h2
  simp only [not_or, not_and, Classical.not_not, Nat.not_lt, Nat.le_zero_eq, List.length_eq_zero_iff] at h2
  obtain ⟨a, b, c, k, n, g, r⟩ := h2
  exact ⟨by omega, a, b, c, k, n, g, r, h⟩
theorem Rd.body {n : Nat} {x : Ins} (h : Q1c n x = 0) (hs : x.small = true) : Rd (pBody e x.op) x.tks x := by
  obtain ⟨s1, s2, s3⟩ := Q3R hs
  obtain ⟨ha, hb, hc, hk⟩ := sm4 s1
  have hg := Q3B s2
  have hr := Q3B s3
  obtain ⟨ho, za, zb, zc, zk, zn, zg, zr, hkd⟩ := Qd5 h
  obtain ⟨op, a, b, c, k, m, regs, args⟩ := x
  simp only at *
  unfold Q1J at hkd
  rcases op_cases (op := op) (by omega) (by omega) with rfl | rfl | rfl | rfl | rfl | rfl | rfl | rfl | rfl | rfl | rfl | rfl | rfl | rfl
  · obtain rfl := za (by decide); obtain rfl := zb (by decide); obtain rfl := zc (by decide); obtain rfl := zk (by decide); obtain rfl := zg (by decide); obtain rfl := zr (by decide)
    exact Rd.bind1 Rd.long (Rd.pure _)
  · obtain rfl := zc (by decide); obtain rfl := zn (by decide); obtain rfl := zg (by decide); obtain rfl := zr (by decide)
    have hk9 : 1 ≤ k ∧ k ≤ 9 := by simp at hkd; omega
    exact Rd.bind1 (Rd.kind hk9) (Rd.bind1 (Rd.num ha) (Rd.bind1 (Rd.num hb) (Rd.pure _)))
  · obtain rfl := za (by decide); obtain rfl := zb (by decide); obtain rfl := zc (by decide); obtain rfl := zk (by decide); obtain rfl := zn (by decide); obtain rfl := zg (by decide); obtain rfl := zr (by decide)
    exact Rd.pure _
  · obtain rfl := zb (by decide); obtain rfl := zc (by decide); obtain rfl := zk (by decide); obtain rfl := zn (by decide); obtain rfl := zg (by decide); obtain rfl := zr (by decide)
    exact Rd.bind1 (Rd.num ha) (Rd.pure _)
  · obtain rfl := zb (by decide); obtain rfl := zc (by decide); obtain rfl := zk (by decide); obtain rfl := zn (by decide); obtain rfl := zg (by decide)
    have hl : args.length ≤ 8 := by simp at hkd; omega
    exact Rd.bind1 (Rd.num ha) (Rd.last (Rd.args (by show args.length ≤ 16; omega) hr) (Rd.pure _))
  · obtain rfl := zb (by decide); obtain rfl := zc (by decide); obtain rfl := zn (by decide); obtain rfl := zg (by decide); obtain rfl := zr (by decide)
    exact Rd.bind1 (Rd.num ha) (Rd.bind1 (Rd.num hk) (Rd.pure _))
  · obtain rfl := zc (by decide); obtain rfl := zn (by decide); obtain rfl := zg (by decide); obtain rfl := zr (by decide)
    exact Rd.bind1 (Rd.num ha) (Rd.bind1 (Rd.num hk) (Rd.bind1 (Rd.num hb) (Rd.pure _)))
  · obtain rfl := zc (by decide); obtain rfl := zk (by decide); obtain rfl := zn (by decide); obtain rfl := zg (by decide); obtain rfl := zr (by decide)
    exact Rd.bind1 (Rd.num ha) (Rd.bind1 (Rd.num hb) (Rd.pure _))
  · obtain rfl := zc (by decide); obtain rfl := zk (by decide); obtain rfl := zn (by decide); obtain rfl := zg (by decide); obtain rfl := zr (by decide)
    exact Rd.bind1 (Rd.num ha) (Rd.bind1 (Rd.num hb) (Rd.pure _))
  · obtain rfl := zk (by decide); obtain rfl := zn (by decide); obtain rfl := zg (by decide); obtain rfl := zr (by decide)
    exact Rd.bind1 (Rd.num ha) (Rd.bind1 (Rd.num hb) (Rd.bind1 (Rd.num hc) (Rd.pure _)))
  · obtain rfl := zb (by decide); obtain rfl := zc (by decide); obtain rfl := zk (by decide); obtain rfl := zn (by decide); obtain rfl := zg (by decide); obtain rfl := zr (by decide)
    exact Rd.bind1 (Rd.num ha) (Rd.pure _)
  · obtain rfl := za (by decide); obtain rfl := zb (by decide); obtain rfl := zc (by decide); obtain rfl := zk (by decide); obtain rfl := zn (by decide); obtain rfl := zg (by decide); obtain rfl := zr (by decide)
    exact Rd.pure _
  · obtain rfl := zb (by decide); obtain rfl := zc (by decide); obtain rfl := zk (by decide); obtain rfl := zn (by decide); obtain rfl := zg (by decide); obtain rfl := zr (by decide)
    exact Rd.bind1 (Rd.num ha) (Rd.pure _)
  · obtain rfl := za (by decide); obtain rfl := zb (by decide); obtain rfl := zc (by decide); obtain rfl := zn (by decide)
    have hl : regs.length ≤ 6 ∧ args.length ≤ 8 := by simp at hkd; omega
    exact Rd.bind1 (Rd.num hk) (Rd.bind (Rd.regs (by show regs.length ≤ 16; omega) hg) (Rd.last (Rd.args (by show args.length ≤ 16; omega) hr) (Rd.pure _)))
theorem op_head {op : Int} {ts : List Tk} (h : 1 ≤ op ∧ op ≤ 14) : Qh6 opWords (wt (wordN opWords op) :: ts) = op.toNat := by
  rcases op_cases (op := op) (by omega) (by omega) with rfl | rfl | rfl | rfl | rfl | rfl | rfl | rfl | rfl | rfl | rfl | rfl | rfl | rfl <;> rfl
def Ins.tk (x : Ins) : List Tk := wt (wordN opWords x.op) :: (x.tks ++ [wt [59]])
theorem Rd.ins {n : Nat} {x : Ins} (h : Q1c n x = 0) (hs : x.small = true) : Rd (pIns e) x.tk (some x) := fun l ts hl => by
  obtain ⟨ho, _⟩ := Qd5 h
  have hl2 : l.map Tok.tk = wt (wordN opWords x.op) :: (x.tks ++ (wt [59] :: ts)) := by rw [hl]; simp [Ins.tk]
  have hw := Qd6 (ws := opWords) hl2
  rw [op_head ho] at hw
  have hc : ((x.op.toNat : Nat) : Int) = x.op := by omega
  obtain ⟨l1, e1, m1⟩ := Rd.body (e := e) h hs l.tail _ (Q2Q hl2)
  obtain ⟨l2, e2, m2⟩ := Rd.want (e := e) (s := [59]) l1 ts m1
  refine ⟨l2, ?_, m2⟩
  unfold pIns
  rw [hw, if_neg (by omega), hc]
  simp only [Qd, e1, e2]
def Q3f : List Ins → List Tk
  | [] => []
  | x :: l => x.tk ++ Q3f l
theorem Rd.code {n : Nat} : ∀ (xs : List Ins) (k : Nat), xs.length < k → (∀ x ∈ xs, Q1c n x = 0 ∧ x.small = true) → ∀ (l : List Tok) (ts : List Tk), Qh6 opWords ts = 0 → l.map Tok.tk = Q3f xs ++ ts → ∃ l', Q92 (pIns e) k l = .ok (xs, l') ∧ l'.map Tok.tk = ts
  | [], k + 1, hk, h, l, ts, ht, hl => by
    have hl : l.map Tok.tk = ts := hl
    refine ⟨l, ?_, hl⟩
    have hw := Qd6 (ws := opWords) hl
    rw [ht] at hw
    have e1 : pIns e l = .ok (none, l) := by unfold pIns; rw [if_pos hw]
    rw [Q92, e1]; rfl
  | x :: xs, k + 1, hk, h, l, ts, ht, hl => by
    obtain ⟨h1, h2⟩ := h x (List.mem_cons_self ..)
    obtain ⟨l1, e1, m1⟩ := Rd.ins (e := e) h1 h2 l (Q3f xs ++ ts) (by rw [hl, Q3f, List.append_assoc])
    obtain ⟨l2, e2, m2⟩ := Rd.code xs k (by simp at hk; omega) (fun y hy => h y (List.mem_cons_of_mem _ hy)) l1 ts ht m1
    refine ⟨l2, ?_, m2⟩
    rw [Q92, e1]
    simp only [Qd, e2]
theorem QbN : ∀ (xs : List Ins), xs.length ≤ (Q3f xs).length
  | [] => by simp
  | x :: xs => by
    have := QbN xs
    rw [Q3f, List.length_append, List.length_cons]
    unfold Ins.tk
    simp only [List.length_cons]; omega
/-! ### where a block goes on -/
def To.tk (t : To) : List Tk := nt t.block :: (Q4o 60 t.regs 62 ++ Q4o 40 t.args 41)
def Tail.tk (t : Tail) : List Tk :=
  if t.op = 1 then wt Qak :: t.yes.tk
  else if t.op = 2 then wt tIf :: nt t.a :: wt tTo :: (t.yes.tk ++ wt Q8k :: t.no.tk)
  else wt tRet :: Q4o 40 t.args 41
theorem Rd.to {n : Nat} {t : To} (h : Q18 n t true = 0) (hn : n ≤ 1000000) (hs : t.small = true) : Rd (pTo e) t.tk t := by
  unfold Q18 at h
  rw [if_neg (by decide)] at h
  split at h; · cases h
  split at h; · cases h
  unfold To.small at hs
  rw [Bool.and_eq_true] at hs
  obtain ⟨b, rs, ag⟩ := t
  simp only at *
  exact Rd.bind1 (Rd.num (by show 0 ≤ b ∧ b ≤ 1000000; omega)) (Rd.bind (Rd.regs (by show rs.length ≤ 16; omega) (Q3B hs.1)) (Rd.last (Rd.args (by show ag.length ≤ 16; omega) (Q3B hs.2)) (Rd.pure _)))
theorem Rd.fin {n : Nat} {t : Tail} (h : Q1L n t = 0) (hn : n ≤ 1000000) (hs : t.small = true) : Rd (QgO e) t.tk t := by
  unfold Tail.small at hs
  rw [Bool.and_eq_true, Bool.and_eq_true, Bool.and_eq_true] at hs
  obtain ⟨⟨⟨s1, s2⟩, s3⟩, s4⟩ := hs
  have h1 := of_decide_eq_true s1
  obtain ⟨op, a, yes, no, args⟩ := t
  simp only at *
  unfold Q1L at h
  split at h; · cases h
  split at h; · cases h
  split at h; · cases h
  rename_i q1 q2 q3
  unfold orC at h
  split at h
  · rename_i h0; exact absurd h h0
  rename_i h0
  have hy := Classical.not_not.1 h0
  have hz : ∀ {u : To}, Q18 n u false = 0 → u = ⟨0, [], []⟩ := by
    intro u hu
    obtain ⟨b, rs, ag⟩ := u
    unfold Q18 at hu
    rw [if_pos rfl] at hu
    split at hu; · cases hu
    rename_i q
    simp only at q
    obtain rfl : rs = [] := List.length_eq_zero_iff.1 (by omega)
    obtain rfl : ag = [] := List.length_eq_zero_iff.1 (by omega)
    obtain rfl : b = 0 := by omega
    rfl
  simp only at q1 q2 q3 hy h
  intro l ts hl
  rcases (show op = 1 ∨ op = 2 ∨ op = 3 by omega) with rfl | rfl | rfl
  · obtain rfl : args = [] := List.length_eq_zero_iff.1 (by omega)
    obtain rfl : a = 0 := by omega
    obtain rfl := hz h
    have hl : l.map Tok.tk = wt Qak :: (yes.tk ++ ts) := hl
    obtain ⟨l1, e1, m1⟩ := Rd.to (e := e) hy hn s3 l.tail ts (Q2Q hl)
    refine ⟨l1, ?_, m1⟩
    unfold QgO
    rw [Q1F hl, if_pos (by decide)]
    simp only [Qd, e1]
  · obtain rfl : args = [] := List.length_eq_zero_iff.1 (by omega)
    have hl : l.map Tok.tk = wt tIf :: (nt a :: wt tTo :: (yes.tk ++ (wt Q8k :: (no.tk ++ ts)))) := by rw [hl]; simp [Tail.tk]
    obtain ⟨l1, e1, m1⟩ := Rd.num (e := e) h1 l.tail _ (Q2Q hl)
    obtain ⟨l2, e2, m2⟩ := Rd.want (e := e) (s := tTo) l1 _ m1
    obtain ⟨l3, e3, m3⟩ := Rd.to (e := e) hy hn s3 l2 _ m2
    obtain ⟨l4, e4, m4⟩ := Rd.want (e := e) (s := Q8k) l3 _ m3
    obtain ⟨l5, e5, m5⟩ := Rd.to (e := e) h hn s4 l4 _ m4
    refine ⟨l5, ?_, m5⟩
    unfold QgO
    rw [Q1F hl, if_neg (by decide), Q1F hl, if_pos (by decide)]
    simp only [Qd, e1, e2, e3, e4, e5]
  · obtain rfl : a = 0 := by omega
    obtain rfl := hz hy
    obtain rfl := hz h
    have hl : l.map Tok.tk = wt tRet :: (Q4o 40 args 41 ++ ts) := hl
    obtain ⟨l1, e1, m1⟩ := Rd.want (e := e) (s := tRet) l _ hl
    obtain ⟨l2, e2, m2⟩ := Rd.args (e := e) (by omega) (Q3B s2) l1 _ m1
    refine ⟨l2, ?_, m2⟩
    unfold QgO
    rw [Q1F hl, if_neg (by decide), Q1F hl, if_neg (by decide)]
    simp only [Qd, e1, e2]
theorem fin_head {t : Tail} {ts : List Tk} : Qh6 opWords (t.tk ++ ts) = 0 := by
  unfold Tail.tk
  split
  · rfl
  · split <;> rfl
end
end Go.Lir
namespace Go.Lir
set_option linter.unusedVariables false
section
variable {e : Nat}
theorem Pr.cast {t t2 : List UInt8} {g g2 : List Tk} (h : Pr t g) (ht : t2 = t) (hg : g2 = g) : Pr t2 g2 := by subst ht hg; exact h
theorem Pr.by32 {a b : List UInt8} {g h : List Tk} (ha : Pr a g) (hb : Pr b h) : Pr (a ++ [32] ++ b) (g ++ h) := by
  rw [List.append_assoc]; exact Pr.app_sp (.inr (.inl rfl)) ha hb
theorem op_pr {op : Int} (h : 1 ≤ op ∧ op ≤ 14) : Pr (wordN opWords op) [wt (wordN opWords op)] := by
  rcases op_cases (op := op) (by omega) (by omega) with rfl | rfl | rfl | rfl | rfl | rfl | rfl | rfl | rfl | rfl | rfl | rfl | rfl | rfl <;> exact Pr.word (by decide) (Qd4 (by decide))
theorem kind_pr {k : Int} (h : 1 ≤ k ∧ k ≤ 9) : Pr (wordN kindWords k) [wt (wordN kindWords k)] := by
  have : k = 1 ∨ k = 2 ∨ k = 3 ∨ k = 4 ∨ k = 5 ∨ k = 6 ∨ k = 7 ∨ k = 8 ∨ k = 9 := by omega
  rcases this with rfl | rfl | rfl | rfl | rfl | rfl | rfl | rfl | rfl <;> exact Pr.word (by decide) (Qd4 (by decide))
theorem Q1j {n : Int} (h : 0 ≤ n ∧ n ≤ 1000000) : Pr (Lib.itoa n) [nt n] := Pr.num (by omega) (by omega)
theorem ins_pr2 {n : Nat} {x : Ins} (h : Q1c n x = 0) (hs : x.small = true) (hn : InI x.n) : Pr x.txt (wt (wordN opWords x.op) :: x.tks) := by
  obtain ⟨s1, s2, s3⟩ := Q3R hs
  obtain ⟨ha, hb, hc, hk⟩ := sm4 s1
  have hg := Q3d (b := 60) (e := 62) (Q3B s2) (by decide) (by decide)
  have hr := Q3d (b := 40) (e := 41) (Q3B s3) (by decide) (by decide)
  obtain ⟨ho, _, _, _, _, _, _, _, hkd⟩ := Qd5 h
  have hw := op_pr ho
  obtain ⟨op, a, b, c, k, m, regs, args⟩ := x
  simp only at *
  unfold Q1J at hkd
  have hn' : Pr (Lib.itoa m) [nt m] := Pr.num hn.1 hn.2
  rcases op_cases (op := op) (by omega) (by omega) with rfl | rfl | rfl | rfl | rfl | rfl | rfl | rfl | rfl | rfl | rfl | rfl | rfl | rfl
  · exact (hw.by32 hn').cast (Q5s _ _) rfl
  · have hk9 : 1 ≤ k ∧ k ≤ 9 := by simp at hkd; omega
    exact (((hw.by32 (kind_pr hk9)).by32 (Q1j ha)).by32 (Q1j hb)).cast (Q5q _ _ _ _) rfl
  · exact hw.cast (Lib.join_one _ _) rfl
  · exact (hw.by32 (Q1j ha)).cast (Q5s _ _) rfl
  · exact ((hw.by32 (Q1j ha)).by32 hr).cast (Q5r _ _ _) rfl
  · exact ((hw.by32 (Q1j ha)).by32 (Q1j hk)).cast (Q5r _ _ _) rfl
  · exact (((hw.by32 (Q1j ha)).by32 (Q1j hk)).by32 (Q1j hb)).cast (Q5q _ _ _ _) rfl
  · exact ((hw.by32 (Q1j ha)).by32 (Q1j hb)).cast (Q5r _ _ _) rfl
  · exact ((hw.by32 (Q1j ha)).by32 (Q1j hb)).cast (Q5r _ _ _) rfl
  · exact (((hw.by32 (Q1j ha)).by32 (Q1j hb)).by32 (Q1j hc)).cast (Q5q _ _ _ _) rfl
  · exact (hw.by32 (Q1j ha)).cast (Q5s _ _) rfl
  · exact hw.cast (Lib.join_one _ _) rfl
  · exact (hw.by32 (Q1j ha)).cast (Q5s _ _) rfl
  · exact (((hw.by32 (Q1j hk)).by32 hg).by32 hr).cast (Q5q _ _ _ _) rfl
theorem Qgn {n : Nat} {t : To} (h : Q18 n t true = 0) (hn : n ≤ 1000000) (hs : t.small = true) : Pr t.txt t.tk := by
  unfold Q18 at h
  rw [if_neg (by decide)] at h
  split at h; · cases h
  split at h; · cases h
  unfold To.small at hs
  rw [Bool.and_eq_true] at hs
  exact (((Q1j (n := t.block) (by omega)).by32 (Q3d (b := 60) (e := 62) (Q3B hs.1) (by decide) (by decide))).by32 (Q3d (b := 40) (e := 41) (Q3B hs.2) (by decide) (by decide))).cast rfl rfl
theorem Q4t (t : List UInt8) (h0 : t ≠ []) (h : t.all Q2H = true) : Pr t [wt t] := Pr.word h0 (Qd4 h)
theorem fin_prt {n : Nat} {t : Tail} (h : Q1L n t = 0) (hn : n ≤ 1000000) (hs : t.small = true) : Pr t.txt t.tk := by
  unfold Tail.small at hs
  rw [Bool.and_eq_true, Bool.and_eq_true, Bool.and_eq_true] at hs
  obtain ⟨⟨⟨s1, s2⟩, s3⟩, s4⟩ := hs
  have h1 : 0 ≤ t.a ∧ t.a ≤ 1000000 := of_decide_eq_true s1
  unfold Q1L at h
  split at h; · cases h
  split at h; · cases h
  split at h; · cases h
  rename_i q1 q2 q3
  unfold orC at h
  split at h
  · rename_i h0; exact absurd h h0
  rename_i h0
  have hy := Classical.not_not.1 h0
  unfold Tail.txt Tail.tk
  split
  · rename_i he
    rw [he] at hy
    exact ((Q4t Qak (by decide) (by decide)).by32 (Qgn hy hn s3)).cast rfl rfl
  · split
    · rename_i _ he
      rw [he] at hy h
      refine ((((((Q4t tIf (by decide) (by decide)).by32 (Q1j h1)).by32 (Q4t tTo (by decide) (by decide))).by32 (Qgn hy hn s3)).by32 (Q4t Q8k (by decide) (by decide))).by32 (Qgn h hn s4)).cast rfl ?_
      simp
    · exact ((Q4t tRet (by decide) (by decide)).by32 (Q3d (b := 40) (e := 41) (Q3B s2) (by decide) (by decide))).cast rfl rfl
/-- a, then a sign, then what comes. -/
theorem Pr.sigm {a b : List UInt8} {c : UInt8} {g h : List Tk} (hc : Q4a c = true) (ha : Pr a g) (hb : Pr b h) : Pr (a ++ c :: b) (g ++ wt [c] :: h) :=
  ha.app (Pr.sigl hc hb) fun s _ => Qgp ⟨(Q3C hc).1, (Q3C hc).2.1⟩
theorem QfN {n : Nat} : ∀ {l : List Ins}, (∀ x ∈ l, Q1c n x = 0 ∧ x.small = true ∧ InI x.n) → Pr (Q11 l) (Q3f l)
  | [], _ => Pr.nil
  | x :: l, h => by
    obtain ⟨h1, h2, h3⟩ := h x (List.mem_cons_self ..)
    have h4 := QfN (l := l) fun y hy => h y (List.mem_cons_of_mem _ hy)
    refine (Pr.sp (c := 9) (by decide) (Pr.sigm (c := 59) (by decide) (ins_pr2 h1 h2 h3) (Pr.sp (c := 10) (by decide) h4))).cast ?_ ?_
    · rw [Q11]; simp
    · rw [Q3f]; unfold Ins.tk; simp
/-! ### blocks, functions -/
def Block.tk (b : Block) : List Tk := wt Q2g :: nt b.regs :: (Q7b b.params ++ wt [123] :: (Q3f b.code ++ (b.fin.tk ++ [wt [59], wt [125]])))
def Q1I : List Block → List Tk
  | [] => []
  | b :: l => b.tk ++ Q1I l
def Fun.tk (f : Fun) : List Tk := wt Q4Y :: nt f.regs :: (Q7b f.params ++ wt Q38 :: (Q7b f.results ++ wt [123] :: (Q1I f.blocks ++ [wt [125]])))
def Q76 : List Fun → List Tk
  | [] => []
  | f :: l => f.tk ++ Q76 l
structure Block.OK (n nb : Nat) (b : Block) : Prop where
  regs : 0 ≤ b.regs ∧ b.regs ≤ 16
  params : Qj b.params b.regs = 0
  inr : b.InR
  code : ∀ x ∈ b.code, Q1c n x = 0
  fin : Q1L nb b.fin = 0
  small : b.small = true
structure Fun.OK (n : Nat) (f : Fun) : Prop where
  regs : 0 ≤ f.regs ∧ f.regs ≤ 6
  params : Qj f.params f.regs = 0
  results : Qj f.results f.regs = 0
  few : f.blocks.length ≤ 12
  inr : f.InR
  blocks : ∀ b ∈ f.blocks, b.OK n f.blocks.length
/-- Whatever comes behind. -/
def Pr0 (t : List UInt8) (g : List Tk) : Prop := ∀ s ts, Qb0 s ts → Qb0 (t ++ s) (g ++ ts)
theorem Pr0.nil : Pr0 [] [] := fun _ _ h => h
theorem Pr0.sp {b : List UInt8} {c : UInt8} {h : List Tk} (hc : c = 10 ∨ c = 32 ∨ c = 9 ∨ c = 13) (hb : Pr0 b h) : Pr0 (c :: b) h := fun s ts h2 => Qcl hc (hb s ts h2)
theorem Pr0.sigl {c : UInt8} {b : List UInt8} {g : List Tk} (h : Q4a c = true) (hb : Pr0 b g) : Pr0 (c :: b) (wt [c] :: g) := fun s ts h2 => Q39 (QeQ h) (hb s ts h2)
theorem Pr0.app {a b : List UInt8} {g h : List Tk} (ha : Pr0 a g) (hb : Pr0 b h) : Pr0 (a ++ b) (g ++ h) := fun s ts h2 => by
  rw [List.append_assoc, List.append_assoc]; exact ha _ _ (hb s ts h2)
theorem Pr0.cast {t t2 : List UInt8} {g g2 : List Tk} (h : Pr0 t g) (ht : t2 = t) (hg : g2 = g) : Pr0 t2 g2 := by subst ht hg; exact h
theorem Pr.app0 {a b : List UInt8} {c : UInt8} {g h : List Tk} (ha : Pr a g) (hb : Pr0 (c :: b) h) (hc : Q2H c = false ∧ Q1k c = false) : Pr0 (a ++ c :: b) (g ++ h) := fun s ts h2 => by
  rw [List.append_assoc, List.append_assoc]; exact ha _ _ (Qgp hc) (hb s ts h2)
theorem Pr0.arrow {b : List UInt8} {g : List Tk} (hb : Pr0 b g) : Pr0 (45 :: 62 :: 32 :: b) (wt Q38 :: g) := fun s ts h2 => by
  have := Q39 (t := [45, 62]) (m := none) (s := 32 :: (b ++ s)) (ts := g ++ ts) tok1_arr (Qcl (by decide) (hb s ts h2))
  exact this
theorem Qhk {n nb : Nat} {b : Block} (h : b.OK n nb) (hnb : nb ≤ 1000000) : Pr0 b.txt b.tk := by
  have hsm := h.small
  unfold Block.small at hsm
  rw [Bool.and_eq_true, List.all_eq_true] at hsm
  have h1 := QfN (n := n) (l := b.code) fun x hx => ⟨h.code x hx, hsm.1 x hx, (h.inr.2.2.1 x hx).1.2.2.2.2.2⟩
  have h2 := fin_prt h.fin hnb hsm.2
  have h3 := Q83 h.inr.2.1
  have h4 : Pr0 (b.fin.txt ++ 59 :: 10 :: 125 :: 10 :: []) (b.fin.tk ++ wt [59] :: wt [125] :: []) :=
    Pr.app0 h2 (Pr0.sigl (by decide) (Pr0.sp (by decide) (Pr0.sigl (by decide) (Pr0.sp (by decide) Pr0.nil)))) (by decide)
  have h5 : Pr0 (Q11 b.code ++ 9 :: (b.fin.txt ++ 59 :: 10 :: 125 :: 10 :: [])) (Q3f b.code ++ (b.fin.tk ++ wt [59] :: wt [125] :: [])) := Pr.app0 h1 (Pr0.sp (by decide) h4) (by decide)
  have h6 : Pr0 (Q24 b.params ++ 32 :: (123 :: 10 :: (Q11 b.code ++ 9 :: (b.fin.txt ++ 59 :: 10 :: 125 :: 10 :: [])))) (Q7b b.params ++ (wt [123] :: (Q3f b.code ++ (b.fin.tk ++ wt [59] :: wt [125] :: [])))) :=
    Pr.app0 h3 (Pr0.sp (by decide) (Pr0.sigl (by decide) (Pr0.sp (by decide) h5))) (by decide)
  have h7 := Pr.app0 (Q4t Q2g (by decide) (by decide)) (Pr0.sp (c := 32) (by decide) (Pr.app0 (Q1j (n := b.regs) (by have := h.regs; omega)) (Pr0.sp (c := 32) (by decide) h6) (by decide))) (by decide)
  refine h7.cast ?_ ?_
  · unfold Block.txt; simp only [List.append_assoc, List.cons_append, List.nil_append]
  · unfold Block.tk; simp
theorem QbP {n nb : Nat} (hnb : nb ≤ 1000000) : ∀ {l : List Block}, (∀ b ∈ l, b.OK n nb) → Pr0 (Qo l) (Q1I l)
  | [], _ => Pr0.nil
  | b :: l, h => (Qhk (h b (List.mem_cons_self ..)) hnb).app (QbP hnb (l := l) fun y hy => h y (List.mem_cons_of_mem _ hy))
theorem fun_prt {n : Nat} {f : Fun} (h : f.OK n) : Pr0 f.txt f.tk := by
  have h1 := QbP (n := n) (nb := f.blocks.length) (by have := h.few; omega) h.blocks
  have h2 := Q83 h.inr.2.1
  have h3 := Q83 h.inr.2.2.1
  have h4 : Pr0 (Qo f.blocks ++ 125 :: 10 :: []) (Q1I f.blocks ++ wt [125] :: []) := h1.app (Pr0.sigl (by decide) (Pr0.sp (by decide) Pr0.nil))
  have h5 : Pr0 (Q24 f.results ++ 32 :: (123 :: 10 :: (Qo f.blocks ++ 125 :: 10 :: []))) (Q7b f.results ++ (wt [123] :: (Q1I f.blocks ++ wt [125] :: []))) :=
    Pr.app0 h3 (Pr0.sp (by decide) (Pr0.sigl (by decide) (Pr0.sp (by decide) h4))) (by decide)
  have h6 := Pr.app0 h2 (Pr0.sp (c := 32) (by decide) (Pr0.arrow h5)) (by decide)
  have h7 := Pr.app0 (Q4t Q4Y (by decide) (by decide)) (Pr0.sp (c := 32) (by decide) (Pr.app0 (Q1j (n := f.regs) (by have := h.regs; omega)) (Pr0.sp (c := 32) (by decide) h6) (by decide))) (by decide)
  refine h7.cast ?_ ?_
  · unfold Fun.txt; simp only [List.append_assoc, List.cons_append, List.nil_append, Q38]
  · unfold Fun.tk; simp
theorem QfI {n : Nat} : ∀ {l : List Fun}, (∀ f ∈ l, f.OK n) → Pr0 (Q17 l) (Q76 l)
  | [], _ => Pr0.nil
  | f :: l, h => (fun_prt (h f (List.mem_cons_self ..))).app (QfI (l := l) fun y hy => h y (List.mem_cons_of_mem _ hy))
/-! ### read again -/
theorem Rd.block {n nb : Nat} {b : Block} (h : b.OK n nb) (hnb : nb ≤ 1000000) : Rd (QbA e) b.tk b := fun l ts hl => by
  have hsm := h.small
  unfold Block.small at hsm
  rw [Bool.and_eq_true, List.all_eq_true] at hsm
  have hl2 : l.map Tok.tk = wt Q2g :: (nt b.regs :: (Q7b b.params ++ wt [123] :: (Q3f b.code ++ (b.fin.tk ++ (wt [59] :: wt [125] :: ts))))) := by rw [hl]; unfold Block.tk; simp
  obtain ⟨l1, e1, m1⟩ := Rd.want (e := e) (s := Q2g) l _ hl2
  obtain ⟨l2, e2, m2⟩ := Rd.num (e := e) (n := b.regs) (by have := h.regs; omega) l1 _ m1
  obtain ⟨l3, e3, m3⟩ := Rd.tys (e := e) (by have := h.regs; omega) h.params l2 _ m2
  obtain ⟨l4, e4, m4⟩ := Rd.want (e := e) (s := [123]) l3 _ m3
  have hlen : b.code.length < l4.length + 1 := by
    have h1 := QbN b.code
    have m4 : l4.map Tok.tk = Q3f b.code ++ (b.fin.tk ++ wt [59] :: wt [125] :: ts) := m4
    have h2 := congrArg List.length m4
    rw [List.length_map, List.length_append] at h2
    omega
  obtain ⟨l5, e5, m5⟩ := Rd.code (e := e) b.code _ hlen (fun x hx => ⟨h.code x hx, hsm.1 x hx⟩) l4 _ fin_head m4
  obtain ⟨l6, e6, m6⟩ := Rd.fin (e := e) h.fin hnb hsm.2 l5 _ m5
  obtain ⟨l7, e7, m7⟩ := Rd.want (e := e) (s := [59]) l6 _ m6
  obtain ⟨l8, e8, m8⟩ := Rd.want (e := e) (s := [125]) l7 _ m7
  refine ⟨l8, ?_, m8⟩
  unfold QbA pAll pEnds
  simp only [Qd, e1, e2, e3, e4, e5, e6, e7, e8]
theorem Rd.blocks {n nb : Nat} (hnb : nb ≤ 1000000) : ∀ (xs : List Block) (k : Nat), xs.length < k → (∀ b ∈ xs, b.OK n nb) → ∀ (l : List Tok) (ts : List Tk), l.map Tok.tk = Q1I xs ++ wt [125] :: ts → ∃ l', Q92 (pIf (isT Q2g) (QbA e)) k l = .ok (xs, l') ∧ l'.map Tok.tk = wt [125] :: ts
  | [], k + 1, hk, h, l, ts, hl => by
    have hl : l.map Tok.tk = wt [125] :: ts := hl
    refine ⟨l, ?_, hl⟩
    have e1 : pIf (isT Q2g) (QbA e) l = .ok (none, l) := by unfold pIf; rw [Q1F hl, if_neg (by decide)]
    rw [Q92, e1]; rfl
  | b :: xs, k + 1, hk, h, l, ts, hl => by
    have hl2 : l.map Tok.tk = b.tk ++ (Q1I xs ++ wt [125] :: ts) := by rw [hl, Q1I, List.append_assoc]
    obtain ⟨l1, e1, m1⟩ := Rd.block (e := e) (h b (List.mem_cons_self ..)) hnb l _ hl2
    obtain ⟨l2, e2, m2⟩ := Rd.blocks hnb xs k (by simp at hk; omega) (fun y hy => h y (List.mem_cons_of_mem _ hy)) l1 ts m1
    refine ⟨l2, ?_, m2⟩
    have e3 : pIf (isT Q2g) (QbA e) l = .ok (some b, l1) := by
      unfold pIf
      rw [Q1F hl2, if_pos (by decide)]
      simp only [Qd, e1]
    rw [Q92, e3]
    simp only [Qd, e2]
theorem Q79 : ∀ (xs : List Block), xs.length ≤ (Q1I xs).length
  | [] => by simp
  | x :: xs => by
    have := Q79 xs
    rw [Q1I, List.length_append, List.length_cons]
    unfold Block.tk
    simp only [List.length_cons]; omega
theorem Rd.func {n : Nat} {f : Fun} (h : f.OK n) : Rd (pFun e) f.tk f := fun l ts hl => by
  have hl2 : l.map Tok.tk = wt Q4Y :: (nt f.regs :: (Q7b f.params ++ wt Q38 :: (Q7b f.results ++ wt [123] :: (Q1I f.blocks ++ (wt [125] :: ts))))) := by rw [hl]; unfold Fun.tk; simp
  obtain ⟨l1, e1, m1⟩ := Rd.want (e := e) (s := Q4Y) l _ hl2
  obtain ⟨l2, e2, m2⟩ := Rd.num (e := e) (n := f.regs) (by have := h.regs; omega) l1 _ m1
  obtain ⟨l3, e3, m3⟩ := Rd.tys (e := e) (by have := h.regs; omega) h.params l2 _ m2
  obtain ⟨l4, e4, m4⟩ := Rd.want (e := e) (s := Q38) l3 _ m3
  obtain ⟨l5, e5, m5⟩ := Rd.tys (e := e) (by have := h.regs; omega) h.results l4 _ m4
  obtain ⟨l6, e6, m6⟩ := Rd.want (e := e) (s := [123]) l5 _ m5
  have hlen : f.blocks.length < l6.length + 1 := by
    have h1 := Q79 f.blocks
    have m6 : l6.map Tok.tk = Q1I f.blocks ++ wt [125] :: ts := m6
    have h2 := congrArg List.length m6
    rw [List.length_map, List.length_append] at h2
    omega
  obtain ⟨l7, e7, m7⟩ := Rd.blocks (e := e) (by have := h.few; omega) f.blocks _ hlen h.blocks l6 _ m6
  obtain ⟨l8, e8, m8⟩ := Rd.want (e := e) (s := [125]) l7 _ m7
  refine ⟨l8, ?_, m8⟩
  unfold pFun pAll
  simp only [Qd, e1, e2, e3, e4, e5, e6, e7, e8]
theorem Rd.funs {n : Nat} : ∀ (xs : List Fun) (k : Nat), xs.length < k → (∀ f ∈ xs, f.OK n) → ∀ (l : List Tok), l.map Tok.tk = Q76 xs → ∃ l', Q92 (pIf (fun l => !l.isEmpty) (pFun e)) k l = .ok (xs, l')
  | [], k + 1, hk, h, l, hl => by
    obtain rfl : l = [] := List.map_eq_nil_iff.1 hl
    exact ⟨[], by rw [Q92]; rfl⟩
  | f :: xs, k + 1, hk, h, l, hl => by
    have hl2 : l.map Tok.tk = f.tk ++ Q76 xs := hl
    obtain ⟨l1, e1, m1⟩ := Rd.func (e := e) (h f (List.mem_cons_self ..)) l _ hl2
    obtain ⟨l2, e2⟩ := Rd.funs xs k (by simp at hk; omega) (fun y hy => h y (List.mem_cons_of_mem _ hy)) l1 m1
    refine ⟨l2, ?_⟩
    have e3 : pIf (fun l => !l.isEmpty) (pFun e) l = .ok (some f, l1) := by
      unfold pIf
      obtain ⟨x, r, rfl, _⟩ := map_cons (t := wt Q4Y) (ts := (f.tk ++ Q76 xs).tail) hl2
      rw [if_pos (by rfl)]
      simp only [Qd, e1]
    rw [Q92, e3]
    simp only [Qd, e2]
theorem QbH : ∀ (xs : List Fun), xs.length ≤ (Q76 xs).length
  | [] => by simp
  | x :: xs => by
    have := QbH xs
    rw [Q76, List.length_append, List.length_cons]
    unfold Fun.tk
    simp only [List.length_cons]; omega
theorem mod_okP {m : Module} (hr : m.InR) (h : m.fault.1 = 0) (hs : m.small = true) : ∀ f ∈ m.funcs, f.OK m.funcs.length := by
  intro f hf
  unfold Module.small at hs
  rw [List.all_eq_true] at hs
  have hs1 := hs f hf
  unfold Fun.small at hs1
  rw [List.all_eq_true] at hs1
  obtain ⟨i, hi⟩ := List.mem_iff_getElem?.1 hf
  obtain ⟨g1, g2, e1, e2, _, e3⟩ := Q9a (Qes h hi)
  refine ⟨⟨g1, g2⟩, e1, e2, e3, hr f hf, fun b hb => ?_⟩
  obtain ⟨j, hj⟩ := List.mem_iff_getElem?.1 hb
  obtain ⟨k1, k2, k3⟩ := Q9b h hi hj
  obtain ⟨b1, b2, b3, _, b4⟩ := Q9s k1
  exact ⟨⟨by omega, b2⟩, b3, (hr f hf).2.2.2 b hb, k2, k3, hs1 b hb⟩
/-- What was Q2x is read as the module that it was. -/
theorem QgM {m : Module} (hr : m.InR) (h : m.fault.1 = 0) (hs : m.small = true) (hl : m.txt.length ≤ 40000) : Qg4 m.txt = .ok m := by
  have hok := mod_okP hr h hs
  have h1 := QfI hok [] [] Qgs
  rw [List.append_nil, List.append_nil] at h1
  have h1 : Qb0 m.txt (Q76 m.funcs) := h1
  obtain ⟨l, e1, m1⟩ := h1 m.txt.length (m.txt.length + 1) [] (by omega)
  have e2 : scan m.txt = .ok l := by unfold scan; rw [if_neg (by omega), e1]; rfl
  have hlen : m.funcs.length < l.length + 1 := by
    have h1 := QbH m.funcs
    have h2 := congrArg List.length m1
    rw [List.length_map] at h2
    omega
  obtain ⟨l2, e3⟩ := Rd.funs (e := m.txt.length) m.funcs _ hlen hok l m1
  unfold Qg4 pFuns pAll
  rw [e2]
  simp only [e3]
  rw [if_neg (by rw [show (⟨m.funcs⟩ : Module) = m from rfl, h]; decide)]
end
end Go.Lir
namespace Go.Proofs.YtjecflbbcnocdaaDoor
open Go.Lir
set_option maxHeartbeats 1000000
attribute [local irreducible] LC.wp Q1 Qu Qw retQ Q1z LO.wp Qb Calls
set_option linter.unusedSimpArgs false
set_option linter.unusedVariables false
/-- What a printing gives: a text of a module that is read back, or a fault. -/
theorem print_two (m : Module) (hr : m.InR) : (Q16 m = (m.txt, (0, 0)) ∧ m.txt.length ≤ 40000 ∧ Qg4 m.txt = .ok m) ∨ (∃ f : Flt, f.1 ≠ 0 ∧ Q16 m = ([], f)) := by
  by_cases h1 : m.fault.1 = 0
  · cases h2 : m.small with
    | false => exact .inr ⟨_, by decide, pr_2 h1 h2⟩
    | true =>
      by_cases h3 : 40000 < m.txt.length
      · exact .inr ⟨_, by decide, pr_3 h1 h2 h3⟩
      · exact .inl ⟨pr_4 h1 h2 h3, by omega, QgM hr h1 h2 (by omega)⟩
  · exact .inr ⟨_, h1, pr_1 h1⟩
theorem txt_iff {m n : Module} (h1 : Qg4 m.txt = .ok m) (h2 : Qg4 n.txt = .ok n) : decide (m.txt = n.txt) = decide (m = n) := by
  by_cases h : m = n
  · subst h; rw [decide_eq_true rfl, decide_eq_true rfl]
  · rw [decide_eq_false h, decide_eq_false]
    intro h3; rw [h3, h2] at h1; exact h (by cases h1; rfl)
attribute [local irreducible] Q16 Qg4 Module.txt
variable {cx : Cx} {w : World} {L : List Res}
theorem apart_o {m n : Module} {cs ds : List Value} (hrm : m.InR) (hrn : n.InR) (hm : modR.at cx cs m) (hn : modR.at cx ds n) (hT : PowT cx) (hS : St cx w L) : Rets Tryd.prog QX [.agg ⟨cs⟩, .agg ⟨ds⟩] w fun u w' => u = .bool true ∧ St cx w' L := by
  obtain ⟨vm, rfl, hfm⟩ := Q2p hm
  obtain ⟨am, nm, rfl⟩ := Rep.SR.shape hfm
  obtain ⟨vn, rfl, hfn⟩ := Q2p hn
  obtain ⟨an, nn, rfl⟩ := Rep.SR.shape hfn
  all_goals refine Q6a ?_
  all_goals (unfold Law_RenderApart_lc; refine Q0 ?_; refine Q2 ?_; refine zb hS ?_; intro p2 w1 hS; refine zb hS ?_; intro p3 w1 hS; refine zm ?_; refine zn ?_; refine Q0 ?_; refine Q0 ?_; refine Q2 ?_; refine zR0 (c := QcV hT hS) (h := ?_); rintro v1 w1 ⟨rfl, hS⟩; refine znt ?_; refine zn ?_)
  all_goals
    first
    | (refine zct ?_ -- QX c0
       all_goals (refine Q0 ?_; refine Q2 ?_; refine zm ?_; refine zn ?_; refine zr ?_; refine zf ?_)
       all_goals (refine ⟨_, rfl, ?_, hS.sp⟩; exact rfl; done))
    | (refine zcf ?_ -- QX c0
       all_goals refine zsk ?_)
  all_goals (refine Q0 ?_; refine Q0 ?_; refine Q2 ?_; refine zv hS ?_)
  all_goals (refine zR1 (c := QbF hm hS) (h := ?_); rintro v1 w1 ⟨b, rfl, hfw, hS⟩; cases b)
  all_goals (refine zm ?_; (first | refine zgn ?_ | (refine zgy ?_; refine zv hS ?_)))
  all_goals (first | refine zgn ?_ | (refine zgy ?_; refine zR1 (c := QbF hn hS) (h := ?_); rintro v1 w1 ⟨b2, rfl, hfw2, hS⟩; cases b2))
  all_goals ((first | (refine zpt ?_) | (refine zpf ?_)); refine zn ?_)
  all_goals
    first
    | (refine zct ?_ -- QX c1
       all_goals (refine Q0 ?_; refine Q2 ?_; refine zm ?_; refine zn ?_; refine zr ?_; refine zf ?_)
       all_goals (refine ⟨_, rfl, ?_, hS.sp⟩; exact rfl; done))
    | (refine zcf ?_ -- QX c1
       all_goals refine zsk ?_)
  all_goals (refine Q0 ?_; have hsh := hfw rfl; have hsh2 := hfw2 rfl; refine Q2 ?_; refine zv hS ?_)
  all_goals (refine zR1 (c := QeV hsh hrm hm hT hS) (h := ?_); rintro v1 w1 ⟨rfl, hS⟩; rcases print_two m hrm with ⟨e1, e2, e3⟩ | ⟨f, e1, e2⟩; rw [e1]; rotate_left; rw [e2])
  all_goals (refine zm ?_; refine zxt ?_; refine zxt ?_; refine Qf hS ?_; intro p6 w1 hS; refine zm ?_; refine zsn hS ?_; intro w1 hS; have hS := hS.ns; refine zn ?_; refine Q0 ?_; refine Q2 ?_; refine zv hS ?_)
  all_goals (refine zR1 (c := QeV hsh2 hrn hn hT hS) (h := ?_); rintro v1 w1 ⟨rfl, hS⟩; rcases print_two n hrn with ⟨g1, g2, g3⟩ | ⟨g, g1, g2⟩; rw [g1]; rotate_left; rw [g2])
  all_goals (refine zm ?_; refine zxt ?_; refine zxt ?_; refine Qf hS ?_; intro p8 w1 hS; refine zm ?_; refine zsn hS ?_; intro w1 hS; have hS := hS.ns; refine zn ?_; refine Q0 ?_; refine Q2 ?_; refine zf0 ?_; refine zl hS ?_)
  all_goals (first | (refine Q22 ?_) | (refine Q23 ?_))
  all_goals (refine zm ?_; (first | refine zgn ?_ | (refine zgy ?_; refine zf0 ?_)); (first | refine zgn ?_ | (refine zgy ?_; refine zl hS ?_)))
  all_goals (first | refine zgn ?_ | (refine zgy ?_; (first | (refine Q22 ?_) | (refine Q23 ?_))))
  all_goals ((first | (refine zpt ?_) | (refine zpf ?_)); refine zm ?_; (first | refine zgn ?_ | (refine zgy ?_; refine zm ?_)); (first | refine zgn ?_ | (refine zgy ?_; refine zm ?_)); (first | refine zgn ?_ | (refine zgy ?_; refine s_seql rfl rfl ?_)); (first | refine zgn ?_ | (refine zgy ?_; refine zv hS ?_)); (first | refine zgn ?_ | (refine zgy ?_; refine zv hS ?_)); (first | refine zgn ?_ | (refine zgy ?_; refine zR2 (c := Qg0 hm hn hS) (h := ?_); rintro v1 w1 ⟨rfl, hS⟩)); (first | refine zgn ?_ | (refine zgy ?_; refine s_beq_t (by kernel_rfl) rfl rfl (txt_iff e3 g3) ?_)); (first | (refine zpt ?_) | (refine zpf ?_)); refine zm ?_; refine zn ?_; refine zr ?_; refine zf ?_; refine ⟨_, rfl, ?_, hS.sp⟩; exact rfl; done)
end Go.Proofs.YtjecflbbcnocdaaDoor
namespace Go.Proofs.YtjecflbbcnocdaaDoor
open Go.Lir
theorem renderApart_rd {c d : Array Value} {x y : Module} {w : World} (hT : PowT (Cx.top w)) (h1 : cModI.cod.rd w.heap c.toList x) (h2 : cModI.cod.rd w.heap d.toList y) : Rets Tryd.prog QX [.agg c, .agg d] w fun v w' => v = .bool true ∧ Fr NF w w' := by
  obtain ⟨h4, h5⟩ := cModI.top h1
  obtain ⟨h6, h7⟩ := cModI.top h2
  exact (apart_o h5 h7 h4 h6 hT (St.top w)).mono fun _ _ ⟨h, h2⟩ => ⟨h, h2.fr⟩
end Go.Proofs.YtjecflbbcnocdaaDoor
namespace Go.Proofs.YtjecflbbcnocdaaDoor
open Go.Lir
abbrev laid3 : List (String × DataW Unit) := [("math/bits.deBruijn32tab", Rows.laid_math_bits_deBruijn32tab), ("math/bits.deBruijn64tab", Rows.laid_math_bits_deBruijn64tab), ("internal/strconv.uint64pow10", Rows.laid_internal_strconv_uint64pow10)]
theorem door_met (os : Os) (args : Array Value) : laidMetH Tryd.prog laid3 ((World.doorLaid Tryd.prog 2000 os).forCall (fun _ _ => 0) ⟨#[], args, []⟩).memory :=
  laidMetH_of_parts3 (fuel := 8) (laidMet_of_run' 8 (by kernel_rfl) (by kernel_rfl)) (by kernel_rfl) (by kernel_rfl)
theorem pow_lit : (Rows.laid_internal_strconv_uint64pow10 : DataW Unit) = Lib.tabData .u64 Lib.pow10Tab := by kernel_rfl
/-- The table of powers of ten lies in what is only read. -/
theorem pow_of {W : World} (h : laidMetH Tryd.prog laid3 W) : PowT (Cx.top W) := by
  rw [MakeChecks.laidMetH_plain _ _ _ (by kernel_rfl)] at h
  have h2 := h.tail.tail
  rw [pow_lit] at h2
  exact TabK.top (Lib.tabIs_of_head (g := 3) (t := 150) (e := 124) (n := 20) (by kernel_rfl) (by kernel_rfl) (by kernel_rfl) (by kernel_rfl) (by kernel_rfl) (by kernel_rfl) h2)
end Go.Proofs.YtjecflbbcnocdaaDoor
