/- Lemmas of the proof, part 4: what the functions of the program do (contracts), and what follows. -/
import Derived.Test.YtanlkfeogoganaaZ2
import Derived.Test.YtanlkfeogoganaaZ3
namespace Go.Proofs.Ytanlkfeogoganaa
open Go.Lir
set_option maxHeartbeats 1000000
attribute [local irreducible] LC.wp Q3 QZ Q1g retQ Q2p LO.wp QH Calls
set_option linter.unusedSimpArgs false
set_option linter.unusedVariables false
variable {cx : Cx} {w : World} {L : List Res} {i : Nat}
abbrev jdg (b : Nat) (vf : Value) (g : Flt) (at' : Int) : Res := blk b 83 [vf, .int .i64 g.1, .int .i64 g.2, .int .i64 at']
theorem Q2c {is : Bool} {c : Int} {vf : Value} {g : Flt} {at' : Int} {b : Nat} (hc0 : is = true → c ≠ 0) (hS : St cx w L) (hi : nth L i = some (jdg b vf g at')) :
    Rets Try.prog Q2T [.pointer (some ⟨b, 0, none⟩), .bool is, .int .i64 c] w fun u w' => u = .tuple #[] ∧ St cx w' (L.set i (jdg b vf (orF g (mkF (if is = true then c else 0) at')) at')) := by
  have hS := hS.out hi
  cases is with
  | false =>
    have e : orF g (mkF (if false = true then c else 0) at') = g := QeF rfl
    rw [e]
    all_goals refine Q2S ?_
    all_goals (unfold code_judge_fail_lc; refine Q0 ?_; refine Q1 ?_; refine zm ?_; refine zm ?_; refine s_gn rfl rfl ?_; refine s_gn rfl rfl ?_; refine s_gn rfl rfl ?_; refine s_gn rfl rfl ?_; refine s_gn rfl rfl ?_)
    all_goals (refine s_gn rfl rfl ?_)
    all_goals ((first | (refine zpt ?_) | (refine zpf ?_)); refine zn ?_)
    all_goals
      first
      | (refine Q5 rfl ?_ -- Q2T c0
         all_goals (refine Q1 ?_; refine zm ?_; refine zm ?_; refine zm ?_; refine QA rfl ?_; refine Q2 rfl ?_; refine zl hS ?_; refine zb2 [_, _] ?_; refine QA rfl ?_; refine Q2 rfl ?_; refine zsn hS ?_; intro w1 hS; have hS := hS.ns)
         all_goals refine zn ?_)
      | (refine Q6 rfl ?_ -- Q2T c0
         all_goals refine zsk ?_)
    all_goals (refine Q1y ?_; exact ⟨_, rfl, rfl, St.back hS hi⟩)
  | true =>
    have hc0 := hc0 rfl
    by_cases h0 : g.1 = 0
    · have e : orF g (mkF (if true = true then c else 0) at') = (c, at') := by rw [if_pos rfl, Q5q hc0]; unfold orF; rw [if_pos ⟨h0, hc0⟩]
      rw [e]
      all_goals refine Q2S ?_
      all_goals (unfold code_judge_fail_lc; refine Q0 ?_; refine Q1 ?_; refine zm ?_; refine zm ?_; (first | refine s_gn rfl rfl ?_ | (refine s_gy rfl ?_; refine zm ?_)); (first | refine s_gn rfl rfl ?_ | (refine s_gy rfl ?_; refine QA rfl ?_)); (first | refine s_gn rfl rfl ?_ | (refine s_gy rfl ?_; refine Q2 rfl ?_)); (first | refine s_gn rfl rfl ?_ | (refine s_gy rfl ?_; (first | refine Q2 rfl ?_ | refine Q1A rfl ?_))); (first | refine s_gn rfl rfl ?_ | (refine s_gy rfl ?_; refine zl hS ?_)))
      all_goals (first | refine s_gn rfl rfl ?_ | (refine s_gy rfl ?_; refine QD ?_))
      all_goals (refine zpt ?_; refine zn ?_)
      all_goals refine Q5 rfl ?_
      all_goals (refine Q1 ?_; refine zm ?_; refine zm ?_; refine zm ?_; refine QA rfl ?_; refine Q2 rfl ?_; refine zl hS ?_; refine zb2 [_, _] ?_; refine QA rfl ?_; refine Q2 rfl ?_; (first | (refine zsn hS ?_; intro w1 hS; have hS := hS.ns) | (refine zsm hS ?_; intro w1 hS; have hS := hS.ns)); refine zn ?_; refine Q1y ?_; exact ⟨_, rfl, rfl, St.back hS hi⟩)
    · rw [Q3Y h0]
      all_goals refine Q2S ?_
      all_goals (unfold code_judge_fail_lc; refine Q0 ?_; refine Q1 ?_; refine zm ?_; refine zm ?_; (first | refine s_gn rfl rfl ?_ | (refine s_gy rfl ?_; refine zm ?_)); (first | refine s_gn rfl rfl ?_ | (refine s_gy rfl ?_; refine QA rfl ?_)); (first | refine s_gn rfl rfl ?_ | (refine s_gy rfl ?_; refine Q2 rfl ?_)); (first | refine s_gn rfl rfl ?_ | (refine s_gy rfl ?_; (first | refine Q2 rfl ?_ | refine Q1A rfl ?_))); (first | refine s_gn rfl rfl ?_ | (refine s_gy rfl ?_; refine zl hS ?_)))
      all_goals (first | refine s_gn rfl rfl ?_ | (refine s_gy rfl ?_; (first | (refine QD ?_) | (refine QI ?_))))
      all_goals (refine zpt ?_; refine zn ?_)
      all_goals refine Q6 rfl ?_
      all_goals (refine zsk ?_; refine Q1y ?_; exact ⟨_, rfl, rfl, St.back hS hi⟩)
theorem uindex_c {s : List UInt8} {c : Nat} {v : Value} (hK : u8R.sl cx v s) (hS : St cx w L) : Rets Try.prog Q1G [v, .int .u8 c] w fun u w' => ∃ r : Int, u = .int .i64 r ∧ (0 ≤ r ↔ (s.any fun b => decide (b.toNat = c)) = true) ∧ St cx w' L := by
  have hlen := hK.len
  all_goals refine Q3V ?_
  all_goals (unfold slices_Index_byte_byte_lc; refine Q0 ?_; refine Q1 ?_; refine zm ?_; refine zn ?_; refine Q0 ?_; refine Q0 ?_; refine Q1 ?_; refine zm ?_; refine zL ?_; refine zm ?_; refine zn ?_; refine Qb ?_)
  refine zoL hS [0, 1, 7] (fun A LL ρ' w' => ∃ (j : Nat), Has ρ' A ∧ Has ρ' [(8, .int .i64 j)] ∧ (j ≤ s.length) ∧ ((s.any fun b => decide (b.toNat = c)) = ((s.drop j).any fun b => decide (b.toNat = c))) ∧ St cx w' (LL)) (fun ρ' _ => (s.length - iv (ρ' 8)).toNat) ?_ ?_
  · exact ⟨0, zh, zh, (by omega), by simp, hS.sp⟩
  rintro ρ w1 ⟨j, hA, hρ, hj, hd, hS⟩; obtain ⟨ρ, rfl⟩ := env2 hA hρ
  unfold Q2n
  all_goals (refine Q0 ?_; refine Q1 ?_; refine QC rfl rfl ?_; refine zn ?_; refine Q0 ?_)
  refine Qy rfl (fun hc => ?_) (fun hc => ?_)
  · skip
    all_goals (refine zsk ?_; refine Q0 ?_; refine Qb ?_; refine Q0 ?_; refine Q1 ?_; refine zm ?_; refine zm ?_; refine zn ?_; refine Q0 ?_; refine Q1 ?_; refine zm ?_; refine zm ?_; refine zm ?_; refine zi ?_; intro b1 o1 cs1 x1 hat1 hx1 he1; (first | (obtain rfl := Q1X he1) | (obtain rfl := u8R_out he1)); (first | (refine zl hS ?_) | (refine zlk hS ?_)))
    all_goals (first | (refine QD ?_) | (refine QI ?_) | (refine Qu rfl rfl (fun hc => ?_) (fun hc => ?_)))
    all_goals (refine zn ?_)
    all_goals
      first
      | (refine Q5 rfl ?_ -- Q1G c1
         all_goals (refine Q0 ?_; refine Q1 ?_; refine zm ?_; refine zm ?_; refine zn ?_; refine zr ?_; refine zf ?_)
         all_goals (exact ⟨_, rfl, j, rfl, by rw [hd, Q7 hx1, List.any_cons, decide_eq_true (by omega), Bool.true_or]; simp, hS.sp⟩))
      | (refine Q6 rfl ?_ -- Q1G c1
         all_goals refine zsk ?_)
    all_goals (refine Q1 ?_; refine zad ?_; refine zm ?_; refine zn ?_; exact ⟨⟨j + 1, zh, zh, (by omega), by rw [hd, Q7 hx1, List.any_cons, decide_eq_false (by omega), Bool.false_or], hS.sp⟩, Qx (by omega)⟩)
  · skip
    all_goals (refine zex ?_; refine Q0 ?_; refine Q1 ?_; refine zm ?_; refine zn ?_; refine zr ?_; refine zf ?_; (first | (exact ⟨_, rfl, j, rfl, by rw [hd, Q7 hx1, List.any_cons, decide_eq_true (by omega), Bool.true_or]; simp, hS.sp⟩) | (exact ⟨_, rfl, -1, rfl, by rw [hd, List.drop_of_length_le (by omega)]; simp, hS.sp⟩)))
theorem QmE {s : List UInt8} {c : Nat} {v : Value} (hK : u8R.sl cx v s) (hS : St cx w L) : Rets Try.prog Q2o [v, .int .u8 c] w fun u w' => u = .bool (s.any fun b => decide (b.toNat = c)) ∧ St cx w' L := by
  all_goals refine Q3e ?_
  all_goals (unfold slices_Contains_byte_byte_lc; refine Q0 ?_; refine Q1 ?_; refine zm ?_; refine zn ?_; refine Q0 ?_; refine Q1 ?_; refine zm ?_; refine zm ?_; refine zR2 (c := uindex_c hK hS) (h := ?_); rintro v1 w1 ⟨r, rfl, hr, hS⟩)
  all_goals (first | (refine Q53 ?_) | (refine Q56 ?_) | (refine Q24 rfl rfl (fun hc => ?_) (fun hc => ?_)))
  all_goals (refine zm ?_; refine zn ?_; refine zr ?_; refine zf ?_)
  all_goals (refine ⟨_, rfl, ?_, hS.sp⟩; (cases hb : (s.any fun b => decide (b.toNat = c)) <;> simp_all); done)
theorem QdG {s : ByteArray} {c : Nat} (hs : s.size ≤ 1000000) (hS : St cx w L) : Rets Try.prog Qly [.string s, .int .u8 c] w fun u w' => u = .bool (Q1v s c) ∧ St cx w' L := by
  have hle := St.refl hS
  all_goals refine Qlx ?_
  all_goals (unfold code_with_lc; refine Q0 ?_; refine Q1 ?_; refine zm ?_; refine zn ?_; refine Q0 ?_; refine Q1 ?_; refine zm ?_; refine s_bytes (e := 5) (by kernel_rfl) (by kernel_rfl) (by kernel_rfl) hS vw ?_; intro v1 w1 hS; obtain ⟨c1, hle2, hS, hk1⟩ := St.freezeL (r := u8R) hS (u8R_ls _) rfl (by rw [Array.length_toList]; show s.size ≤ 140737488355328; omega); refine zm ?_; refine zR2 (c := QmE hk1 hS) (h := ?_); rintro v1 w1 ⟨rfl, hS⟩; refine zm ?_; refine zn ?_; refine zr ?_; refine zf ?_; exact ⟨_, rfl, rfl, St.weak hS.sp hle2⟩)
theorem has_c {op : Int} (hS : St cx w L) : Rets Try.prog QoR [.int .i64 op] w fun u w' => u = .string (hasF op) ∧ St cx w' L := by
  by_cases hb : op < 1 ∨ 14 < op
  · have e : hasF op = ⟨#[]⟩ := by unfold hasF; rw [if_pos hb]
    rw [e]
    all_goals refine Qf5 ?_
    all_goals (unfold code_has_lc; refine Q0 ?_; refine Q1 ?_; refine zm ?_; refine zn ?_; refine Q0 ?_; refine Q0 ?_; refine Q1 ?_; refine zm ?_)
    all_goals (first | (refine Q1Z ?_) | (refine Q20 ?_) | (refine QQ rfl rfl (fun hc => ?_) (fun hc => ?_)))
    all_goals (refine zm ?_; (first | refine s_gn rfl rfl ?_ | (refine s_gy rfl ?_; refine zm ?_)))
    all_goals (first | refine s_gn rfl rfl ?_ | (refine s_gy rfl ?_; refine Q11 ?_))
    all_goals ((first | (refine zpt ?_) | (refine zpf ?_)); refine zn ?_)
    all_goals refine Q5 rfl ?_
    all_goals (refine Q0 ?_; refine Q1 ?_; refine zm ?_; refine zn ?_; refine zr ?_; refine zf ?_; refine ⟨_, rfl, ?_, hS.sp⟩; (rfl); done)
  · have hu : (hasTab.map Value.string)[op.toNat]? = some (.string (hasF op)) := by
      rcases op_cases (op := op) (by omega) (by omega) with rfl | rfl | rfl | rfl | rfl | rfl | rfl | rfl | rfl | rfl | rfl | rfl | rfl | rfl <;> rfl
    generalize hasF op = s at hu ⊢
    all_goals refine Qf5 ?_
    all_goals (unfold code_has_lc; refine Q0 ?_; refine Q1 ?_; refine zm ?_; refine zn ?_; refine Q0 ?_; refine Q0 ?_; refine Q1 ?_; refine zm ?_)
    all_goals (first | (refine Q1Z ?_) | (refine Q20 ?_))
    all_goals (refine zm ?_; (first | refine s_gn rfl rfl ?_ | (refine s_gy rfl ?_; refine zm ?_)))
    all_goals (first | refine s_gn rfl rfl ?_ | (refine s_gy rfl ?_; (first | (refine Q11 ?_) | (refine Q14 ?_))))
    all_goals ((first | (refine zpt ?_) | (refine zpf ?_)); refine zn ?_)
    all_goals refine Q6 rfl ?_
    all_goals (refine zsk ?_; refine Q0 ?_; refine Q1 ?_; refine QpW (cs := [_, _, _, _, _, _, _, _, _, _, _, _, _, _, _]) vw vw vw vw vw vw vw vw vw vw vw vw vw vw vw (by rfl) ?_; refine zm ?_; refine s_idxv (n := 15) (e := 9) (by kernel_rfl) (by kernel_rfl) (by kernel_rfl) vw vw (by omega) (by omega) hu ?_; refine zm ?_; refine zn ?_; refine zr ?_; refine zf ?_; refine ⟨_, rfl, ?_, hS.sp⟩; (rfl); done)
theorem QqG (op : Int) : (hasF op).size ≤ 1000000 := by
  by_cases hb : op < 1 ∨ 14 < op
  · unfold hasF; rw [if_pos hb]; decide
  · rcases op_cases (op := op) (by omega) (by omega) with rfl | rfl | rfl | rfl | rfl | rfl | rfl | rfl | rfl | rfl | rfl | rfl | rfl | rfl <;> decide
theorem ins_end {g : Flt} {at' : Int} {n : Nat} {x : Ins} {q : Bool} {c3 : Int} (hq : q = true ↔ (((((((Q1v (hasF x.op) 97 = false ∧ x.a ≠ 0) ∨ (Q1v (hasF x.op) 98 = false ∧ x.b ≠ 0)) ∨ (Q1v (hasF x.op) 99 = false ∧ x.c ≠ 0)) ∨ (Q1v (hasF x.op) 107 = false ∧ x.k ≠ 0)) ∨ (Q1v (hasF x.op) 110 = false ∧ x.n ≠ 0)) ∨ (Q1v (hasF x.op) 103 = false ∧ 0 < x.regs.length)) ∨ (Q1v (hasF x.op) 114 = false ∧ 0 < x.args.length))) (h3 : c3 = Q1H n x) :
    orF (orF (orF g (mkF (if x.op < 1 ∨ 14 < x.op then 3 else 0) at')) (mkF (if q = true then 4 else 0) at')) (mkF c3 at') = orF g (mkF (QP n x) at') := by
  rw [Q2O, Q2O]
  congr 2
  subst h3
  unfold QP
  by_cases hb : x.op < 1 ∨ 14 < x.op
  · rw [if_pos hb, if_pos hb]; rfl
  · rw [if_neg hb, if_neg hb]
    obtain ⟨h1, h2, h3, h4, h5, h6, h7⟩ := with_all x.op hb
    rw [h1, h2, h3, h4, h5, h6, h7] at hq
    simp only [or_assoc] at hq
    by_cases ho : x.odd
    · rw [if_pos ho, if_pos (hq.2 ho)]; rfl
    · rw [if_neg ho, if_neg fun h => ho (hq.1 h)]; rfl
theorem Q5n {a b : Int} (h : a ≠ 0) : orC a b = a := if_pos h
theorem Q54 (b : Int) : orC 0 b = b := rfl
section
attribute [local irreducible] orF mkF orC Q1H QP Q1S Q1I
set_option maxHeartbeats 1000000 in
theorem ins_c {x : Ins} {n : List Fun} {vf : Value} {g : Flt} {at' : Int} {b : Nat} {cs : List Value} (hx : insR.at cx cs x) (hf : funcR.sl cx vf n) (hS : St cx w L) (hi : nth L i = some (jdg b vf g at')) :
    Rets Try.prog QU [.pointer (some ⟨b, 0, none⟩), .agg ⟨cs⟩] w fun u w' => u = .tuple #[] ∧ St cx w' (L.set i (jdg b vf (orF g (mkF (QP n.length x) at')) at')) := by
  have hS := hS.out hi
  obtain ⟨vr, va, rfl, hr, ha⟩ := Q1Q hx
  have hlr := hr.len
  have hla := ha.len
  have hln := hf.len
  have hsz := QqG x.op
  all_goals refine QbG ?_
  all_goals (unfold code_judge_ins_lc; refine Q0 ?_; refine Q1 ?_; refine zb hS ?_; intro p3 w1 hS; refine zn ?_)
  refine zM [0, 3] (fun A ρ' w' => Has ρ' A ∧ Has ρ' [] ∧ St cx w' (blk p3 27 [.int .i64 x.op, .int .i64 x.a, .int .i64 x.b, .int .i64 x.c, .int .i64 x.k, .int .i64 x.n, vr, va] :: jdg b vf (orF g (mkF (if x.op < 1 ∨ 14 < x.op then 3 else 0) at')) at' :: L.eraseIdx i)) ?_ ?_
  · skip
    all_goals (refine Q1 ?_; refine zm ?_; refine Q2 rfl ?_; refine zl hS ?_)
    all_goals (first | (refine Q1Z ?_) | (refine Q20 ?_) | (refine QQ rfl rfl (fun hc => ?_) (fun hc => ?_)))
    all_goals (refine zm ?_; (first | refine s_gn rfl rfl ?_ | (refine s_gy rfl ?_; refine Q2 rfl ?_)); (first | refine s_gn rfl rfl ?_ | (refine s_gy rfl ?_; refine zl hS ?_)))
    all_goals (first | refine s_gn rfl rfl ?_ | (refine s_gy rfl ?_; (first | (refine Q11 ?_) | (refine Q14 ?_) | (refine Qn rfl rfl (fun hc => ?_) (fun hc => ?_)))))
    all_goals ((first | (refine zpt ?_) | (refine zpf ?_)); refine zR3 (c := Q2c (by intro _; decide) hS fd) (h := ?_); rintro v1 w1 ⟨rfl, hS⟩; simp only [List.set_cons_zero, List.set_cons_succ, if_true, Bool.false_eq_true, if_false] at hS; refine zn ?_; exact ⟨zh, zh, by first | (rw [if_pos (by omega)]; exact hS.sp) | (rw [if_neg (by omega)]; exact hS.sp)⟩)
  rintro ρ w1 ⟨hA, hρ, hS⟩; obtain ⟨ρ, rfl⟩ := env2 hA hρ
  all_goals (refine Q0 ?_; refine Q1 ?_; refine Q2 rfl ?_; refine zl hS ?_; refine zR1 (c := has_c hS) (h := ?_); rintro v1 w1 ⟨rfl, hS⟩; refine zm ?_; refine zn ?_; generalize hh : hasF x.op = h at *; refine Q0 ?_; refine Q1 ?_)
  refine zKL hS 9 [0, 3, 4] (fun A LL ρ' w' => ∃ (q1 : Bool), Has ρ' A ∧ Has ρ' [(18, .pointer (some ⟨b, 0, none⟩)), (26, .bool q1)] ∧ (q1 = true ↔ (Q1v h 97 = false ∧ x.a ≠ 0)) ∧ St cx w' (LL)) ?_ ?_
  · skip
    all_goals (refine zm ?_; refine zm ?_; refine zR2 (c := QdG hsz hS) (h := ?_); rintro v1 w1 ⟨rfl, hS⟩)
    all_goals (cases ha1 : Q1v h 97)
    all_goals (refine Q1W rfl ?_; refine zm ?_; (first | refine s_gn rfl rfl ?_ | (refine s_gy rfl ?_; refine Q2 rfl ?_)); (first | refine s_gn rfl rfl ?_ | (refine s_gy rfl ?_; refine zl hS ?_)))
    all_goals (first | refine s_gn rfl rfl ?_ | (refine s_gy rfl ?_; (first | (refine Q1h ?_) | (refine Q1i ?_) | (refine Qw rfl rfl (fun hc => ?_) (fun hc => ?_)))))
    all_goals ((first | (refine zpt ?_) | (refine zpf ?_)); refine Q4E ?_; refine Q2b ?_)
    all_goals (first | (exact ⟨_, zh, zh, by exact ⟨fun _ => ⟨(by first | rfl | assumption), by omega⟩, fun _ => rfl⟩, hS.sp⟩) | (exact ⟨_, zh, zh, by exact ⟨fun h => Bool.noConfusion h, fun h => by obtain ⟨h1, h2⟩ := h; first | (exfalso; omega) | (simp_all; done)⟩, hS.sp⟩))
  rintro ρ w1 ⟨q1, hA, hρ, hq1, hS⟩; obtain ⟨ρ, rfl⟩ := env2 hA hρ
  refine zKL hS 10 [0, 3, 4, 18] (fun A LL ρ' w' => ∃ (q2 : Bool), Has ρ' A ∧ Has ρ' [(36, .bool q2)] ∧ (q2 = true ↔ ((Q1v h 97 = false ∧ x.a ≠ 0) ∨ (Q1v h 98 = false ∧ x.b ≠ 0))) ∧ St cx w' (LL)) ?_ ?_
  · skip
    all_goals (cases q1)
    all_goals (refine zm ?_; (first | refine s_gn rfl rfl ?_ | (refine s_gy rfl ?_; refine zm ?_)); (first | refine s_gn rfl rfl ?_ | (refine s_gy rfl ?_; refine zR2 (c := QdG hsz hS) (h := ?_); rintro v1 w1 ⟨rfl, hS⟩)))
    all_goals (cases ha2 : Q1v h 98)
    all_goals ((first | refine s_gn rfl rfl ?_ | (refine s_gy rfl ?_; refine Q1W rfl ?_)); (first | refine s_gn rfl rfl ?_ | (refine s_gy rfl ?_; refine zm ?_)); (first | refine s_gn rfl rfl ?_ | (refine s_gy rfl ?_; refine Q2 rfl ?_)); (first | refine s_gn rfl rfl ?_ | (refine s_gy rfl ?_; refine zl hS ?_)))
    all_goals (first | refine s_gn rfl rfl ?_ | (refine s_gy rfl ?_; (first | (refine Q1h ?_) | (refine Q1i ?_) | (refine Qw rfl rfl (fun hc => ?_) (fun hc => ?_)))))
    all_goals ((first | refine s_gn rfl rfl ?_ | (refine s_gy rfl ?_; (first | (refine zpt ?_) | (refine zpf ?_)))); (first | (refine zpt ?_) | (refine zpf ?_)); refine Q4E ?_; refine Q2b ?_)
    all_goals (first | (exact ⟨_, zh, zh, by exact ⟨fun _ => .inl (hq1.1 rfl), fun _ => rfl⟩, hS.sp⟩) | (exact ⟨_, zh, zh, by exact ⟨fun _ => .inr ⟨(by first | rfl | assumption), by omega⟩, fun _ => rfl⟩, hS.sp⟩) | (exact ⟨_, zh, zh, by exact ⟨fun h => Bool.noConfusion h, fun h => h.elim (fun h => hq1.2 h) (fun h => by obtain ⟨h1, h2⟩ := h; first | (exfalso; omega) | (simp_all; done))⟩, hS.sp⟩))
  rintro ρ w1 ⟨q2, hA, hρ, hq2, hS⟩; obtain ⟨ρ, rfl⟩ := env2 hA hρ
  refine zKL hS 10 [0, 3, 4, 18] (fun A LL ρ' w' => ∃ (q3 : Bool), Has ρ' A ∧ Has ρ' [(46, .bool q3)] ∧ (q3 = true ↔ (((Q1v h 97 = false ∧ x.a ≠ 0) ∨ (Q1v h 98 = false ∧ x.b ≠ 0)) ∨ (Q1v h 99 = false ∧ x.c ≠ 0))) ∧ St cx w' (LL)) ?_ ?_
  · skip
    all_goals (cases q2)
    all_goals (refine zm ?_; (first | refine s_gn rfl rfl ?_ | (refine s_gy rfl ?_; refine zm ?_)); (first | refine s_gn rfl rfl ?_ | (refine s_gy rfl ?_; refine zR2 (c := QdG hsz hS) (h := ?_); rintro v1 w1 ⟨rfl, hS⟩)))
    all_goals (cases ha3 : Q1v h 99)
    all_goals ((first | refine s_gn rfl rfl ?_ | (refine s_gy rfl ?_; refine Q1W rfl ?_)); (first | refine s_gn rfl rfl ?_ | (refine s_gy rfl ?_; refine zm ?_)); (first | refine s_gn rfl rfl ?_ | (refine s_gy rfl ?_; refine Q2 rfl ?_)); (first | refine s_gn rfl rfl ?_ | (refine s_gy rfl ?_; refine zl hS ?_)))
    all_goals (first | refine s_gn rfl rfl ?_ | (refine s_gy rfl ?_; (first | (refine Q1h ?_) | (refine Q1i ?_) | (refine Qw rfl rfl (fun hc => ?_) (fun hc => ?_)))))
    all_goals ((first | refine s_gn rfl rfl ?_ | (refine s_gy rfl ?_; (first | (refine zpt ?_) | (refine zpf ?_)))); (first | (refine zpt ?_) | (refine zpf ?_)); refine Q4E ?_; refine Q2b ?_)
    all_goals (first | (exact ⟨_, zh, zh, by exact ⟨fun _ => .inl (hq2.1 rfl), fun _ => rfl⟩, hS.sp⟩) | (exact ⟨_, zh, zh, by exact ⟨fun _ => .inr ⟨(by first | rfl | assumption), by omega⟩, fun _ => rfl⟩, hS.sp⟩) | (exact ⟨_, zh, zh, by exact ⟨fun h => Bool.noConfusion h, fun h => h.elim (fun h => hq2.2 h) (fun h => by obtain ⟨h1, h2⟩ := h; first | (exfalso; omega) | (simp_all; done))⟩, hS.sp⟩))
  rintro ρ w1 ⟨q3, hA, hρ, hq3, hS⟩; obtain ⟨ρ, rfl⟩ := env2 hA hρ
  refine zKL hS 10 [0, 3, 4, 18] (fun A LL ρ' w' => ∃ (q4 : Bool), Has ρ' A ∧ Has ρ' [(56, .bool q4)] ∧ (q4 = true ↔ ((((Q1v h 97 = false ∧ x.a ≠ 0) ∨ (Q1v h 98 = false ∧ x.b ≠ 0)) ∨ (Q1v h 99 = false ∧ x.c ≠ 0)) ∨ (Q1v h 107 = false ∧ x.k ≠ 0))) ∧ St cx w' (LL)) ?_ ?_
  · skip
    all_goals (cases q3)
    all_goals (refine zm ?_; (first | refine s_gn rfl rfl ?_ | (refine s_gy rfl ?_; refine zm ?_)); (first | refine s_gn rfl rfl ?_ | (refine s_gy rfl ?_; refine zR2 (c := QdG hsz hS) (h := ?_); rintro v1 w1 ⟨rfl, hS⟩)))
    all_goals (cases ha4 : Q1v h 107)
    all_goals ((first | refine s_gn rfl rfl ?_ | (refine s_gy rfl ?_; refine Q1W rfl ?_)); (first | refine s_gn rfl rfl ?_ | (refine s_gy rfl ?_; refine zm ?_)); (first | refine s_gn rfl rfl ?_ | (refine s_gy rfl ?_; refine Q2 rfl ?_)); (first | refine s_gn rfl rfl ?_ | (refine s_gy rfl ?_; refine zl hS ?_)))
    all_goals (first | refine s_gn rfl rfl ?_ | (refine s_gy rfl ?_; (first | (refine Q1h ?_) | (refine Q1i ?_) | (refine Qw rfl rfl (fun hc => ?_) (fun hc => ?_)))))
    all_goals ((first | refine s_gn rfl rfl ?_ | (refine s_gy rfl ?_; (first | (refine zpt ?_) | (refine zpf ?_)))); (first | (refine zpt ?_) | (refine zpf ?_)); refine Q4E ?_; refine Q2b ?_)
    all_goals (first | (exact ⟨_, zh, zh, by exact ⟨fun _ => .inl (hq3.1 rfl), fun _ => rfl⟩, hS.sp⟩) | (exact ⟨_, zh, zh, by exact ⟨fun _ => .inr ⟨(by first | rfl | assumption), by omega⟩, fun _ => rfl⟩, hS.sp⟩) | (exact ⟨_, zh, zh, by exact ⟨fun h => Bool.noConfusion h, fun h => h.elim (fun h => hq3.2 h) (fun h => by obtain ⟨h1, h2⟩ := h; first | (exfalso; omega) | (simp_all; done))⟩, hS.sp⟩))
  rintro ρ w1 ⟨q4, hA, hρ, hq4, hS⟩; obtain ⟨ρ, rfl⟩ := env2 hA hρ
  refine zKL hS 10 [0, 3, 4, 18] (fun A LL ρ' w' => ∃ (q5 : Bool), Has ρ' A ∧ Has ρ' [(66, .bool q5)] ∧ (q5 = true ↔ (((((Q1v h 97 = false ∧ x.a ≠ 0) ∨ (Q1v h 98 = false ∧ x.b ≠ 0)) ∨ (Q1v h 99 = false ∧ x.c ≠ 0)) ∨ (Q1v h 107 = false ∧ x.k ≠ 0)) ∨ (Q1v h 110 = false ∧ x.n ≠ 0))) ∧ St cx w' (LL)) ?_ ?_
  · skip
    all_goals (cases q4)
    all_goals (refine zm ?_; (first | refine s_gn rfl rfl ?_ | (refine s_gy rfl ?_; refine zm ?_)); (first | refine s_gn rfl rfl ?_ | (refine s_gy rfl ?_; refine zR2 (c := QdG hsz hS) (h := ?_); rintro v1 w1 ⟨rfl, hS⟩)))
    all_goals (cases ha5 : Q1v h 110)
    all_goals ((first | refine s_gn rfl rfl ?_ | (refine s_gy rfl ?_; refine Q1W rfl ?_)); (first | refine s_gn rfl rfl ?_ | (refine s_gy rfl ?_; refine zm ?_)); (first | refine s_gn rfl rfl ?_ | (refine s_gy rfl ?_; refine Q2 rfl ?_)); (first | refine s_gn rfl rfl ?_ | (refine s_gy rfl ?_; refine zl hS ?_)))
    all_goals (first | refine s_gn rfl rfl ?_ | (refine s_gy rfl ?_; (first | (refine Q1h ?_) | (refine Q1i ?_) | (refine Qw rfl rfl (fun hc => ?_) (fun hc => ?_)))))
    all_goals ((first | refine s_gn rfl rfl ?_ | (refine s_gy rfl ?_; (first | (refine zpt ?_) | (refine zpf ?_)))); (first | (refine zpt ?_) | (refine zpf ?_)); refine Q4E ?_; refine Q2b ?_)
    all_goals (first | (exact ⟨_, zh, zh, by exact ⟨fun _ => .inl (hq4.1 rfl), fun _ => rfl⟩, hS.sp⟩) | (exact ⟨_, zh, zh, by exact ⟨fun _ => .inr ⟨(by first | rfl | assumption), by omega⟩, fun _ => rfl⟩, hS.sp⟩) | (exact ⟨_, zh, zh, by exact ⟨fun h => Bool.noConfusion h, fun h => h.elim (fun h => hq4.2 h) (fun h => by obtain ⟨h1, h2⟩ := h; first | (exfalso; omega) | (simp_all; done))⟩, hS.sp⟩))
  rintro ρ w1 ⟨q5, hA, hρ, hq5, hS⟩; obtain ⟨ρ, rfl⟩ := env2 hA hρ
  refine zKL hS 11 [0, 3, 4, 18] (fun A LL ρ' w' => ∃ (q6 : Bool), Has ρ' A ∧ Has ρ' [(77, .bool q6)] ∧ (q6 = true ↔ ((((((Q1v h 97 = false ∧ x.a ≠ 0) ∨ (Q1v h 98 = false ∧ x.b ≠ 0)) ∨ (Q1v h 99 = false ∧ x.c ≠ 0)) ∨ (Q1v h 107 = false ∧ x.k ≠ 0)) ∨ (Q1v h 110 = false ∧ x.n ≠ 0)) ∨ (Q1v h 103 = false ∧ 0 < x.regs.length))) ∧ St cx w' (LL)) ?_ ?_
  · skip
    all_goals (cases q5)
    all_goals (refine zm ?_; (first | refine s_gn rfl rfl ?_ | (refine s_gy rfl ?_; refine zm ?_)); (first | refine s_gn rfl rfl ?_ | (refine s_gy rfl ?_; refine zR2 (c := QdG hsz hS) (h := ?_); rintro v1 w1 ⟨rfl, hS⟩)))
    all_goals (cases ha6 : Q1v h 103)
    all_goals ((first | refine s_gn rfl rfl ?_ | (refine s_gy rfl ?_; refine Q1W rfl ?_)); (first | refine s_gn rfl rfl ?_ | (refine s_gy rfl ?_; refine zm ?_)); (first | refine s_gn rfl rfl ?_ | (refine s_gy rfl ?_; refine Q2 rfl ?_)); (first | refine s_gn rfl rfl ?_ | (refine s_gy rfl ?_; refine zl hS ?_)); (first | refine s_gn rfl rfl ?_ | (refine s_gy rfl ?_; refine zL ?_)))
    all_goals (first | refine s_gn rfl rfl ?_ | (refine s_gy rfl ?_; (first | (refine Q11 ?_) | (refine Q14 ?_) | (refine Qn rfl rfl (fun hc => ?_) (fun hc => ?_)))))
    all_goals ((first | refine s_gn rfl rfl ?_ | (refine s_gy rfl ?_; (first | (refine zpt ?_) | (refine zpf ?_)))); (first | (refine zpt ?_) | (refine zpf ?_)); refine Q4E ?_; refine Q2b ?_)
    all_goals (first | (exact ⟨_, zh, zh, by exact ⟨fun _ => .inl (hq5.1 rfl), fun _ => rfl⟩, hS.sp⟩) | (exact ⟨_, zh, zh, by exact ⟨fun _ => .inr ⟨(by first | rfl | assumption), by omega⟩, fun _ => rfl⟩, hS.sp⟩) | (exact ⟨_, zh, zh, by exact ⟨fun h => Bool.noConfusion h, fun h => h.elim (fun h => hq5.2 h) (fun h => by obtain ⟨h1, h2⟩ := h; first | (exfalso; omega) | (simp_all; done))⟩, hS.sp⟩))
  rintro ρ w1 ⟨q6, hA, hρ, hq6, hS⟩; obtain ⟨ρ, rfl⟩ := env2 hA hρ
  refine zKL hS 11 [0, 3, 18] (fun A LL ρ' w' => ∃ (q7 : Bool), Has ρ' A ∧ Has ρ' [(88, .bool q7)] ∧ (q7 = true ↔ (((((((Q1v h 97 = false ∧ x.a ≠ 0) ∨ (Q1v h 98 = false ∧ x.b ≠ 0)) ∨ (Q1v h 99 = false ∧ x.c ≠ 0)) ∨ (Q1v h 107 = false ∧ x.k ≠ 0)) ∨ (Q1v h 110 = false ∧ x.n ≠ 0)) ∨ (Q1v h 103 = false ∧ 0 < x.regs.length)) ∨ (Q1v h 114 = false ∧ 0 < x.args.length))) ∧ St cx w' (LL)) ?_ ?_
  · skip
    all_goals (cases q6)
    all_goals (refine zm ?_; (first | refine s_gn rfl rfl ?_ | (refine s_gy rfl ?_; refine zm ?_)); (first | refine s_gn rfl rfl ?_ | (refine s_gy rfl ?_; refine zR2 (c := QdG hsz hS) (h := ?_); rintro v1 w1 ⟨rfl, hS⟩)))
    all_goals (cases ha7 : Q1v h 114)
    all_goals ((first | refine s_gn rfl rfl ?_ | (refine s_gy rfl ?_; refine Q1W rfl ?_)); (first | refine s_gn rfl rfl ?_ | (refine s_gy rfl ?_; refine zm ?_)); (first | refine s_gn rfl rfl ?_ | (refine s_gy rfl ?_; refine Q2 rfl ?_)); (first | refine s_gn rfl rfl ?_ | (refine s_gy rfl ?_; refine zl hS ?_)); (first | refine s_gn rfl rfl ?_ | (refine s_gy rfl ?_; refine zL ?_)))
    all_goals (first | refine s_gn rfl rfl ?_ | (refine s_gy rfl ?_; (first | (refine Q11 ?_) | (refine Q14 ?_) | (refine Qn rfl rfl (fun hc => ?_) (fun hc => ?_)))))
    all_goals ((first | refine s_gn rfl rfl ?_ | (refine s_gy rfl ?_; (first | (refine zpt ?_) | (refine zpf ?_)))); (first | (refine zpt ?_) | (refine zpf ?_)); refine Q4E ?_; refine Q2b ?_)
    all_goals (first | (exact ⟨_, zh, zh, by exact ⟨fun _ => .inl (hq6.1 rfl), fun _ => rfl⟩, hS.sp⟩) | (exact ⟨_, zh, zh, by exact ⟨fun _ => .inr ⟨(by first | rfl | assumption), by omega⟩, fun _ => rfl⟩, hS.sp⟩) | (exact ⟨_, zh, zh, by exact ⟨fun h => Bool.noConfusion h, fun h => h.elim (fun h => hq6.2 h) (fun h => by obtain ⟨h1, h2⟩ := h; first | (exfalso; omega) | (simp_all; done))⟩, hS.sp⟩))
  rintro ρ w1 ⟨q7, hA, hρ, hq7, hS⟩; obtain ⟨ρ, rfl⟩ := env2 hA hρ
  all_goals (refine zR3 (c := Q2c (by intro _; decide) hS fd) (h := ?_); rintro v1 w1 ⟨rfl, hS⟩; simp only [List.set_cons_zero, List.set_cons_succ, if_true, Bool.false_eq_true, if_false] at hS; refine zn ?_; refine Q0 ?_; clear hq1 hq2 hq3 hq4 hq5 hq6; have hq := hq7; clear hq7; refine Q1 ?_; refine Q2 rfl ?_; refine zl hS ?_; refine zn ?_; refine Qb ?_; refine Q0 ?_; refine Q1 ?_)
  all_goals (first | (refine QD ?_) | (refine QI ?_) | (refine Qu rfl rfl (fun hc => ?_) (fun hc => ?_)))
  all_goals (refine zm ?_; refine zn ?_)
  all_goals
    first
    | (refine Q5 rfl ?_ -- QU c0
       all_goals (refine Q1 ?_; refine zm ?_; refine Q2 rfl ?_; refine zl hS ?_)
       all_goals (first | (refine Q1Z ?_) | (refine Q20 ?_) | (refine QQ rfl rfl (fun hc => ?_) (fun hc => ?_)))
       all_goals (refine zm ?_; (first | refine s_gn rfl rfl ?_ | (refine s_gy rfl ?_; refine Q2 rfl ?_)); (first | refine s_gn rfl rfl ?_ | (refine s_gy rfl ?_; refine zl hS ?_)))
       all_goals (first | refine s_gn rfl rfl ?_ | (refine s_gy rfl ?_; (first | (refine Q11 ?_) | (refine Q14 ?_) | (refine Qn rfl rfl (fun hc => ?_) (fun hc => ?_)))))
       all_goals ((first | (refine zpt ?_) | (refine zpf ?_)); refine zR3 (c := Q2c (by intro _; decide) hS fd) (h := ?_); rintro v1 w1 ⟨rfl, hS⟩; simp only [List.set_cons_zero, List.set_cons_succ, if_true, Bool.false_eq_true, if_false] at hS)
       all_goals refine zn ?_)
    | (refine Q6 rfl ?_ -- QU c0
       all_goals (refine Q0 ?_; refine Q1 ?_)
       all_goals (first | (refine QD ?_) | (refine QI ?_) | (refine Qu rfl rfl (fun hc => ?_) (fun hc => ?_)))
       all_goals (refine zm ?_; refine zn ?_)
       all_goals
         first
         | (refine Q5 rfl ?_ -- QU c1
            all_goals (refine Q1 ?_; refine zm ?_; refine Q2 rfl ?_; refine zl hS ?_; refine zL ?_)
            all_goals (first | (refine Q11 ?_) | (refine Q14 ?_) | (refine Qn rfl rfl (fun hc => ?_) (fun hc => ?_)))
            all_goals (refine zR3 (c := Q2c (by intro _; decide) hS fd) (h := ?_); rintro v1 w1 ⟨rfl, hS⟩; simp only [List.set_cons_zero, List.set_cons_succ, if_true, Bool.false_eq_true, if_false] at hS)
            all_goals refine zn ?_)
         | (refine Q6 rfl ?_ -- QU c1
            all_goals (refine Q0 ?_; refine Q0 ?_; refine Q1 ?_)
            all_goals (first | (refine QD ?_) | (refine QI ?_) | (refine Qu rfl rfl (fun hc => ?_) (fun hc => ?_)))
            all_goals (refine zm ?_; refine zn ?_)
            all_goals
              first
              | (refine Q5 rfl ?_ -- QU c2
                 all_goals refine zsk ?_)
              | (refine Q6 rfl ?_ -- QU c2
                 all_goals (refine Q1 ?_)
                 all_goals (first | (refine QD ?_) | (refine QI ?_) | (refine Qu rfl rfl (fun hc => ?_) (fun hc => ?_)))
                 all_goals (refine zm ?_)
                 all_goals refine zn ?_)
            all_goals
              first
              | (refine Q5 rfl ?_ -- QU c3
                 all_goals (refine Q1 ?_; refine zm ?_; refine Q2 rfl ?_; refine zl hS ?_)
                 all_goals (first | (refine Q1Z ?_) | (refine Q20 ?_) | (refine QQ rfl rfl (fun hc => ?_) (fun hc => ?_)))
                 all_goals (refine zm ?_; (first | refine s_gn rfl rfl ?_ | (refine s_gy rfl ?_; refine Q2 rfl ?_)); (first | refine s_gn rfl rfl ?_ | (refine s_gy rfl ?_; refine zl hS ?_)))
                 all_goals (first | refine s_gn rfl rfl ?_ | (refine s_gy rfl ?_; (first | (refine Q53 ?_) | (refine Q56 ?_) | (refine Q24 rfl rfl (fun hc => ?_) (fun hc => ?_)))))
                 all_goals ((first | (refine zpt ?_) | (refine zpf ?_)); refine zR3 (c := Q2c (by intro _; decide) hS fd) (h := ?_); rintro v1 w1 ⟨rfl, hS⟩; simp only [List.set_cons_zero, List.set_cons_succ, if_true, Bool.false_eq_true, if_false] at hS)
                 all_goals refine zn ?_)
              | (refine Q6 rfl ?_ -- QU c3
                 all_goals (refine Q0 ?_; refine Q1 ?_)
                 all_goals (first | (refine QD ?_) | (refine QI ?_) | (refine Qu rfl rfl (fun hc => ?_) (fun hc => ?_)))
                 all_goals (refine zm ?_; refine zn ?_)
                 all_goals
                   first
                   | (refine Q5 rfl ?_ -- QU c4
                      all_goals (refine Q0 ?_; refine zD [(0, none), (1, none), (2, none), (3, none), (4, none), (5, none), (6, none), (7, none), (8, none), (9, none), (10, none), (11, none), (12, none), (13, none), (14, none), (15, some none)] ?_; have hS := hS.drew; refine zm ?_; refine Q2 rfl ?_; refine zl hS ?_)
                      all_goals (first | (refine Q1Z ?_) | (refine Q20 ?_) | (refine QQ rfl rfl (fun hc => ?_) (fun hc => ?_)))
                      all_goals (refine zm ?_; (first | refine s_gn rfl rfl ?_ | (refine s_gy rfl ?_; refine Q2 rfl ?_)); (first | refine s_gn rfl rfl ?_ | (refine s_gy rfl ?_; refine zl hS ?_)); (first | refine s_gn rfl rfl ?_ | (refine s_gy rfl ?_; refine zm ?_)); (first | refine s_gn rfl rfl ?_ | (refine s_gy rfl ?_; refine QA rfl ?_)); (first | refine s_gn rfl rfl ?_ | (refine s_gy rfl ?_; refine Q2 rfl ?_)); (first | refine s_gn rfl rfl ?_ | (refine s_gy rfl ?_; refine Q2 rfl ?_)); (first | refine s_gn rfl rfl ?_ | (refine s_gy rfl ?_; refine zl hS ?_)); (first | refine s_gn rfl rfl ?_ | (refine s_gy rfl ?_; refine zL ?_)))
                      all_goals (first | refine s_gn rfl rfl ?_ | (refine s_gy rfl ?_; (first | (refine Q53 ?_) | (refine Q56 ?_) | (refine Q24 rfl rfl (fun hc => ?_) (fun hc => ?_)))))
                      all_goals ((first | (refine zpt ?_) | (refine zpf ?_)); refine zR3 (c := Q2c (by intro _; decide) hS fd) (h := ?_); rintro v1 w1 ⟨rfl, hS⟩; simp only [List.set_cons_zero, List.set_cons_succ, if_true, Bool.false_eq_true, if_false] at hS; refine zn ?_; refine Q1 ?_; refine zm ?_; refine Q2 rfl ?_; refine zl hS ?_; refine zL ?_)
                      all_goals (first | (refine Q11 ?_) | (refine Q14 ?_) | (refine Qn rfl rfl (fun hc => ?_) (fun hc => ?_)))
                      all_goals (refine zm ?_; (first | refine s_gn rfl rfl ?_ | (refine s_gy rfl ?_; refine Q2 rfl ?_)); (first | refine s_gn rfl rfl ?_ | (refine s_gy rfl ?_; refine zl hS ?_)); (first | refine s_gn rfl rfl ?_ | (refine s_gy rfl ?_; refine zL ?_)))
                      all_goals (first | refine s_gn rfl rfl ?_ | (refine s_gy rfl ?_; (first | (refine Q11 ?_) | (refine Q14 ?_) | (refine Qn rfl rfl (fun hc => ?_) (fun hc => ?_)))))
                      all_goals ((first | (refine zpt ?_) | (refine zpf ?_)); refine zR3 (c := Q2c (by intro _; decide) hS fd) (h := ?_); rintro v1 w1 ⟨rfl, hS⟩; simp only [List.set_cons_zero, List.set_cons_succ, if_true, Bool.false_eq_true, if_false] at hS)
                      all_goals refine zn ?_)
                   | (refine Q6 rfl ?_ -- QU c4
                      all_goals refine zsk ?_))))
  all_goals (refine Q1y ?_; refine ⟨_, rfl, rfl, ?_⟩; subst hh; rw [← ins_end (c3 := Q1H n.length x) hq rfl]; clear hq hx hr ha hf hsz; have hS := hS.drop; refine St.back ?_ hi; first | (rw [show Q1H n.length x = 0 from (by unfold Q1H; (repeat (first | rw [if_pos (by omega)] | rw [if_neg (by omega)])))]; first | (rw [Q1T, QeF rfl]; exact hS) | exact hS | (rw [Q2O, Q54] at hS; exact hS)) | (rw [show Q1H n.length x = 1 from (by unfold Q1H; (repeat (first | rw [if_pos (by omega)] | rw [if_neg (by omega)])))]; first | exact hS | (rw [Q2O, Q5n (by decide)] at hS; exact hS)) | (rw [show Q1H n.length x = 2 from (by unfold Q1H; (repeat (first | rw [if_pos (by omega)] | rw [if_neg (by omega)])))]; first | exact hS | (rw [Q2O, Q54] at hS; exact hS)) | (trace_state; fail "end"))
theorem to_c {x : Fun} {t : To} {is : Bool} {vf : Value} {g : Flt} {at' : Int} {b : Nat} {cs ds : List Value} (hx : funcR.at cx cs x) (ht : toR.at cx ds t) (hS : St cx w L) (hi : nth L i = some (jdg b vf g at')) :
    Rets Try.prog Q9z [.pointer (some ⟨b, 0, none⟩), .agg ⟨cs⟩, .agg ⟨ds⟩, .bool is] w fun u w' => u = .tuple #[] ∧ St cx w' (L.set i (jdg b vf (orF g (mkF (Q1S x.blocks.length t is) at')) at')) := by
  have hS := hS.out hi
  obtain ⟨vp, vr, vb, rfl, hp, hr, hb⟩ := Q17 hx
  obtain ⟨v1, v2, rfl, h1, h2⟩ := Q4p ht
  have hlb := hb.len
  have hl1 := h1.len
  have hl2 := h2.len
  cases is with
  | false =>
    all_goals refine Q4Y ?_
    all_goals (unfold code_judge_to_lc; refine Q0 ?_; refine Q1 ?_; refine zb hS ?_; intro p5 w1 hS; refine zb hS ?_; intro p6 w1 hS; refine zn ?_; refine Q0 ?_; refine Q0 ?_; refine Q1 ?_; refine zm ?_; refine Q1W rfl ?_; refine zn ?_)
    all_goals refine Q5 rfl ?_
    all_goals (refine Q0 ?_; refine Q1 ?_; refine zm ?_; refine Q2 rfl ?_; refine zl hS ?_)
    all_goals (first | (refine Q1h ?_) | (refine Q1i ?_) | (refine Qw rfl rfl (fun hc => ?_) (fun hc => ?_)))
    all_goals (refine zm ?_; (first | refine s_gn rfl rfl ?_ | (refine s_gy rfl ?_; refine Q2 rfl ?_)); (first | refine s_gn rfl rfl ?_ | (refine s_gy rfl ?_; refine zl hS ?_)); (first | refine s_gn rfl rfl ?_ | (refine s_gy rfl ?_; refine zL ?_)))
    all_goals (first | refine s_gn rfl rfl ?_ | (refine s_gy rfl ?_; (first | (refine Q11 ?_) | (refine Q14 ?_) | (refine Qn rfl rfl (fun hc => ?_) (fun hc => ?_)))))
    all_goals ((first | (refine zpt ?_) | (refine zpf ?_)); refine zm ?_; (first | refine s_gn rfl rfl ?_ | (refine s_gy rfl ?_; refine Q2 rfl ?_)); (first | refine s_gn rfl rfl ?_ | (refine s_gy rfl ?_; refine zl hS ?_)); (first | refine s_gn rfl rfl ?_ | (refine s_gy rfl ?_; refine zL ?_)))
    all_goals (first | refine s_gn rfl rfl ?_ | (refine s_gy rfl ?_; (first | (refine Q11 ?_) | (refine Q14 ?_) | (refine Qn rfl rfl (fun hc => ?_) (fun hc => ?_)))))
    all_goals ((first | (refine zpt ?_) | (refine zpf ?_)); refine zR3 (c := Q2c (by intro _; decide) hS fd) (h := ?_); rintro v1 w1 ⟨rfl, hS⟩; simp only [List.set_cons_zero, List.set_cons_succ, if_true, Bool.false_eq_true, if_false] at hS; refine zn ?_; refine zr ?_; refine q_ret0 ?_; refine ⟨_, rfl, rfl, ?_⟩; have hS := hS.drop.drop; refine St.back ?_ hi; first | (rw [show Q1S x.blocks.length t false = 4 from (by unfold Q1S; rw [if_pos rfl, if_pos (by omega)])]; exact hS) | (rw [show Q1S x.blocks.length t false = 0 from (by unfold Q1S; rw [if_pos rfl, if_neg (by omega)])]; exact hS))
  | true =>
    all_goals refine Q4Y ?_
    all_goals (unfold code_judge_to_lc; refine Q0 ?_; refine Q1 ?_; refine zb hS ?_; intro p5 w1 hS; refine zb hS ?_; intro p6 w1 hS; refine zn ?_; refine Q0 ?_; refine Q0 ?_; refine Q1 ?_; refine zm ?_; refine Q1W rfl ?_; refine zn ?_)
    all_goals refine Q6 rfl ?_
    all_goals (refine zsk ?_; refine Q0 ?_; refine Q1 ?_; refine zm ?_; refine Q2 rfl ?_; refine zl hS ?_)
    all_goals (first | (refine Q1Z ?_) | (refine Q20 ?_) | (refine QQ rfl rfl (fun hc => ?_) (fun hc => ?_)))
    all_goals (refine zm ?_; (first | refine s_gn rfl rfl ?_ | (refine s_gy rfl ?_; refine Q2 rfl ?_)); (first | refine s_gn rfl rfl ?_ | (refine s_gy rfl ?_; refine zl hS ?_)); (first | refine s_gn rfl rfl ?_ | (refine s_gy rfl ?_; refine Q2 rfl ?_)); (first | refine s_gn rfl rfl ?_ | (refine s_gy rfl ?_; refine zl hS ?_)); (first | refine s_gn rfl rfl ?_ | (refine s_gy rfl ?_; refine zL ?_)))
    all_goals (first | refine s_gn rfl rfl ?_ | (refine s_gy rfl ?_; (first | (refine Q53 ?_) | (refine Q56 ?_) | (refine Q24 rfl rfl (fun hc => ?_) (fun hc => ?_)))))
    all_goals ((first | (refine zpt ?_) | (refine zpf ?_)); refine zR3 (c := Q2c (by intro _; decide) hS fd) (h := ?_); rintro v1 w1 ⟨rfl, hS⟩; simp only [List.set_cons_zero, List.set_cons_succ, if_true, Bool.false_eq_true, if_false] at hS; refine zn ?_; refine Q1 ?_; refine zm ?_; refine Q2 rfl ?_; refine zl hS ?_; refine zL ?_)
    all_goals (first | (refine Q11 ?_) | (refine Q14 ?_) | (refine Qn rfl rfl (fun hc => ?_) (fun hc => ?_)))
    all_goals (refine zm ?_; (first | refine s_gn rfl rfl ?_ | (refine s_gy rfl ?_; refine Q2 rfl ?_)); (first | refine s_gn rfl rfl ?_ | (refine s_gy rfl ?_; refine zl hS ?_)); (first | refine s_gn rfl rfl ?_ | (refine s_gy rfl ?_; refine zL ?_)))
    all_goals (first | refine s_gn rfl rfl ?_ | (refine s_gy rfl ?_; (first | (refine Q11 ?_) | (refine Q14 ?_) | (refine Qn rfl rfl (fun hc => ?_) (fun hc => ?_)))))
    all_goals ((first | (refine zpt ?_) | (refine zpf ?_)); refine zR3 (c := Q2c (by intro _; decide) hS fd) (h := ?_); rintro v1 w1 ⟨rfl, hS⟩; simp only [List.set_cons_zero, List.set_cons_succ, if_true, Bool.false_eq_true, if_false] at hS; refine zn ?_; refine Q1y ?_; refine ⟨_, rfl, rfl, ?_⟩; have hS := hS.drop.drop; rw [Q2O] at hS; refine St.back ?_ hi; first | (rw [show Q1S x.blocks.length t true = 1 from (by unfold Q1S; rw [if_neg Bool.noConfusion, if_pos (by omega)])]; rw [Q5n (by decide)] at hS; exact hS) | (rw [show Q1S x.blocks.length t true = 2 from (by unfold Q1S; rw [if_neg Bool.noConfusion, if_neg (by omega), if_pos (by omega)])]; rw [Q54] at hS; exact hS) | (rw [show Q1S x.blocks.length t true = 0 from (by unfold Q1S; rw [if_neg Bool.noConfusion, if_neg (by omega), if_neg (by omega)])]; rw [Q54] at hS; exact hS))
theorem end_sum {g : Flt} {at' : Int} {n : Nat} {e : Tail} : orF (orF (orF (orF (orF g (mkF (if e.op < 1 ∨ 3 < e.op then 3 else 0) at')) (mkF (if e.op ≠ 2 ∧ e.a ≠ 0 ∨ e.op ≠ 3 ∧ 0 < e.args.length then 4 else 0) at')) (mkF (if 8 < e.args.length then 2 else 0) at')) (mkF (Q1S n e.yes (decide (e.op ≠ 3))) at')) (mkF (Q1S n e.no (decide (e.op = 2))) at') = orF g (mkF (Q1I n e) at') := by
  rw [Q2O, Q2O, Q2O, Q2O]
  congr 2
  unfold Q1I
  split
  · simp only [Q5n (show (3 : Int) ≠ 0 by decide)]
  · rw [Q54]
    split
    · simp only [Q5n (show (4 : Int) ≠ 0 by decide)]
    · rw [Q54]
      split
      · simp only [Q5n (show (2 : Int) ≠ 0 by decide)]
      · rw [Q54]
theorem end_c {x : Fun} {e : Tail} {vf : Value} {g : Flt} {at' : Int} {b : Nat} {cs ds : List Value} (hx : funcR.at cx cs x) (he : endR.at cx ds e) (hS : St cx w L) (hi : nth L i = some (jdg b vf g at')) :
    Rets Try.prog Q6N [.pointer (some ⟨b, 0, none⟩), .agg ⟨cs⟩, .agg ⟨ds⟩] w fun u w' => u = .tuple #[] ∧ St cx w' (L.set i (jdg b vf (orF g (mkF (Q1I x.blocks.length e) at')) at')) := by
  have hS := hS.out hi
  obtain ⟨vp, vr, vb, rfl, hp, hr, hb⟩ := Q17 hx
  obtain ⟨v1, v2, v3, v4, v5, rfl, h1, h2, h3, h4, h5⟩ := Q5U he
  have hl5 := h5.len
  all_goals refine QbN ?_
  all_goals (unfold code_judge_end_lc; refine Q0 ?_; refine Q1 ?_; refine zb hS ?_; intro p4 w1 hS; refine zb hS ?_; intro p5 w1 hS; refine zn ?_)
  refine zM [0, 4, 5] (fun A ρ' w' => Has ρ' A ∧ Has ρ' [] ∧ St cx w' (blk p5 35 [.int .i64 e.op, .int .i64 e.a, .int .i64 e.yes.block, v1, v2, .int .i64 e.no.block, v3, v4, v5] :: blk p4 31 [.int .i64 x.regs, vp, vr, vb] :: jdg b vf (orF g (mkF (if e.op < 1 ∨ 3 < e.op then 3 else 0) at')) at' :: L.eraseIdx i)) ?_ ?_
  · skip
    all_goals (refine Q1 ?_; refine zm ?_; refine Q2 rfl ?_; refine zl hS ?_)
    all_goals (first | (refine Q1Z ?_) | (refine Q20 ?_) | (refine QQ rfl rfl (fun hc => ?_) (fun hc => ?_)))
    all_goals (refine zm ?_; (first | refine s_gn rfl rfl ?_ | (refine s_gy rfl ?_; refine Q2 rfl ?_)); (first | refine s_gn rfl rfl ?_ | (refine s_gy rfl ?_; refine zl hS ?_)))
    all_goals (first | refine s_gn rfl rfl ?_ | (refine s_gy rfl ?_; (first | (refine Q11 ?_) | (refine Q14 ?_) | (refine Qn rfl rfl (fun hc => ?_) (fun hc => ?_)))))
    all_goals ((first | (refine zpt ?_) | (refine zpf ?_)); refine zR3 (c := Q2c (by intro _; decide) hS fd) (h := ?_); rintro v1 w1 ⟨rfl, hS⟩; simp only [List.set_cons_zero, List.set_cons_succ, if_true, Bool.false_eq_true, if_false] at hS; refine zn ?_; exact ⟨zh, zh, by first | (rw [if_pos (by omega)]; exact hS.sp) | (rw [if_neg (by omega)]; exact hS.sp)⟩)
  rintro ρ w1 ⟨hA, hρ, hS⟩; obtain ⟨ρ, rfl⟩ := env2 hA hρ
  refine zM [0, 4, 5] (fun A ρ' w' => Has ρ' A ∧ Has ρ' [] ∧ St cx w' (blk p5 35 [.int .i64 e.op, .int .i64 e.a, .int .i64 e.yes.block, v1, v2, .int .i64 e.no.block, v3, v4, v5] :: blk p4 31 [.int .i64 x.regs, vp, vr, vb] :: jdg b vf (orF (orF g (mkF (if e.op < 1 ∨ 3 < e.op then 3 else 0) at')) (mkF (if e.op ≠ 2 ∧ e.a ≠ 0 ∨ e.op ≠ 3 ∧ 0 < e.args.length then 4 else 0) at')) at' :: L.eraseIdx i)) ?_ ?_
  · skip
    all_goals (refine Q1 ?_; refine zm ?_; refine Q2 rfl ?_; refine zl hS ?_)
    all_goals (first | (refine Q1h ?_) | (refine Q1i ?_) | (refine Qw rfl rfl (fun hc => ?_) (fun hc => ?_)))
    all_goals (refine zm ?_; (first | refine s_gn rfl rfl ?_ | (refine s_gy rfl ?_; refine Q2 rfl ?_)); (first | refine s_gn rfl rfl ?_ | (refine s_gy rfl ?_; refine zl hS ?_)))
    all_goals (first | refine s_gn rfl rfl ?_ | (refine s_gy rfl ?_; (first | (refine Q1h ?_) | (refine Q1i ?_) | (refine Qw rfl rfl (fun hc => ?_) (fun hc => ?_)))))
    all_goals ((first | (refine zpt ?_) | (refine zpf ?_)); refine zm ?_; (first | refine s_gn rfl rfl ?_ | (refine s_gy rfl ?_; refine Q2 rfl ?_)); (first | refine s_gn rfl rfl ?_ | (refine s_gy rfl ?_; refine zl hS ?_)))
    all_goals (first | refine s_gn rfl rfl ?_ | (refine s_gy rfl ?_; (first | (refine Q1h ?_) | (refine Q1i ?_) | (refine Qw rfl rfl (fun hc => ?_) (fun hc => ?_)))))
    all_goals ((first | refine s_gn rfl rfl ?_ | (refine s_gy rfl ?_; refine zm ?_)); (first | refine s_gn rfl rfl ?_ | (refine s_gy rfl ?_; refine Q2 rfl ?_)); (first | refine s_gn rfl rfl ?_ | (refine s_gy rfl ?_; refine zl hS ?_)); (first | refine s_gn rfl rfl ?_ | (refine s_gy rfl ?_; refine zL ?_)))
    all_goals (first | refine s_gn rfl rfl ?_ | (refine s_gy rfl ?_; (first | (refine Q11 ?_) | (refine Q14 ?_) | (refine Qn rfl rfl (fun hc => ?_) (fun hc => ?_)))))
    all_goals ((first | refine s_gn rfl rfl ?_ | (refine s_gy rfl ?_; (first | (refine zpt ?_) | (refine zpf ?_)))); (first | (refine zpt ?_) | (refine zpf ?_)); refine zR3 (c := Q2c (by intro _; decide) hS fd) (h := ?_); rintro v1 w1 ⟨rfl, hS⟩; simp only [List.set_cons_zero, List.set_cons_succ, if_true, Bool.false_eq_true, if_false] at hS; refine zn ?_; exact ⟨zh, zh, by first | (rw [if_pos (c := e.op ≠ 2 ∧ e.a ≠ 0 ∨ e.op ≠ 3 ∧ 0 < e.args.length) (by omega)]; exact hS.sp) | (rw [if_neg (c := e.op ≠ 2 ∧ e.a ≠ 0 ∨ e.op ≠ 3 ∧ 0 < e.args.length) (by omega)]; exact hS.sp)⟩)
  rintro ρ w1 ⟨hA, hρ, hS⟩; obtain ⟨ρ, rfl⟩ := env2 hA hρ
  refine zM [0, 4, 5] (fun A ρ' w' => Has ρ' A ∧ Has ρ' [] ∧ St cx w' (blk p5 35 [.int .i64 e.op, .int .i64 e.a, .int .i64 e.yes.block, v1, v2, .int .i64 e.no.block, v3, v4, v5] :: blk p4 31 [.int .i64 x.regs, vp, vr, vb] :: jdg b vf (orF (orF (orF g (mkF (if e.op < 1 ∨ 3 < e.op then 3 else 0) at')) (mkF (if e.op ≠ 2 ∧ e.a ≠ 0 ∨ e.op ≠ 3 ∧ 0 < e.args.length then 4 else 0) at')) (mkF (if 8 < e.args.length then 2 else 0) at')) at' :: L.eraseIdx i)) ?_ ?_
  · skip
    all_goals (refine Q1 ?_; refine zm ?_; refine Q2 rfl ?_; refine zl hS ?_; refine zL ?_)
    all_goals (first | (refine Q11 ?_) | (refine Q14 ?_) | (refine Qn rfl rfl (fun hc => ?_) (fun hc => ?_)))
    all_goals (refine zR3 (c := Q2c (by intro _; decide) hS fd) (h := ?_); rintro v1 w1 ⟨rfl, hS⟩; simp only [List.set_cons_zero, List.set_cons_succ, if_true, Bool.false_eq_true, if_false] at hS; refine zn ?_; exact ⟨zh, zh, by first | (rw [if_pos (c := 8 < e.args.length) (by omega)]; exact hS.sp) | (rw [if_neg (c := 8 < e.args.length) (by omega)]; exact hS.sp)⟩)
  rintro ρ w1 ⟨hA, hρ, hS⟩; obtain ⟨ρ, rfl⟩ := env2 hA hρ
  all_goals (refine Q0 ?_; refine Q1 ?_; refine zm ?_; refine zv hS ?_; refine Q2 rfl ?_; refine zv hS ?_; refine Q2 rfl ?_; refine zl hS ?_; refine Q4F rfl rfl ?_; refine zR4 (c := to_c (t := e.yes) hx ⟨_, _, rfl, h1, h2⟩ hS fd) (h := ?_); rintro v1 w1 ⟨rfl, hS⟩; have hS := hS.ns; refine zn ?_; refine Q1 ?_; refine zm ?_; refine zv hS ?_; refine Q2 rfl ?_; refine zv hS ?_; refine Q2 rfl ?_; refine zl hS ?_; refine QeA rfl rfl ?_; refine zR4 (c := to_c (t := e.no) hx ⟨_, _, rfl, h3, h4⟩ hS fd) (h := ?_); rintro v1 w1 ⟨rfl, hS⟩; have hS := hS.ns; refine zn ?_; refine Q1y ?_; refine ⟨_, rfl, rfl, ?_⟩; rw [end_sum] at hS; exact St.back hS.drop.drop hi)
end
end Go.Proofs.Ytanlkfeogoganaa
namespace Go.Proofs.Ytanlkfeogoganaa
open Go.Lir
set_option maxHeartbeats 1000000
attribute [local irreducible] LC.wp Q3 QZ Q1g retQ Q2p LO.wp QH Calls
set_option linter.unusedSimpArgs false
set_option linter.unusedVariables false
variable {cx : Cx} {w : World} {L : List Res}
theorem Q5i (f : Nat) (hf : f ≤ 1000000) (hS : St cx w L) : Rets Try.prog QoY [.int .i64 f] w fun u w' => u = .int .i64 (Q2W f) ∧ St cx w' L := by
  unfold Q2W
  all_goals refine Qoa ?_
  all_goals (unfold R_AtFunc_lc; refine Q0 ?_; refine Q1 ?_; refine zm ?_; refine zn ?_; refine Q0 ?_; refine Q1 ?_; refine zm ?_; refine zmu ?_; refine zad ?_; refine zm ?_; refine zn ?_; refine zr ?_; refine zf ?_; refine ⟨_, rfl, ?_, hS.sp⟩; (first | rfl | (congr 1; omega)); done)
theorem Qqd (f : Nat) (hf : f ≤ 1000000) (hS : St cx w L) : Rets Try.prog Qf9 [.int .i64 f] w fun u w' => u = .int .i64 (Q2W f) ∧ St cx w' L := by
  unfold Q2W
  all_goals refine QgX ?_
  all_goals (unfold code_FuncAt_lc; refine Q0 ?_; refine Q1 ?_; refine zm ?_; refine zn ?_; refine Q0 ?_; refine Q1 ?_; refine zm ?_; refine zmu ?_; refine zad ?_; refine zm ?_; refine zn ?_; refine zr ?_; refine zf ?_; refine ⟨_, rfl, ?_, hS.sp⟩; (rfl); done)
theorem Q48 (f b : Nat) (hf : f ≤ 1000000) (hb : b ≤ 1000000) (hS : St cx w L) : Rets Try.prog Qmy [.int .i64 f, .int .i64 b] w fun u w' => u = .int .i64 (Q26 f b) ∧ St cx w' L := by
  unfold Q26
  all_goals refine Qmx ?_
  all_goals (unfold R_AtBlock_lc; refine Q0 ?_; refine Q1 ?_; refine zm ?_; refine zn ?_; refine Q0 ?_; refine Q1 ?_; refine zm ?_; refine zmu ?_; refine zm ?_; refine zmu ?_; refine zad ?_; refine zad ?_; refine zm ?_; refine zn ?_; refine zr ?_; refine zf ?_; refine ⟨_, rfl, ?_, hS.sp⟩; (first | rfl | (congr 1; omega)); done)
theorem Qp9 (f b : Nat) (hf : f ≤ 1000000) (hb : b ≤ 1000000) (hS : St cx w L) : Rets Try.prog Qcn [.int .i64 f, .int .i64 b] w fun u w' => u = .int .i64 (Q26 f b) ∧ St cx w' L := by
  unfold Q26
  all_goals refine Qff ?_
  all_goals (unfold code_BlockAt_lc; refine Q0 ?_; refine Q1 ?_; refine zm ?_; refine zn ?_; refine Q0 ?_; refine Q1 ?_; refine zm ?_; refine zmu ?_; refine zm ?_; refine zmu ?_; refine zad ?_; refine zad ?_; refine zm ?_; refine zn ?_; refine zr ?_; refine zf ?_; refine ⟨_, rfl, ?_, hS.sp⟩; (rfl); done)
theorem rEndAt_c (f b : Nat) (hf : f ≤ 1000000) (hb : b ≤ 1000000) (hS : St cx w L) : Rets Try.prog QqW [.int .i64 f, .int .i64 b] w fun u w' => u = .int .i64 (Q6G f b) ∧ St cx w' L := by
  unfold Q6G
  all_goals refine Qpx ?_
  all_goals (unfold R_AtEnd_lc; refine Q0 ?_; refine Q1 ?_; refine zm ?_; refine zn ?_; refine Q0 ?_; refine Q1 ?_; refine zm ?_; refine zmu ?_; refine zm ?_; refine zmu ?_; refine zad ?_; refine zad ?_; refine zm ?_; refine zn ?_; refine zr ?_; refine zf ?_; refine ⟨_, rfl, ?_, hS.sp⟩; (first | rfl | (congr 1; omega)); done)
theorem Qoy (f b : Nat) (hf : f ≤ 1000000) (hb : b ≤ 1000000) (hS : St cx w L) : Rets Try.prog QiE [.int .i64 f, .int .i64 b] w fun u w' => u = .int .i64 (Q6G f b) ∧ St cx w' L := by
  unfold Q6G
  all_goals refine Qjz ?_
  all_goals (unfold code_EndAt_lc; refine Q0 ?_; refine Q1 ?_; refine zm ?_; refine zn ?_; refine Q0 ?_; refine Q1 ?_; refine zm ?_; refine zmu ?_; refine zm ?_; refine zmu ?_; refine zad ?_; refine zad ?_; refine zm ?_; refine zn ?_; refine zr ?_; refine zf ?_; refine ⟨_, rfl, ?_, hS.sp⟩; (rfl); done)
theorem Qot (f b i : Nat) (hf : f ≤ 1000000) (hb : b ≤ 1000000) (hi : i ≤ 1000000) (hS : St cx w L) : Rets Try.prog QqV [.int .i64 f, .int .i64 b, .int .i64 i] w fun u w' => u = .int .i64 (Q4l f b i) ∧ St cx w' L := by
  unfold Q4l
  all_goals refine Qpu ?_
  all_goals (unfold R_AtIns_lc; refine Q0 ?_; refine Q1 ?_; refine zm ?_; refine zn ?_; refine Q0 ?_; refine Q1 ?_; refine zm ?_; refine zmu ?_; refine zm ?_; refine zmu ?_; refine zad ?_; refine zm ?_; refine zad ?_; refine zm ?_; refine zn ?_; refine zr ?_; refine zf ?_; refine ⟨_, rfl, ?_, hS.sp⟩; (first | rfl | (congr 1; omega)); done)
theorem Qox (f b i : Nat) (hf : f ≤ 1000000) (hb : b ≤ 1000000) (hi : i ≤ 1000000) (hS : St cx w L) : Rets Try.prog QiD [.int .i64 f, .int .i64 b, .int .i64 i] w fun u w' => u = .int .i64 (Q4l f b i) ∧ St cx w' L := by
  unfold Q4l
  all_goals refine Qjw ?_
  all_goals (unfold code_InsAt_lc; refine Q0 ?_; refine Q1 ?_; refine zm ?_; refine zn ?_; refine Q0 ?_; refine Q1 ?_; refine zm ?_; refine zmu ?_; refine zm ?_; refine zmu ?_; refine zad ?_; refine zm ?_; refine zad ?_; refine zm ?_; refine zn ?_; refine zr ?_; refine zf ?_; refine ⟨_, rfl, ?_, hS.sp⟩; (rfl); done)
theorem rF_c {c a : Int} (hS : St cx w L) : Rets Try.prog R_F [.int .i64 c, .int .i64 a] w fun u w' => u = .agg ⟨[.int .i64 c, .int .i64 a]⟩ ∧ St cx w' L := by
  all_goals refine R_F_in ?_
  all_goals (unfold R_F_lc; refine Q0 ?_; refine Q1 ?_; refine Q8 hS ?_; intro p4 w1 hS; refine zn ?_; refine Q0 ?_; refine Q1 ?_; refine zm ?_; refine zm ?_; refine zb2 [_, _] ?_; refine zsn hS ?_; intro w1 hS; have hS := hS.ns; refine zn ?_; refine zr ?_; refine Q18 vw (Qc (n := 2) (by kernel_rfl) (by kernel_rfl) (hS.blkAt fd) (by rfl) (by rfl)) ?_; refine ⟨_, rfl, ?_, hS.sp⟩; (rfl); done)
theorem QmN {l : List Ty} {regs : Int} {v : Value} (hl : tyR.sl cx v l) (hS : St cx w L) : Rets Try.prog Q3i [v, .int .i64 regs] w fun u w' => u = .int .i64 (Qr l regs) ∧ St cx w' L := by
  have hlen := hl.len
  unfold Qr
  all_goals refine Qk6 ?_
  all_goals (unfold R_listForm_lc; refine Q0 ?_; refine Q1 ?_; refine zm ?_; refine zn ?_; refine Q0 ?_; refine Q0 ?_; refine Q1 ?_; refine zm ?_; refine zL ?_)
  all_goals (first | (refine Q11 ?_) | (refine Q14 ?_) | (refine Qn rfl rfl (fun hc => ?_) (fun hc => ?_)))
  all_goals (refine zn ?_)
  all_goals
    first
    | (refine Q5 rfl ?_ -- Q3i c0
       all_goals (refine Q0 ?_; refine Q1 ?_; refine zm ?_; refine zn ?_; refine zr ?_; refine zf ?_)
       all_goals (refine ⟨_, rfl, ?_, hS.sp⟩; rw [if_pos (by omega)]; done))
    | (refine Q6 rfl ?_ -- Q3i c0
       all_goals refine zsk ?_)
  all_goals (refine Q0 ?_; refine Q0 ?_; refine Q1 ?_; refine zm ?_; refine zn ?_; refine Qb ?_)
  refine zoL hS [0, 1] (fun A LL ρ' w' => ∃ (j : Nat), Has ρ' A ∧ Has ρ' [(5, .int .i64 j)] ∧ (j ≤ l.length) ∧ (Q2X regs l = Q2X regs (l.drop j)) ∧ St cx w' (LL)) (fun ρ' _ => (l.length - iv (ρ' 5)).toNat) ?_ ?_
  · exact ⟨0, zh, zh, (by omega), by simp, hS.sp⟩
  rintro ρ w1 ⟨j, hA, hρ, hj, hd, hS⟩; obtain ⟨ρ, rfl⟩ := env2 hA hρ
  unfold Qa0
  all_goals (refine Q0 ?_; refine Q0 ?_; refine Q1 ?_; refine zm ?_; refine zm ?_; refine zL ?_; refine QC rfl rfl ?_; refine zn ?_)
  refine Qy rfl (fun hc => ?_) (fun hc => ?_)
  · skip
    all_goals (refine zsk ?_; refine Q0 ?_; refine Qb ?_; refine Q0 ?_; refine Q1 ?_; refine zm ?_; refine zm ?_; refine zi ?_; intro b1 o1 cs1 x1 hat1 hx1 he1; obtain ⟨vl1, rfl, hl1⟩ := Ql he1; (first | (refine zv hS ?_) | (refine zvk hS ?_)); refine zm ?_; refine zR2 (c := QpZ (by assumption) hS) (h := ?_); rintro v1 w1 ⟨rfl, hS⟩; refine zm ?_; refine zn ?_; refine Q0 ?_; refine Q1 ?_; refine zm ?_)
    all_goals (first | (refine Q1h ?_) | (refine Q1i ?_) | (refine Qw rfl rfl (fun hc => ?_) (fun hc => ?_)))
    all_goals (refine zn ?_)
    all_goals
      first
      | (refine Q5 rfl ?_ -- Q3i c2
         all_goals (refine Q0 ?_; refine Q1 ?_; refine zm ?_; refine zm ?_; refine zn ?_; refine zr ?_; refine zf ?_)
         all_goals (first | (refine ⟨_, rfl, ?_, hS.sp⟩; rw [if_pos (by omega)]; done) | (refine ⟨_, rfl, ?_, hS.sp⟩; rw [if_neg (by omega), hd, Q7 hx1, Q2X, Q5n (by assumption)]; done)))
      | (refine Q6 rfl ?_ -- Q3i c2
         all_goals refine zsk ?_)
    all_goals (refine Q1 ?_; refine zm ?_; refine zad ?_; refine zm ?_; refine zn ?_; exact ⟨⟨j + 1, zh, zh, (by omega), by rw [hd, Q7 hx1, Q2X, show x1.fault regs = 0 by omega, Q54], hS.sp⟩, Qx (by omega)⟩)
  · skip
    all_goals (refine zex ?_; refine Q0 ?_; refine Q1 ?_; refine zm ?_; refine zn ?_; refine zr ?_; refine zf ?_; (first | (refine ⟨_, rfl, ?_, hS.sp⟩; rw [if_pos (by omega)]; done) | (refine ⟨_, rfl, ?_, hS.sp⟩; rw [if_neg (by omega), hd, Q7 hx1, Q2X, Q5n (by assumption)]; done) | (refine ⟨_, rfl, ?_, hS.sp⟩; rw [if_neg (by omega), hd, List.drop_of_length_le (by omega), Q2X]; done)))
theorem fields_c {op : Int} (hS : St cx w L) : Rets Try.prog Qa [.int .i64 op] w fun u w' => u = .tuple #[.agg ⟨[.bool (fA op), .bool (fB op), .bool (fC op), .bool (fK op), .bool (fN op), .bool (fG op), .bool (fR op)]⟩, .bool (decide (1 ≤ op ∧ op ≤ 14))] ∧ St cx w' L := by
  have hbad : (op < 1 ∨ 14 < op) → fA op = false ∧ fB op = false ∧ fC op = false ∧ fK op = false ∧ fN op = false ∧ fG op = false ∧ fR op = false ∧ decide (1 ≤ op ∧ op ≤ 14) = false := by
    intro h
    refine ⟨?_, ?_, ?_, ?_, ?_, ?_, ?_, ?_⟩ <;> (first | unfold fA | unfold fB | unfold fC | unfold fK | unfold fN | unfold fG | unfold fR | skip) <;> rw [decide_eq_false_iff_not] <;> omega
  by_cases hb : op < 1 ∨ 14 < op
  · obtain ⟨h1, h2, h3, h4, h5, h6, h7, h8⟩ := hbad hb
    rw [h1, h2, h3, h4, h5, h6, h7, h8]
    clear hbad h1 h2 h3 h4 h5 h6 h7 h8
    all_goals refine Qa2 ?_
    all_goals (unfold R_FieldsOf_lc; refine Q0 ?_; refine Q1 ?_; refine Q8 hS ?_; intro p2 w1 hS; refine zm ?_; refine zn ?_; refine Q0 ?_; refine Q0 ?_; refine Q1 ?_; refine zm ?_; refine zn ?_; refine Qb ?_; refine Q0 ?_; refine Q1 ?_)
    all_goals (first | (refine QD ?_) | (refine QI ?_))
    all_goals (refine zm ?_; refine zn ?_)
    all_goals
      first
      | (refine Q5 rfl ?_ -- Qa c0
         all_goals (refine Q0 ?_; refine Q1 ?_; refine zb1 [_, _, _, _, _, _, _] ?_; refine zsn hS ?_; intro w1 hS; have hS := hS.ns; refine zm ?_; refine zn ?_; refine zr ?_; refine Q1D vw (Qc (n := 7) (by kernel_rfl) (by kernel_rfl) (hS.blkAt fd) (by rfl) (by rfl)) vw ?_)
         all_goals (refine ⟨_, rfl, ?_, hS.sp⟩; (rfl); done))
      | (refine Q6 rfl ?_ -- Qa c0
         all_goals (refine Q0 ?_; refine Q0 ?_; refine Q1 ?_)
         all_goals (first | (refine QD ?_) | (refine QI ?_))
         all_goals (refine zm ?_; refine zn ?_)
         all_goals
           first
           | (refine Q5 rfl ?_ -- Qa c1
              all_goals refine zsk ?_)
           | (refine Q6 rfl ?_ -- Qa c1
              all_goals (refine Q1 ?_)
              all_goals (first | (refine QD ?_) | (refine QI ?_))
              all_goals (refine zm ?_)
              all_goals refine zn ?_)
         all_goals
           first
           | (refine Q5 rfl ?_ -- Qa c2
              all_goals (refine Q0 ?_; refine Q1 ?_; refine zb3 [_, _, _, _, _, _, _] ?_; refine zsn hS ?_; intro w1 hS; have hS := hS.ns; refine zm ?_; refine zn ?_; refine zr ?_; refine Q1D vw (Qc (n := 7) (by kernel_rfl) (by kernel_rfl) (hS.blkAt fd) (by rfl) (by rfl)) vw ?_)
              all_goals (refine ⟨_, rfl, ?_, hS.sp⟩; (rfl); done))
           | (refine Q6 rfl ?_ -- Qa c2
              all_goals (refine Q0 ?_; refine Q0 ?_; refine Q1 ?_)
              all_goals (first | (refine QD ?_) | (refine QI ?_))
              all_goals (refine zm ?_; refine zn ?_)
              all_goals
                first
                | (refine Q5 rfl ?_ -- Qa c3
                   all_goals refine zsk ?_)
                | (refine Q6 rfl ?_ -- Qa c3
                   all_goals (refine Q1 ?_)
                   all_goals (first | (refine QD ?_) | (refine QI ?_))
                   all_goals (refine zm ?_)
                   all_goals refine zn ?_)
              all_goals
                first
                | (refine Q5 rfl ?_ -- Qa c4
                   all_goals (refine Q0 ?_; refine Q1 ?_; refine zb0 [_, _, _, _, _, _, _] ?_; refine zsn hS ?_; intro w1 hS; have hS := hS.ns; refine zm ?_; refine zn ?_; refine zr ?_; refine Q1D vw (Qc (n := 7) (by kernel_rfl) (by kernel_rfl) (hS.blkAt fd) (by rfl) (by rfl)) vw ?_)
                   all_goals (refine ⟨_, rfl, ?_, hS.sp⟩; (rfl); done))
                | (refine Q6 rfl ?_ -- Qa c4
                   all_goals (refine Q0 ?_; refine Q0 ?_; refine Q1 ?_)
                   all_goals (first | (refine QD ?_) | (refine QI ?_))
                   all_goals (refine zm ?_; refine zn ?_)
                   all_goals
                     first
                     | (refine Q5 rfl ?_ -- Qa c5
                        all_goals refine zsk ?_)
                     | (refine Q6 rfl ?_ -- Qa c5
                        all_goals (refine Q0 ?_; refine Q1 ?_)
                        all_goals (first | (refine QD ?_) | (refine QI ?_))
                        all_goals (refine zm ?_; refine zn ?_)
                        all_goals
                          first
                          | (refine Q5 rfl ?_ -- Qa c6
                             all_goals refine zsk ?_)
                          | (refine Q6 rfl ?_ -- Qa c6
                             all_goals (refine Q1 ?_)
                             all_goals (first | (refine QD ?_) | (refine QI ?_))
                             all_goals (refine zm ?_)
                             all_goals refine zn ?_))
                   all_goals
                     first
                     | (refine Q5 rfl ?_ -- Qa c7
                        all_goals (refine Q0 ?_; refine Q1 ?_; refine zb1 [_, _, _, _, _, _, _] ?_; refine zsn hS ?_; intro w1 hS; have hS := hS.ns; refine zm ?_; refine zn ?_; refine zr ?_; refine Q1D vw (Qc (n := 7) (by kernel_rfl) (by kernel_rfl) (hS.blkAt fd) (by rfl) (by rfl)) vw ?_)
                        all_goals (refine ⟨_, rfl, ?_, hS.sp⟩; (rfl); done))
                     | (refine Q6 rfl ?_ -- Qa c7
                        all_goals (refine Q0 ?_; refine Q1 ?_)
                        all_goals (first | (refine QD ?_) | (refine QI ?_))
                        all_goals (refine zm ?_; refine zn ?_)
                        all_goals
                          first
                          | (refine Q5 rfl ?_ -- Qa c8
                             all_goals (refine Q0 ?_; refine Q1 ?_; refine zb2 [_, _, _, _, _, _, _] ?_; refine zsn hS ?_; intro w1 hS; have hS := hS.ns; refine zm ?_; refine zn ?_; refine zr ?_; refine Q1D vw (Qc (n := 7) (by kernel_rfl) (by kernel_rfl) (hS.blkAt fd) (by rfl) (by rfl)) vw ?_)
                             all_goals (refine ⟨_, rfl, ?_, hS.sp⟩; (rfl); done))
                          | (refine Q6 rfl ?_ -- Qa c8
                             all_goals (refine Q0 ?_; refine Q1 ?_)
                             all_goals (first | (refine QD ?_) | (refine QI ?_))
                             all_goals (refine zm ?_; refine zn ?_)
                             all_goals
                               first
                               | (refine Q5 rfl ?_ -- Qa c9
                                  all_goals (refine Q0 ?_; refine Q1 ?_; refine zb2 [_, _, _, _, _, _, _] ?_; refine zsn hS ?_; intro w1 hS; have hS := hS.ns; refine zm ?_; refine zn ?_; refine zr ?_; refine Q1D vw (Qc (n := 7) (by kernel_rfl) (by kernel_rfl) (hS.blkAt fd) (by rfl) (by rfl)) vw ?_)
                                  all_goals (refine ⟨_, rfl, ?_, hS.sp⟩; (rfl); done))
                               | (refine Q6 rfl ?_ -- Qa c9
                                  all_goals (refine Q0 ?_; refine Q0 ?_; refine Q1 ?_)
                                  all_goals (first | (refine QD ?_) | (refine QI ?_))
                                  all_goals (refine zm ?_; refine zn ?_)
                                  all_goals
                                    first
                                    | (refine Q5 rfl ?_ -- Qa c10
                                       all_goals refine zsk ?_)
                                    | (refine Q6 rfl ?_ -- Qa c10
                                       all_goals (refine Q1 ?_)
                                       all_goals (first | (refine QD ?_) | (refine QI ?_))
                                       all_goals (refine zm ?_)
                                       all_goals refine zn ?_)
                                  all_goals
                                    first
                                    | (refine Q5 rfl ?_ -- Qa c11
                                       all_goals (refine Q0 ?_; refine Q1 ?_; refine zb2 [_, _, _, _, _, _, _] ?_; refine zsn hS ?_; intro w1 hS; have hS := hS.ns; refine zm ?_; refine zn ?_; refine zr ?_; refine Q1D vw (Qc (n := 7) (by kernel_rfl) (by kernel_rfl) (hS.blkAt fd) (by rfl) (by rfl)) vw ?_)
                                       all_goals (refine ⟨_, rfl, ?_, hS.sp⟩; (rfl); done))
                                    | (refine Q6 rfl ?_ -- Qa c11
                                       all_goals (refine Q0 ?_; refine Q1 ?_)
                                       all_goals (first | (refine QD ?_) | (refine QI ?_))
                                       all_goals (refine zm ?_; refine zn ?_)
                                       all_goals
                                         first
                                         | (refine Q5 rfl ?_ -- Qa c12
                                            all_goals (refine Q0 ?_; refine Q1 ?_; refine zb3 [_, _, _, _, _, _, _] ?_; refine zsn hS ?_; intro w1 hS; have hS := hS.ns; refine zm ?_; refine zn ?_; refine zr ?_; refine Q1D vw (Qc (n := 7) (by kernel_rfl) (by kernel_rfl) (hS.blkAt fd) (by rfl) (by rfl)) vw ?_)
                                            all_goals (refine ⟨_, rfl, ?_, hS.sp⟩; (rfl); done))
                                         | (refine Q6 rfl ?_ -- Qa c12
                                            all_goals (refine Q0 ?_; refine Q1 ?_)
                                            all_goals (first | (refine QD ?_) | (refine QI ?_))
                                            all_goals (refine zm ?_; refine zn ?_)
                                            all_goals
                                              first
                                              | (refine Q5 rfl ?_ -- Qa c13
                                                 all_goals (refine Q0 ?_; refine Q1 ?_; refine zb3 [_, _, _, _, _, _, _] ?_; refine zsn hS ?_; intro w1 hS; have hS := hS.ns; refine zm ?_; refine zn ?_; refine zr ?_; refine Q1D vw (Qc (n := 7) (by kernel_rfl) (by kernel_rfl) (hS.blkAt fd) (by rfl) (by rfl)) vw ?_)
                                                 all_goals (refine ⟨_, rfl, ?_, hS.sp⟩; (rfl); done))
                                              | (refine Q6 rfl ?_ -- Qa c13
                                                 all_goals refine zsk ?_)))))))))
    all_goals (refine Q0 ?_; refine Q1 ?_; refine zb0 [_, _, _, _, _, _, _] ?_; refine zsn hS ?_; intro w1 hS; have hS := hS.ns; refine zm ?_; refine zn ?_; refine zr ?_; refine Q1D vw (Qc (n := 7) (by kernel_rfl) (by kernel_rfl) (hS.blkAt fd) (by rfl) (by rfl)) vw ?_; refine ⟨_, rfl, ?_, hS.sp⟩; (rfl); done)
  · clear hbad
    rcases op_cases (op := op) (by omega) (by omega) with rfl | rfl | rfl | rfl | rfl | rfl | rfl | rfl | rfl | rfl | rfl | rfl | rfl | rfl
    all_goals clear hb
    all_goals refine Qa2 ?_
    all_goals (unfold R_FieldsOf_lc; skip; refine Q0 ?_; refine Q1 ?_; refine Q8 hS ?_; intro p2 w1 hS; refine zm ?_; refine zn ?_; refine Q0 ?_; refine Q0 ?_; refine Q1 ?_; refine zm ?_; refine zn ?_; refine Qb ?_; refine Q0 ?_; refine Q1 ?_)
    all_goals (first | (refine QD ?_) | (refine QI ?_))
    all_goals (refine zm ?_; refine zn ?_)
    all_goals
      first
      | (refine Q5 rfl ?_ -- Qa c0
         all_goals (refine Q0 ?_; refine Q1 ?_; refine zb1 [_, _, _, _, _, _, _] ?_; refine zsn hS ?_; intro w1 hS; have hS := hS.ns; refine zm ?_; refine zn ?_; refine zr ?_; refine Q1D vw (Qc (n := 7) (by kernel_rfl) (by kernel_rfl) (hS.blkAt fd) (by rfl) (by rfl)) vw ?_)
         all_goals (refine ⟨_, rfl, ?_, hS.sp⟩; (rfl); done))
      | (refine Q6 rfl ?_ -- Qa c0
         all_goals (refine Q0 ?_; refine Q0 ?_; refine Q1 ?_)
         all_goals (first | (refine QD ?_) | (refine QI ?_))
         all_goals (refine zm ?_; refine zn ?_)
         all_goals
           first
           | (refine Q5 rfl ?_ -- Qa c1
              all_goals refine zsk ?_)
           | (refine Q6 rfl ?_ -- Qa c1
              all_goals (refine Q1 ?_)
              all_goals (first | (refine QD ?_) | (refine QI ?_))
              all_goals (refine zm ?_)
              all_goals refine zn ?_)
         all_goals
           first
           | (refine Q5 rfl ?_ -- Qa c2
              all_goals (refine Q0 ?_; refine Q1 ?_; refine zb3 [_, _, _, _, _, _, _] ?_; refine zsn hS ?_; intro w1 hS; have hS := hS.ns; refine zm ?_; refine zn ?_; refine zr ?_; refine Q1D vw (Qc (n := 7) (by kernel_rfl) (by kernel_rfl) (hS.blkAt fd) (by rfl) (by rfl)) vw ?_)
              all_goals (refine ⟨_, rfl, ?_, hS.sp⟩; (rfl); done))
           | (refine Q6 rfl ?_ -- Qa c2
              all_goals (refine Q0 ?_; refine Q0 ?_; refine Q1 ?_)
              all_goals (first | (refine QD ?_) | (refine QI ?_))
              all_goals (refine zm ?_; refine zn ?_)
              all_goals
                first
                | (refine Q5 rfl ?_ -- Qa c3
                   all_goals refine zsk ?_)
                | (refine Q6 rfl ?_ -- Qa c3
                   all_goals (refine Q1 ?_)
                   all_goals (first | (refine QD ?_) | (refine QI ?_))
                   all_goals (refine zm ?_)
                   all_goals refine zn ?_)
              all_goals
                first
                | (refine Q5 rfl ?_ -- Qa c4
                   all_goals (refine Q0 ?_; refine Q1 ?_; refine zb0 [_, _, _, _, _, _, _] ?_; refine zsn hS ?_; intro w1 hS; have hS := hS.ns; refine zm ?_; refine zn ?_; refine zr ?_; refine Q1D vw (Qc (n := 7) (by kernel_rfl) (by kernel_rfl) (hS.blkAt fd) (by rfl) (by rfl)) vw ?_)
                   all_goals (refine ⟨_, rfl, ?_, hS.sp⟩; (rfl); done))
                | (refine Q6 rfl ?_ -- Qa c4
                   all_goals (refine Q0 ?_; refine Q0 ?_; refine Q1 ?_)
                   all_goals (first | (refine QD ?_) | (refine QI ?_))
                   all_goals (refine zm ?_; refine zn ?_)
                   all_goals
                     first
                     | (refine Q5 rfl ?_ -- Qa c5
                        all_goals refine zsk ?_)
                     | (refine Q6 rfl ?_ -- Qa c5
                        all_goals (refine Q0 ?_; refine Q1 ?_)
                        all_goals (first | (refine QD ?_) | (refine QI ?_))
                        all_goals (refine zm ?_; refine zn ?_)
                        all_goals
                          first
                          | (refine Q5 rfl ?_ -- Qa c6
                             all_goals refine zsk ?_)
                          | (refine Q6 rfl ?_ -- Qa c6
                             all_goals (refine Q1 ?_)
                             all_goals (first | (refine QD ?_) | (refine QI ?_))
                             all_goals (refine zm ?_)
                             all_goals refine zn ?_))
                   all_goals
                     first
                     | (refine Q5 rfl ?_ -- Qa c7
                        all_goals (refine Q0 ?_; refine Q1 ?_; refine zb1 [_, _, _, _, _, _, _] ?_; refine zsn hS ?_; intro w1 hS; have hS := hS.ns; refine zm ?_; refine zn ?_; refine zr ?_; refine Q1D vw (Qc (n := 7) (by kernel_rfl) (by kernel_rfl) (hS.blkAt fd) (by rfl) (by rfl)) vw ?_)
                        all_goals (refine ⟨_, rfl, ?_, hS.sp⟩; (rfl); done))
                     | (refine Q6 rfl ?_ -- Qa c7
                        all_goals (refine Q0 ?_; refine Q1 ?_)
                        all_goals (first | (refine QD ?_) | (refine QI ?_))
                        all_goals (refine zm ?_; refine zn ?_)
                        all_goals
                          first
                          | (refine Q5 rfl ?_ -- Qa c8
                             all_goals (refine Q0 ?_; refine Q1 ?_; refine zb2 [_, _, _, _, _, _, _] ?_; refine zsn hS ?_; intro w1 hS; have hS := hS.ns; refine zm ?_; refine zn ?_; refine zr ?_; refine Q1D vw (Qc (n := 7) (by kernel_rfl) (by kernel_rfl) (hS.blkAt fd) (by rfl) (by rfl)) vw ?_)
                             all_goals (refine ⟨_, rfl, ?_, hS.sp⟩; (rfl); done))
                          | (refine Q6 rfl ?_ -- Qa c8
                             all_goals (refine Q0 ?_; refine Q1 ?_)
                             all_goals (first | (refine QD ?_) | (refine QI ?_))
                             all_goals (refine zm ?_; refine zn ?_)
                             all_goals
                               first
                               | (refine Q5 rfl ?_ -- Qa c9
                                  all_goals (refine Q0 ?_; refine Q1 ?_; refine zb2 [_, _, _, _, _, _, _] ?_; refine zsn hS ?_; intro w1 hS; have hS := hS.ns; refine zm ?_; refine zn ?_; refine zr ?_; refine Q1D vw (Qc (n := 7) (by kernel_rfl) (by kernel_rfl) (hS.blkAt fd) (by rfl) (by rfl)) vw ?_)
                                  all_goals (refine ⟨_, rfl, ?_, hS.sp⟩; (rfl); done))
                               | (refine Q6 rfl ?_ -- Qa c9
                                  all_goals (refine Q0 ?_; refine Q0 ?_; refine Q1 ?_)
                                  all_goals (first | (refine QD ?_) | (refine QI ?_))
                                  all_goals (refine zm ?_; refine zn ?_)
                                  all_goals
                                    first
                                    | (refine Q5 rfl ?_ -- Qa c10
                                       all_goals refine zsk ?_)
                                    | (refine Q6 rfl ?_ -- Qa c10
                                       all_goals (refine Q1 ?_)
                                       all_goals (first | (refine QD ?_) | (refine QI ?_))
                                       all_goals (refine zm ?_)
                                       all_goals refine zn ?_)
                                  all_goals
                                    first
                                    | (refine Q5 rfl ?_ -- Qa c11
                                       all_goals (refine Q0 ?_; refine Q1 ?_; refine zb2 [_, _, _, _, _, _, _] ?_; refine zsn hS ?_; intro w1 hS; have hS := hS.ns; refine zm ?_; refine zn ?_; refine zr ?_; refine Q1D vw (Qc (n := 7) (by kernel_rfl) (by kernel_rfl) (hS.blkAt fd) (by rfl) (by rfl)) vw ?_)
                                       all_goals (refine ⟨_, rfl, ?_, hS.sp⟩; (rfl); done))
                                    | (refine Q6 rfl ?_ -- Qa c11
                                       all_goals (refine Q0 ?_; refine Q1 ?_)
                                       all_goals (first | (refine QD ?_) | (refine QI ?_))
                                       all_goals (refine zm ?_; refine zn ?_)
                                       all_goals
                                         first
                                         | (refine Q5 rfl ?_ -- Qa c12
                                            all_goals (refine Q0 ?_; refine Q1 ?_; refine zb3 [_, _, _, _, _, _, _] ?_; refine zsn hS ?_; intro w1 hS; have hS := hS.ns; refine zm ?_; refine zn ?_; refine zr ?_; refine Q1D vw (Qc (n := 7) (by kernel_rfl) (by kernel_rfl) (hS.blkAt fd) (by rfl) (by rfl)) vw ?_)
                                            all_goals (refine ⟨_, rfl, ?_, hS.sp⟩; (rfl); done))
                                         | (refine Q6 rfl ?_ -- Qa c12
                                            all_goals (refine Q0 ?_; refine Q1 ?_)
                                            all_goals (refine QD ?_)
                                            all_goals (refine zm ?_; refine zn ?_)
                                            all_goals
                                              first
                                              | (refine Q5 rfl ?_ -- Qa c13
                                                 all_goals (refine Q0 ?_; refine Q1 ?_; refine zb3 [_, _, _, _, _, _, _] ?_; refine zsn hS ?_; intro w1 hS; have hS := hS.ns; refine zm ?_; refine zn ?_; refine zr ?_; refine Q1D vw (Qc (n := 7) (by kernel_rfl) (by kernel_rfl) (hS.blkAt fd) (by rfl) (by rfl)) vw ?_)
                                                 all_goals (refine ⟨_, rfl, ?_, hS.sp⟩; (rfl); done))))))))))
    all_goals (refine Q0 ?_; refine Q1 ?_; refine zb0 [_, _, _, _, _, _, _] ?_; refine zsn hS ?_; intro w1 hS; have hS := hS.ns; refine zm ?_; refine zn ?_; refine zr ?_; refine Q1D vw (Qc (n := 7) (by kernel_rfl) (by kernel_rfl) (hS.blkAt fd) (by rfl) (by rfl)) vw ?_; refine ⟨_, rfl, ?_, hS.sp⟩; (rfl); done)
theorem rins_c {x : Ins} {m : Module} {cs ds : List Value} (hm : modR.at cx cs m) (hx : insR.at cx ds x) (hS : St cx w L) : Rets Try.prog QJ [.agg ⟨cs⟩, .agg ⟨ds⟩] w fun u w' => u = .int .i64 (QP m.funcs.length x) ∧ St cx w' L := by
  obtain ⟨vf, rfl, hf⟩ := Q29 hm
  obtain ⟨vr, va, rfl, hr, ha⟩ := Q1Q hx
  have hlr := hr.len
  have hla := ha.len
  have hln := hf.len
  unfold QP
  all_goals refine Qmg ?_
  all_goals (unfold R_InsForm_lc; refine Q0 ?_; refine Q1 ?_; refine zb hS ?_; intro p2 w1 hS; refine zb hS ?_; intro p3 w1 hS; refine zm ?_; refine zn ?_; refine Q0 ?_; refine Q1 ?_; refine Q2 rfl ?_; refine zl hS ?_; refine zR1 (c := fields_c hS) (h := ?_); rintro v1 w1 ⟨rfl, hS⟩; refine zm ?_; refine QcG rfl rfl ?_; refine QcG rfl rfl ?_; refine Q8 hS ?_; intro p5 w1 hS; refine zsn hS ?_; intro w1 hS; have hS := hS.ns; refine zm ?_; refine zn ?_)
  refine zML hS [2, 3, 5] (fun A LL ρ' w' => Has ρ' A ∧ Has ρ' [] ∧ (1 ≤ x.op ∧ x.op ≤ 14) ∧ St cx w' (LL)) ?_ ?_
  · skip
    all_goals (refine Q0 ?_)
    all_goals (cases hop : decide (1 ≤ x.op ∧ x.op ≤ 14))
    all_goals (refine Q1 ?_; refine zm ?_; refine Q1W rfl ?_; refine zn ?_)
    all_goals
      first
      | (refine Q5 rfl ?_ -- QJ c0
         all_goals (refine Q0 ?_; refine Q1 ?_; refine zm ?_; refine zn ?_; refine zr ?_; refine zf ?_)
         all_goals (refine ⟨_, rfl, ?_, hS.sp⟩; rw [if_pos (by have := of_decide_eq_false hop; omega)]; done))
      | (refine Q6 rfl ?_ -- QJ c0
         all_goals refine zsk ?_)
    all_goals (exact ⟨zh, zh, by exact of_decide_eq_true hop, hS.sp⟩)
  rintro ρ w1 ⟨hA, hρ, hop, hS⟩; obtain ⟨ρ, rfl⟩ := env2 hA hρ; obtain ⟨a1, ha1⟩ : ∃ b, fA x.op = b := ⟨_, rfl⟩; obtain ⟨a2, ha2⟩ : ∃ b, fB x.op = b := ⟨_, rfl⟩; obtain ⟨a3, ha3⟩ : ∃ b, fC x.op = b := ⟨_, rfl⟩; obtain ⟨a4, ha4⟩ : ∃ b, fK x.op = b := ⟨_, rfl⟩; obtain ⟨a5, ha5⟩ : ∃ b, fN x.op = b := ⟨_, rfl⟩; obtain ⟨a6, ha6⟩ : ∃ b, fG x.op = b := ⟨_, rfl⟩; obtain ⟨a7, ha7⟩ : ∃ b, fR x.op = b := ⟨_, rfl⟩; rw [ha1, ha2, ha3, ha4, ha5, ha6, ha7] at hS
  refine zML hS [2, 3] (fun A LL ρ' w' => Has ρ' A ∧ Has ρ' [] ∧ (¬ x.odd) ∧ St cx w' (LL)) ?_ ?_
  · skip
    all_goals (refine Q0 ?_; refine Q1 ?_)
    refine zKL hS 8 [2, 3, 5] (fun A LL ρ' w' => ∃ (q1 : Bool), Has ρ' A ∧ Has ρ' [(22, .bool q1)] ∧ (q1 = true ↔ (fA x.op = false ∧ x.a ≠ 0)) ∧ St cx w' (LL)) ?_ ?_
    · skip
      all_goals (refine Q2 rfl ?_; refine zl hS ?_)
      all_goals (cases a1)
      all_goals (refine Q1W rfl ?_; refine zm ?_; (first | refine s_gn rfl rfl ?_ | (refine s_gy rfl ?_; refine Q2 rfl ?_)); (first | refine s_gn rfl rfl ?_ | (refine s_gy rfl ?_; refine zl hS ?_)))
      all_goals (first | refine s_gn rfl rfl ?_ | (refine s_gy rfl ?_; (first | (refine Q1h ?_) | (refine Q1i ?_) | (refine Qw rfl rfl (fun hc => ?_) (fun hc => ?_)))))
      all_goals ((first | (refine zpt ?_) | (refine zpf ?_)); refine Q4E ?_; refine Q2b ?_)
      all_goals (first | (exact ⟨_, zh, zh, by exact ⟨fun _ => ⟨(by first | rfl | assumption), by omega⟩, fun _ => rfl⟩, hS.sp⟩) | (exact ⟨_, zh, zh, by exact ⟨fun h => Bool.noConfusion h, fun h => by obtain ⟨h1, h2⟩ := h; first | (exfalso; omega) | (simp_all; done)⟩, hS.sp⟩))
    rintro ρ w1 ⟨q1, hA, hρ, hq1, hS⟩; obtain ⟨ρ, rfl⟩ := env2 hA hρ
    refine zKL hS 10 [2, 3, 5] (fun A LL ρ' w' => ∃ (q2 : Bool), Has ρ' A ∧ Has ρ' [(32, .bool q2)] ∧ (q2 = true ↔ ((fA x.op = false ∧ x.a ≠ 0) ∨ (fB x.op = false ∧ x.b ≠ 0))) ∧ St cx w' (LL)) ?_ ?_
    · skip
      all_goals (cases q1)
      all_goals (refine zm ?_; (first | refine s_gn rfl rfl ?_ | (refine s_gy rfl ?_; refine Q2 rfl ?_)); (first | refine s_gn rfl rfl ?_ | (refine s_gy rfl ?_; refine zl hS ?_)))
      all_goals (cases a2)
      all_goals ((first | refine s_gn rfl rfl ?_ | (refine s_gy rfl ?_; refine Q1W rfl ?_)); (first | refine s_gn rfl rfl ?_ | (refine s_gy rfl ?_; refine zm ?_)); (first | refine s_gn rfl rfl ?_ | (refine s_gy rfl ?_; refine Q2 rfl ?_)); (first | refine s_gn rfl rfl ?_ | (refine s_gy rfl ?_; refine zl hS ?_)))
      all_goals (first | refine s_gn rfl rfl ?_ | (refine s_gy rfl ?_; (first | (refine Q1h ?_) | (refine Q1i ?_) | (refine Qw rfl rfl (fun hc => ?_) (fun hc => ?_)))))
      all_goals ((first | refine s_gn rfl rfl ?_ | (refine s_gy rfl ?_; (first | (refine zpt ?_) | (refine zpf ?_)))); (first | (refine zpt ?_) | (refine zpf ?_)); refine Q4E ?_; refine Q2b ?_)
      all_goals (first | (exact ⟨_, zh, zh, by exact ⟨fun _ => .inl (hq1.1 rfl), fun _ => rfl⟩, hS.sp⟩) | (exact ⟨_, zh, zh, by exact ⟨fun _ => .inr ⟨(by first | rfl | assumption), by omega⟩, fun _ => rfl⟩, hS.sp⟩) | (exact ⟨_, zh, zh, by exact ⟨fun h => Bool.noConfusion h, fun h => h.elim (fun h => hq1.2 h) (fun h => by obtain ⟨h1, h2⟩ := h; first | (exfalso; omega) | (simp_all; done))⟩, hS.sp⟩))
    rintro ρ w1 ⟨q2, hA, hρ, hq2, hS⟩; obtain ⟨ρ, rfl⟩ := env2 hA hρ
    refine zKL hS 10 [2, 3, 5] (fun A LL ρ' w' => ∃ (q3 : Bool), Has ρ' A ∧ Has ρ' [(42, .bool q3)] ∧ (q3 = true ↔ (((fA x.op = false ∧ x.a ≠ 0) ∨ (fB x.op = false ∧ x.b ≠ 0)) ∨ (fC x.op = false ∧ x.c ≠ 0))) ∧ St cx w' (LL)) ?_ ?_
    · skip
      all_goals (cases q2)
      all_goals (refine zm ?_; (first | refine s_gn rfl rfl ?_ | (refine s_gy rfl ?_; refine Q2 rfl ?_)); (first | refine s_gn rfl rfl ?_ | (refine s_gy rfl ?_; refine zl hS ?_)))
      all_goals (cases a3)
      all_goals ((first | refine s_gn rfl rfl ?_ | (refine s_gy rfl ?_; refine Q1W rfl ?_)); (first | refine s_gn rfl rfl ?_ | (refine s_gy rfl ?_; refine zm ?_)); (first | refine s_gn rfl rfl ?_ | (refine s_gy rfl ?_; refine Q2 rfl ?_)); (first | refine s_gn rfl rfl ?_ | (refine s_gy rfl ?_; refine zl hS ?_)))
      all_goals (first | refine s_gn rfl rfl ?_ | (refine s_gy rfl ?_; (first | (refine Q1h ?_) | (refine Q1i ?_) | (refine Qw rfl rfl (fun hc => ?_) (fun hc => ?_)))))
      all_goals ((first | refine s_gn rfl rfl ?_ | (refine s_gy rfl ?_; (first | (refine zpt ?_) | (refine zpf ?_)))); (first | (refine zpt ?_) | (refine zpf ?_)); refine Q4E ?_; refine Q2b ?_)
      all_goals (first | (exact ⟨_, zh, zh, by exact ⟨fun _ => .inl (hq2.1 rfl), fun _ => rfl⟩, hS.sp⟩) | (exact ⟨_, zh, zh, by exact ⟨fun _ => .inr ⟨(by first | rfl | assumption), by omega⟩, fun _ => rfl⟩, hS.sp⟩) | (exact ⟨_, zh, zh, by exact ⟨fun h => Bool.noConfusion h, fun h => h.elim (fun h => hq2.2 h) (fun h => by obtain ⟨h1, h2⟩ := h; first | (exfalso; omega) | (simp_all; done))⟩, hS.sp⟩))
    rintro ρ w1 ⟨q3, hA, hρ, hq3, hS⟩; obtain ⟨ρ, rfl⟩ := env2 hA hρ
    refine zKL hS 10 [2, 3, 5] (fun A LL ρ' w' => ∃ (q4 : Bool), Has ρ' A ∧ Has ρ' [(52, .bool q4)] ∧ (q4 = true ↔ ((((fA x.op = false ∧ x.a ≠ 0) ∨ (fB x.op = false ∧ x.b ≠ 0)) ∨ (fC x.op = false ∧ x.c ≠ 0)) ∨ (fK x.op = false ∧ x.k ≠ 0))) ∧ St cx w' (LL)) ?_ ?_
    · skip
      all_goals (cases q3)
      all_goals (refine zm ?_; (first | refine s_gn rfl rfl ?_ | (refine s_gy rfl ?_; refine Q2 rfl ?_)); (first | refine s_gn rfl rfl ?_ | (refine s_gy rfl ?_; refine zl hS ?_)))
      all_goals (cases a4)
      all_goals ((first | refine s_gn rfl rfl ?_ | (refine s_gy rfl ?_; refine Q1W rfl ?_)); (first | refine s_gn rfl rfl ?_ | (refine s_gy rfl ?_; refine zm ?_)); (first | refine s_gn rfl rfl ?_ | (refine s_gy rfl ?_; refine Q2 rfl ?_)); (first | refine s_gn rfl rfl ?_ | (refine s_gy rfl ?_; refine zl hS ?_)))
      all_goals (first | refine s_gn rfl rfl ?_ | (refine s_gy rfl ?_; (first | (refine Q1h ?_) | (refine Q1i ?_) | (refine Qw rfl rfl (fun hc => ?_) (fun hc => ?_)))))
      all_goals ((first | refine s_gn rfl rfl ?_ | (refine s_gy rfl ?_; (first | (refine zpt ?_) | (refine zpf ?_)))); (first | (refine zpt ?_) | (refine zpf ?_)); refine Q4E ?_; refine Q2b ?_)
      all_goals (first | (exact ⟨_, zh, zh, by exact ⟨fun _ => .inl (hq3.1 rfl), fun _ => rfl⟩, hS.sp⟩) | (exact ⟨_, zh, zh, by exact ⟨fun _ => .inr ⟨(by first | rfl | assumption), by omega⟩, fun _ => rfl⟩, hS.sp⟩) | (exact ⟨_, zh, zh, by exact ⟨fun h => Bool.noConfusion h, fun h => h.elim (fun h => hq3.2 h) (fun h => by obtain ⟨h1, h2⟩ := h; first | (exfalso; omega) | (simp_all; done))⟩, hS.sp⟩))
    rintro ρ w1 ⟨q4, hA, hρ, hq4, hS⟩; obtain ⟨ρ, rfl⟩ := env2 hA hρ
    refine zKL hS 10 [2, 3, 5] (fun A LL ρ' w' => ∃ (q5 : Bool), Has ρ' A ∧ Has ρ' [(62, .bool q5)] ∧ (q5 = true ↔ (((((fA x.op = false ∧ x.a ≠ 0) ∨ (fB x.op = false ∧ x.b ≠ 0)) ∨ (fC x.op = false ∧ x.c ≠ 0)) ∨ (fK x.op = false ∧ x.k ≠ 0)) ∨ (fN x.op = false ∧ x.n ≠ 0))) ∧ St cx w' (LL)) ?_ ?_
    · skip
      all_goals (cases q4)
      all_goals (refine zm ?_; (first | refine s_gn rfl rfl ?_ | (refine s_gy rfl ?_; refine Q2 rfl ?_)); (first | refine s_gn rfl rfl ?_ | (refine s_gy rfl ?_; refine zl hS ?_)))
      all_goals (cases a5)
      all_goals ((first | refine s_gn rfl rfl ?_ | (refine s_gy rfl ?_; refine Q1W rfl ?_)); (first | refine s_gn rfl rfl ?_ | (refine s_gy rfl ?_; refine zm ?_)); (first | refine s_gn rfl rfl ?_ | (refine s_gy rfl ?_; refine Q2 rfl ?_)); (first | refine s_gn rfl rfl ?_ | (refine s_gy rfl ?_; refine zl hS ?_)))
      all_goals (first | refine s_gn rfl rfl ?_ | (refine s_gy rfl ?_; (first | (refine Q1h ?_) | (refine Q1i ?_) | (refine Qw rfl rfl (fun hc => ?_) (fun hc => ?_)))))
      all_goals ((first | refine s_gn rfl rfl ?_ | (refine s_gy rfl ?_; (first | (refine zpt ?_) | (refine zpf ?_)))); (first | (refine zpt ?_) | (refine zpf ?_)); refine Q4E ?_; refine Q2b ?_)
      all_goals (first | (exact ⟨_, zh, zh, by exact ⟨fun _ => .inl (hq4.1 rfl), fun _ => rfl⟩, hS.sp⟩) | (exact ⟨_, zh, zh, by exact ⟨fun _ => .inr ⟨(by first | rfl | assumption), by omega⟩, fun _ => rfl⟩, hS.sp⟩) | (exact ⟨_, zh, zh, by exact ⟨fun h => Bool.noConfusion h, fun h => h.elim (fun h => hq4.2 h) (fun h => by obtain ⟨h1, h2⟩ := h; first | (exfalso; omega) | (simp_all; done))⟩, hS.sp⟩))
    rintro ρ w1 ⟨q5, hA, hρ, hq5, hS⟩; obtain ⟨ρ, rfl⟩ := env2 hA hρ
    refine zKL hS 11 [2, 3, 5] (fun A LL ρ' w' => ∃ (q6 : Bool), Has ρ' A ∧ Has ρ' [(73, .bool q6)] ∧ (q6 = true ↔ ((((((fA x.op = false ∧ x.a ≠ 0) ∨ (fB x.op = false ∧ x.b ≠ 0)) ∨ (fC x.op = false ∧ x.c ≠ 0)) ∨ (fK x.op = false ∧ x.k ≠ 0)) ∨ (fN x.op = false ∧ x.n ≠ 0)) ∨ (fG x.op = false ∧ 0 < x.regs.length))) ∧ St cx w' (LL)) ?_ ?_
    · skip
      all_goals (cases q5)
      all_goals (refine zm ?_; (first | refine s_gn rfl rfl ?_ | (refine s_gy rfl ?_; refine Q2 rfl ?_)); (first | refine s_gn rfl rfl ?_ | (refine s_gy rfl ?_; refine zl hS ?_)))
      all_goals (cases a6)
      all_goals ((first | refine s_gn rfl rfl ?_ | (refine s_gy rfl ?_; refine Q1W rfl ?_)); (first | refine s_gn rfl rfl ?_ | (refine s_gy rfl ?_; refine zm ?_)); (first | refine s_gn rfl rfl ?_ | (refine s_gy rfl ?_; refine Q2 rfl ?_)); (first | refine s_gn rfl rfl ?_ | (refine s_gy rfl ?_; refine zl hS ?_)); (first | refine s_gn rfl rfl ?_ | (refine s_gy rfl ?_; refine zL ?_)))
      all_goals (first | refine s_gn rfl rfl ?_ | (refine s_gy rfl ?_; (first | (refine Q11 ?_) | (refine Q14 ?_) | (refine Qn rfl rfl (fun hc => ?_) (fun hc => ?_)))))
      all_goals ((first | refine s_gn rfl rfl ?_ | (refine s_gy rfl ?_; (first | (refine zpt ?_) | (refine zpf ?_)))); (first | (refine zpt ?_) | (refine zpf ?_)); refine Q4E ?_; refine Q2b ?_)
      all_goals (first | (exact ⟨_, zh, zh, by exact ⟨fun _ => .inl (hq5.1 rfl), fun _ => rfl⟩, hS.sp⟩) | (exact ⟨_, zh, zh, by exact ⟨fun _ => .inr ⟨(by first | rfl | assumption), by omega⟩, fun _ => rfl⟩, hS.sp⟩) | (exact ⟨_, zh, zh, by exact ⟨fun h => Bool.noConfusion h, fun h => h.elim (fun h => hq5.2 h) (fun h => by obtain ⟨h1, h2⟩ := h; first | (exfalso; omega) | (simp_all; done))⟩, hS.sp⟩))
    rintro ρ w1 ⟨q6, hA, hρ, hq6, hS⟩; obtain ⟨ρ, rfl⟩ := env2 hA hρ
    all_goals (cases q6)
    all_goals (refine zm ?_; (first | refine s_gn rfl rfl ?_ | (refine s_gy rfl ?_; refine Q2 rfl ?_)); (first | refine s_gn rfl rfl ?_ | (refine s_gy rfl ?_; refine zl hS ?_)))
    all_goals (cases a7)
    all_goals ((first | refine s_gn rfl rfl ?_ | (refine s_gy rfl ?_; refine Q1W rfl ?_)); (first | refine s_gn rfl rfl ?_ | (refine s_gy rfl ?_; refine zm ?_)); (first | refine s_gn rfl rfl ?_ | (refine s_gy rfl ?_; refine Q2 rfl ?_)); (first | refine s_gn rfl rfl ?_ | (refine s_gy rfl ?_; refine zl hS ?_)); (first | refine s_gn rfl rfl ?_ | (refine s_gy rfl ?_; refine zL ?_)))
    all_goals (first | refine s_gn rfl rfl ?_ | (refine s_gy rfl ?_; (first | (refine Q11 ?_) | (refine Q14 ?_) | (refine Qn rfl rfl (fun hc => ?_) (fun hc => ?_)))))
    all_goals ((first | refine s_gn rfl rfl ?_ | (refine s_gy rfl ?_; (first | (refine zpt ?_) | (refine zpf ?_)))); (first | (refine zpt ?_) | (refine zpf ?_)); refine zn ?_)
    all_goals
      first
      | (refine Q5 rfl ?_ -- QJ c1
         all_goals (refine Q0 ?_; refine Q1 ?_; refine zm ?_; refine zn ?_; refine zr ?_; refine zf ?_)
         all_goals (first | (refine ⟨_, rfl, ?_, hS.sp⟩; rw [if_pos (by have := of_decide_eq_false hop; omega)]; done) | (refine ⟨_, rfl, ?_, hS.sp⟩; have ho : x.odd := (by unfold Ins.odd; simp only [← or_assoc]; first | exact .inl (hq6.1 rfl) | exact .inr ⟨(by first | rfl | assumption), by omega⟩); rw [if_neg (by omega), if_pos ho]; done)))
      | (refine Q6 rfl ?_ -- QJ c1
         all_goals refine zsk ?_)
    all_goals (exact ⟨zh, zh, by intro h; unfold Ins.odd at h; simp only [← or_assoc] at h; exact h.elim (fun h => Bool.noConfusion (hq6.2 h)) (fun h => by obtain ⟨h1, h2⟩ := h; first | (exfalso; omega) | (simp_all; done)), hS.sp⟩)
  rintro ρ w1 ⟨hA, hρ, hodd, hS⟩; obtain ⟨ρ, rfl⟩ := env2 hA hρ
  all_goals (refine Q0 ?_; refine Q0 ?_; clear hm hx; refine Q1 ?_; refine Q2 rfl ?_; refine zl hS ?_; refine zn ?_; refine Qb ?_; refine Q0 ?_; refine Q1 ?_)
  all_goals (first | (refine QD ?_) | (refine QI ?_) | (refine Qu rfl rfl (fun hc => ?_) (fun hc => ?_)))
  all_goals (refine zm ?_; refine zn ?_)
  all_goals
    first
    | (refine Q5 rfl ?_ -- QJ c2
       all_goals (refine Q0 ?_; refine Q1 ?_; refine Q2 rfl ?_; refine zl hS ?_)
       all_goals (first | (refine Q1Z ?_) | (refine Q20 ?_) | (refine QQ rfl rfl (fun hc => ?_) (fun hc => ?_)))
       all_goals (refine zm ?_; (first | refine s_gn rfl rfl ?_ | (refine s_gy rfl ?_; refine Q2 rfl ?_)); (first | refine s_gn rfl rfl ?_ | (refine s_gy rfl ?_; refine zl hS ?_)))
       all_goals (first | refine s_gn rfl rfl ?_ | (refine s_gy rfl ?_; (first | (refine Q11 ?_) | (refine Q14 ?_) | (refine Qn rfl rfl (fun hc => ?_) (fun hc => ?_)))))
       all_goals ((first | (refine zpt ?_) | (refine zpf ?_)); refine zn ?_)
       all_goals
         first
         | (refine Q5 rfl ?_ -- QJ c3
            all_goals (refine Q0 ?_; refine Q1 ?_; refine zm ?_; refine zn ?_; refine zr ?_; refine zf ?_)
            all_goals (first | (refine ⟨_, rfl, ?_, hS.sp⟩; rw [if_pos (by have := of_decide_eq_false hop; omega)]; done) | (refine ⟨_, rfl, ?_, hS.sp⟩; have ho : x.odd := (by unfold Ins.odd; simp only [← or_assoc]; first | exact .inl (hq6.1 rfl) | exact .inr ⟨(by first | rfl | assumption), by omega⟩); rw [if_neg (by omega), if_pos ho]; done) | (refine ⟨_, rfl, ?_, hS.sp⟩; rw [if_neg (by omega), if_neg hodd]; unfold Q1H; (repeat (first | rw [if_pos (by omega)] | rw [if_neg (by omega)])); done)))
         | (refine Q6 rfl ?_ -- QJ c3
            all_goals refine zsk ?_))
    | (refine Q6 rfl ?_ -- QJ c2
       all_goals (refine Q0 ?_; refine Q1 ?_)
       all_goals (first | (refine QD ?_) | (refine QI ?_) | (refine Qu rfl rfl (fun hc => ?_) (fun hc => ?_)))
       all_goals (refine zm ?_; refine zn ?_)
       all_goals
         first
         | (refine Q5 rfl ?_ -- QJ c4
            all_goals (refine Q0 ?_; refine Q1 ?_; refine Q2 rfl ?_; refine zl hS ?_; refine zL ?_)
            all_goals (first | (refine Q11 ?_) | (refine Q14 ?_) | (refine Qn rfl rfl (fun hc => ?_) (fun hc => ?_)))
            all_goals (refine zn ?_)
            all_goals
              first
              | (refine Q5 rfl ?_ -- QJ c5
                 all_goals (refine Q0 ?_; refine Q1 ?_; refine zm ?_; refine zn ?_; refine zr ?_; refine zf ?_)
                 all_goals (first | (refine ⟨_, rfl, ?_, hS.sp⟩; rw [if_pos (by have := of_decide_eq_false hop; omega)]; done) | (refine ⟨_, rfl, ?_, hS.sp⟩; have ho : x.odd := (by unfold Ins.odd; simp only [← or_assoc]; first | exact .inl (hq6.1 rfl) | exact .inr ⟨(by first | rfl | assumption), by omega⟩); rw [if_neg (by omega), if_pos ho]; done) | (refine ⟨_, rfl, ?_, hS.sp⟩; rw [if_neg (by omega), if_neg hodd]; unfold Q1H; (repeat (first | rw [if_pos (by omega)] | rw [if_neg (by omega)])); done)))
              | (refine Q6 rfl ?_ -- QJ c5
                 all_goals refine zsk ?_))
         | (refine Q6 rfl ?_ -- QJ c4
            all_goals (refine Q0 ?_; refine Q0 ?_; refine Q1 ?_)
            all_goals (first | (refine QD ?_) | (refine QI ?_) | (refine Qu rfl rfl (fun hc => ?_) (fun hc => ?_)))
            all_goals (refine zm ?_; refine zn ?_)
            all_goals
              first
              | (refine Q5 rfl ?_ -- QJ c6
                 all_goals refine zsk ?_)
              | (refine Q6 rfl ?_ -- QJ c6
                 all_goals (refine Q1 ?_)
                 all_goals (first | (refine QD ?_) | (refine QI ?_) | (refine Qu rfl rfl (fun hc => ?_) (fun hc => ?_)))
                 all_goals (refine zm ?_)
                 all_goals refine zn ?_)
            all_goals
              first
              | (refine Q5 rfl ?_ -- QJ c7
                 all_goals (refine Q0 ?_; refine Q1 ?_; refine Q2 rfl ?_; refine zl hS ?_)
                 all_goals (first | (refine Q1Z ?_) | (refine Q20 ?_) | (refine QQ rfl rfl (fun hc => ?_) (fun hc => ?_)))
                 all_goals (refine zm ?_; (first | refine s_gn rfl rfl ?_ | (refine s_gy rfl ?_; refine Q2 rfl ?_)); (first | refine s_gn rfl rfl ?_ | (refine s_gy rfl ?_; refine zl hS ?_)))
                 all_goals (first | refine s_gn rfl rfl ?_ | (refine s_gy rfl ?_; (first | (refine Q11 ?_) | (refine Q14 ?_) | (refine Qn rfl rfl (fun hc => ?_) (fun hc => ?_)))))
                 all_goals ((first | (refine zpt ?_) | (refine zpf ?_)); refine zn ?_)
                 all_goals
                   first
                   | (refine Q5 rfl ?_ -- QJ c8
                      all_goals (refine Q0 ?_; refine Q1 ?_; refine zm ?_; refine zn ?_; refine zr ?_; refine zf ?_)
                      all_goals (first | (refine ⟨_, rfl, ?_, hS.sp⟩; rw [if_pos (by have := of_decide_eq_false hop; omega)]; done) | (refine ⟨_, rfl, ?_, hS.sp⟩; have ho : x.odd := (by unfold Ins.odd; simp only [← or_assoc]; first | exact .inl (hq6.1 rfl) | exact .inr ⟨(by first | rfl | assumption), by omega⟩); rw [if_neg (by omega), if_pos ho]; done) | (refine ⟨_, rfl, ?_, hS.sp⟩; rw [if_neg (by omega), if_neg hodd]; unfold Q1H; (repeat (first | rw [if_pos (by omega)] | rw [if_neg (by omega)])); done)))
                   | (refine Q6 rfl ?_ -- QJ c8
                      all_goals refine zsk ?_))
              | (refine Q6 rfl ?_ -- QJ c7
                 all_goals (refine Q0 ?_; refine Q1 ?_)
                 all_goals (first | (refine QD ?_) | (refine QI ?_) | (refine Qu rfl rfl (fun hc => ?_) (fun hc => ?_)))
                 all_goals (refine zm ?_; refine zn ?_)
                 all_goals
                   first
                   | (refine Q5 rfl ?_ -- QJ c9
                      all_goals (refine Q0 ?_; refine Q0 ?_; refine Q1 ?_; refine Q2 rfl ?_; refine zl hS ?_)
                      all_goals (first | (refine Q1Z ?_) | (refine Q20 ?_) | (refine QQ rfl rfl (fun hc => ?_) (fun hc => ?_)))
                      all_goals (refine zm ?_; (first | refine s_gn rfl rfl ?_ | (refine s_gy rfl ?_; refine Q2 rfl ?_)); (first | refine s_gn rfl rfl ?_ | (refine s_gy rfl ?_; refine zl hS ?_)); (first | refine s_gn rfl rfl ?_ | (refine s_gy rfl ?_; refine Q2 rfl ?_)); (first | refine s_gn rfl rfl ?_ | (refine s_gy rfl ?_; refine zl hS ?_)); (first | refine s_gn rfl rfl ?_ | (refine s_gy rfl ?_; refine zL ?_)))
                      all_goals (first | refine s_gn rfl rfl ?_ | (refine s_gy rfl ?_; (first | (refine Q53 ?_) | (refine Q56 ?_) | (refine Q24 rfl rfl (fun hc => ?_) (fun hc => ?_)))))
                      all_goals ((first | (refine zpt ?_) | (refine zpf ?_)); refine zn ?_)
                      all_goals
                        first
                        | (refine Q5 rfl ?_ -- QJ c10
                           all_goals (refine Q0 ?_; refine Q1 ?_; refine zm ?_; refine zn ?_; refine zr ?_; refine zf ?_)
                           all_goals (first | (refine ⟨_, rfl, ?_, hS.sp⟩; rw [if_pos (by have := of_decide_eq_false hop; omega)]; done) | (refine ⟨_, rfl, ?_, hS.sp⟩; have ho : x.odd := (by unfold Ins.odd; simp only [← or_assoc]; first | exact .inl (hq6.1 rfl) | exact .inr ⟨(by first | rfl | assumption), by omega⟩); rw [if_neg (by omega), if_pos ho]; done) | (refine ⟨_, rfl, ?_, hS.sp⟩; rw [if_neg (by omega), if_neg hodd]; unfold Q1H; (repeat (first | rw [if_pos (by omega)] | rw [if_neg (by omega)])); done)))
                        | (refine Q6 rfl ?_ -- QJ c10
                           all_goals refine zsk ?_)
                      all_goals (refine Q0 ?_; refine Q1 ?_; refine Q2 rfl ?_; refine zl hS ?_; refine zL ?_)
                      all_goals (first | (refine Q11 ?_) | (refine Q14 ?_) | (refine Qn rfl rfl (fun hc => ?_) (fun hc => ?_)))
                      all_goals (refine zm ?_; (first | refine s_gn rfl rfl ?_ | (refine s_gy rfl ?_; refine Q2 rfl ?_)); (first | refine s_gn rfl rfl ?_ | (refine s_gy rfl ?_; refine zl hS ?_)); (first | refine s_gn rfl rfl ?_ | (refine s_gy rfl ?_; refine zL ?_)))
                      all_goals (first | refine s_gn rfl rfl ?_ | (refine s_gy rfl ?_; (first | (refine Q11 ?_) | (refine Q14 ?_) | (refine Qn rfl rfl (fun hc => ?_) (fun hc => ?_)))))
                      all_goals ((first | (refine zpt ?_) | (refine zpf ?_)); refine zn ?_)
                      all_goals
                        first
                        | (refine Q5 rfl ?_ -- QJ c11
                           all_goals (refine Q0 ?_; refine Q1 ?_; refine zm ?_; refine zn ?_; refine zr ?_; refine zf ?_)
                           all_goals (first | (refine ⟨_, rfl, ?_, hS.sp⟩; rw [if_pos (by have := of_decide_eq_false hop; omega)]; done) | (refine ⟨_, rfl, ?_, hS.sp⟩; have ho : x.odd := (by unfold Ins.odd; simp only [← or_assoc]; first | exact .inl (hq6.1 rfl) | exact .inr ⟨(by first | rfl | assumption), by omega⟩); rw [if_neg (by omega), if_pos ho]; done) | (refine ⟨_, rfl, ?_, hS.sp⟩; rw [if_neg (by omega), if_neg hodd]; unfold Q1H; (repeat (first | rw [if_pos (by omega)] | rw [if_neg (by omega)])); done)))
                        | (refine Q6 rfl ?_ -- QJ c11
                           all_goals refine zsk ?_))
                   | (refine Q6 rfl ?_ -- QJ c9
                      all_goals refine zsk ?_))))
  all_goals (refine Q0 ?_; refine Q1 ?_; refine zm ?_; refine zn ?_; refine zr ?_; refine zf ?_; (first | (refine ⟨_, rfl, ?_, hS.sp⟩; rw [if_pos (by have := of_decide_eq_false hop; omega)]; done) | (refine ⟨_, rfl, ?_, hS.sp⟩; have ho : x.odd := (by unfold Ins.odd; simp only [← or_assoc]; first | exact .inl (hq6.1 rfl) | exact .inr ⟨(by first | rfl | assumption), by omega⟩); rw [if_neg (by omega), if_pos ho]; done) | (refine ⟨_, rfl, ?_, hS.sp⟩; rw [if_neg (by omega), if_neg hodd]; unfold Q1H; (repeat (first | rw [if_pos (by omega)] | rw [if_neg (by omega)])); done)))
end Go.Proofs.Ytanlkfeogoganaa
namespace Go.Proofs.Ytanlkfeogoganaa
open Go.Lir
set_option maxHeartbeats 1000000
attribute [local irreducible] LC.wp Q3 QZ Q1g retQ Q2p LO.wp QH Calls
set_option linter.unusedSimpArgs false
set_option linter.unusedVariables false
attribute [local irreducible] orF mkF orC Q1H QP Q1S Q1I Qr Qm Qz Q2W Q26 Q6G Q4l
variable {cx : Cx} {w : World} {L : List Res} {i : Nat}
theorem fault_if (c : Int) : (if decide (c ≠ 0) = true then c else 0) = c := by by_cases h : c = 0 <;> simp [h]
theorem rto_c {x : Fun} {t : To} {is : Bool} {cs ds : List Value} (hx : funcR.at cx cs x) (ht : toR.at cx ds t) (hS : St cx w L) :
    Rets Try.prog Q3L [.agg ⟨cs⟩, .agg ⟨ds⟩, .bool is] w fun u w' => u = .int .i64 (Q1S x.blocks.length t is) ∧ St cx w' L := by
  obtain ⟨vp, vr, vb, rfl, hp, hr, hb⟩ := Q17 hx
  obtain ⟨v1, v2, rfl, h1, h2⟩ := Q4p ht
  have hlb := hb.len
  have hb1 := h1.len
  have hb2 := h2.len
  unfold Q1S
  cases is with
  | false =>
    all_goals refine Qfp ?_
    all_goals (unfold R_toForm_lc; refine Q0 ?_; refine Q1 ?_; refine zb hS ?_; intro p3 w1 hS; refine zb hS ?_; intro p4 w1 hS; refine zm ?_; refine zn ?_; refine Q0 ?_; refine Q0 ?_; refine Q1 ?_; refine zm ?_; refine Q1W rfl ?_; refine zn ?_)
    all_goals refine Q5 rfl ?_
    all_goals (refine Q0 ?_; refine Q0 ?_; refine Q1 ?_; refine Q2 rfl ?_; refine zl hS ?_)
    all_goals (first | (refine Q1h ?_) | (refine Q1i ?_) | (refine Qw rfl rfl (fun hc => ?_) (fun hc => ?_)))
    all_goals (refine zm ?_; (first | refine s_gn rfl rfl ?_ | (refine s_gy rfl ?_; refine Q2 rfl ?_)); (first | refine s_gn rfl rfl ?_ | (refine s_gy rfl ?_; refine zl hS ?_)); (first | refine s_gn rfl rfl ?_ | (refine s_gy rfl ?_; refine zL ?_)); (first | refine s_gn rfl rfl ?_ | (refine s_gy rfl ?_; refine Q2 rfl ?_)); (first | refine s_gn rfl rfl ?_ | (refine s_gy rfl ?_; refine zl hS ?_)); (first | refine s_gn rfl rfl ?_ | (refine s_gy rfl ?_; refine zL ?_)); (first | refine s_gn rfl rfl ?_ | (refine s_gy rfl ?_; refine zad ?_)))
    all_goals (first | refine s_gn rfl rfl ?_ | (refine s_gy rfl ?_; (first | (refine Q11 ?_) | (refine Q14 ?_) | (refine Qn rfl rfl (fun hc => ?_) (fun hc => ?_)))))
    all_goals ((first | (refine zpt ?_) | (refine zpf ?_)); refine zn ?_)
    all_goals
      first
      | (refine Q5 rfl ?_ -- Q3L c1
         all_goals (refine Q0 ?_; refine Q1 ?_; refine zm ?_; refine zn ?_; refine zr ?_; refine zf ?_)
         all_goals (refine ⟨_, rfl, ?_, hS.sp⟩; (rw [if_pos rfl]; first | rw [if_pos (by omega)] | rw [if_neg (by omega)]); done))
      | (refine Q6 rfl ?_ -- Q3L c1
         all_goals refine zsk ?_)
    all_goals (refine Q0 ?_; refine Q1 ?_; refine zm ?_; refine zn ?_; refine zr ?_; refine zf ?_; refine ⟨_, rfl, ?_, hS.sp⟩; (rw [if_pos rfl]; first | rw [if_pos (by omega)] | rw [if_neg (by omega)]); done)
  | true =>
    all_goals refine Qfp ?_
    all_goals (unfold R_toForm_lc; refine Q0 ?_; refine Q1 ?_; refine zb hS ?_; intro p3 w1 hS; refine zb hS ?_; intro p4 w1 hS; refine zm ?_; refine zn ?_; refine Q0 ?_; refine Q0 ?_; refine Q1 ?_; refine zm ?_; refine Q1W rfl ?_; refine zn ?_)
    all_goals refine Q6 rfl ?_
    all_goals (refine zsk ?_; refine Q0 ?_; refine Q0 ?_; refine Q1 ?_; refine Q2 rfl ?_; refine zl hS ?_)
    all_goals (first | (refine Q1Z ?_) | (refine Q20 ?_) | (refine QQ rfl rfl (fun hc => ?_) (fun hc => ?_)))
    all_goals (refine zm ?_; (first | refine s_gn rfl rfl ?_ | (refine s_gy rfl ?_; refine Q2 rfl ?_)); (first | refine s_gn rfl rfl ?_ | (refine s_gy rfl ?_; refine zl hS ?_)); (first | refine s_gn rfl rfl ?_ | (refine s_gy rfl ?_; refine Q2 rfl ?_)); (first | refine s_gn rfl rfl ?_ | (refine s_gy rfl ?_; refine zl hS ?_)); (first | refine s_gn rfl rfl ?_ | (refine s_gy rfl ?_; refine zL ?_)))
    all_goals (first | refine s_gn rfl rfl ?_ | (refine s_gy rfl ?_; (first | (refine Q53 ?_) | (refine Q56 ?_) | (refine Q24 rfl rfl (fun hc => ?_) (fun hc => ?_)))))
    all_goals ((first | (refine zpt ?_) | (refine zpf ?_)); refine zn ?_)
    all_goals
      first
      | (refine Q5 rfl ?_ -- Q3L c2
         all_goals (refine Q0 ?_; refine Q1 ?_; refine zm ?_; refine zn ?_; refine zr ?_; refine zf ?_)
         all_goals (refine ⟨_, rfl, ?_, hS.sp⟩; rw [if_neg Bool.noConfusion]; (repeat (first | rw [if_pos (by omega)] | rw [if_neg (by omega)])); done))
      | (refine Q6 rfl ?_ -- Q3L c2
         all_goals refine zsk ?_)
    all_goals (refine Q0 ?_; refine Q0 ?_; refine Q1 ?_; refine Q2 rfl ?_; refine zl hS ?_; refine zL ?_)
    all_goals (first | (refine Q11 ?_) | (refine Q14 ?_) | (refine Qn rfl rfl (fun hc => ?_) (fun hc => ?_)))
    all_goals (refine zm ?_; (first | refine s_gn rfl rfl ?_ | (refine s_gy rfl ?_; refine Q2 rfl ?_)); (first | refine s_gn rfl rfl ?_ | (refine s_gy rfl ?_; refine zl hS ?_)); (first | refine s_gn rfl rfl ?_ | (refine s_gy rfl ?_; refine zL ?_)))
    all_goals (first | refine s_gn rfl rfl ?_ | (refine s_gy rfl ?_; (first | (refine Q11 ?_) | (refine Q14 ?_) | (refine Qn rfl rfl (fun hc => ?_) (fun hc => ?_)))))
    all_goals ((first | (refine zpt ?_) | (refine zpf ?_)); refine zn ?_)
    all_goals
      first
      | (refine Q5 rfl ?_ -- Q3L c3
         all_goals (refine Q0 ?_; refine Q1 ?_; refine zm ?_; refine zn ?_; refine zr ?_; refine zf ?_)
         all_goals (refine ⟨_, rfl, ?_, hS.sp⟩; rw [if_neg Bool.noConfusion]; (repeat (first | rw [if_pos (by omega)] | rw [if_neg (by omega)])); done))
      | (refine Q6 rfl ?_ -- Q3L c3
         all_goals refine zsk ?_)
    all_goals (refine Q0 ?_; refine Q1 ?_; refine zm ?_; refine zn ?_; refine zr ?_; refine zf ?_; refine ⟨_, rfl, ?_, hS.sp⟩; rw [if_neg Bool.noConfusion]; (repeat (first | rw [if_pos (by omega)] | rw [if_neg (by omega)])); done)
theorem rend_c {x : Fun} {e : Tail} {cs ds : List Value} (hx : funcR.at cx cs x) (he : endR.at cx ds e) (hS : St cx w L) :
    Rets Try.prog Q2s [.agg ⟨cs⟩, .agg ⟨ds⟩] w fun u w' => u = .int .i64 (Q1I x.blocks.length e) ∧ St cx w' L := by
  obtain ⟨vp, vr, vb, rfl, hp, hr, hb⟩ := Q17 hx
  obtain ⟨v1, v2, v3, v4, v5, rfl, h1, h2, h3, h4, h5⟩ := Q5U he
  have s5 := h5.len
  unfold Q1I
  all_goals refine Qmr ?_
  all_goals (unfold R_EndForm_lc; refine Q0 ?_; refine Q1 ?_; refine zb hS ?_; intro p2 w1 hS; refine zb hS ?_; intro p3 w1 hS; refine zm ?_; refine zn ?_; refine Q0 ?_; refine Q0 ?_; refine Q1 ?_; refine Q2 rfl ?_; refine zl hS ?_)
  all_goals (first | (refine Q1Z ?_) | (refine Q20 ?_) | (refine QQ rfl rfl (fun hc => ?_) (fun hc => ?_)))
  all_goals (refine zm ?_; (first | refine s_gn rfl rfl ?_ | (refine s_gy rfl ?_; refine Q2 rfl ?_)); (first | refine s_gn rfl rfl ?_ | (refine s_gy rfl ?_; refine zl hS ?_)))
  all_goals (first | refine s_gn rfl rfl ?_ | (refine s_gy rfl ?_; (first | (refine Q11 ?_) | (refine Q14 ?_) | (refine Qn rfl rfl (fun hc => ?_) (fun hc => ?_)))))
  all_goals ((first | (refine zpt ?_) | (refine zpf ?_)); refine zn ?_)
  all_goals
    first
    | (refine Q5 rfl ?_ -- Q2s c0
       all_goals (refine Q0 ?_; refine Q1 ?_; refine zm ?_; refine zn ?_; refine zr ?_; refine zf ?_)
       all_goals (refine ⟨_, rfl, ?_, hS.sp⟩; rw [if_pos (by omega)]; done))
    | (refine Q6 rfl ?_ -- Q2s c0
       all_goals refine zsk ?_)
  refine zML hS [2, 3] (fun A LL ρ' w' => Has ρ' A ∧ Has ρ' [] ∧ (¬ (e.op < 1 ∨ 3 < e.op)) ∧ (¬ (e.op ≠ 2 ∧ e.a ≠ 0 ∨ e.op ≠ 3 ∧ 0 < e.args.length)) ∧ St cx w' (LL)) ?_ ?_
  · skip
    all_goals (refine Q0 ?_; refine Q1 ?_; refine Q2 rfl ?_; refine zl hS ?_)
    all_goals (first | (refine Q1h ?_) | (refine Q1i ?_) | (refine Qw rfl rfl (fun hc => ?_) (fun hc => ?_)))
    all_goals (refine zm ?_; (first | refine s_gn rfl rfl ?_ | (refine s_gy rfl ?_; refine Q2 rfl ?_)); (first | refine s_gn rfl rfl ?_ | (refine s_gy rfl ?_; refine zl hS ?_)))
    all_goals (first | refine s_gn rfl rfl ?_ | (refine s_gy rfl ?_; (first | (refine Q1h ?_) | (refine Q1i ?_) | (refine Qw rfl rfl (fun hc => ?_) (fun hc => ?_)))))
    all_goals ((first | (refine zpt ?_) | (refine zpf ?_)); refine zm ?_; (first | refine s_gn rfl rfl ?_ | (refine s_gy rfl ?_; refine Q2 rfl ?_)); (first | refine s_gn rfl rfl ?_ | (refine s_gy rfl ?_; refine zl hS ?_)); (first | refine s_gn rfl rfl ?_ | (refine s_gy rfl ?_; refine zL ?_)))
    all_goals (first | refine s_gn rfl rfl ?_ | (refine s_gy rfl ?_; (first | (refine Q11 ?_) | (refine Q14 ?_) | (refine Qn rfl rfl (fun hc => ?_) (fun hc => ?_)))))
    all_goals ((first | refine s_gn rfl rfl ?_ | (refine s_gy rfl ?_; refine zm ?_)); (first | refine s_gn rfl rfl ?_ | (refine s_gy rfl ?_; refine Q2 rfl ?_)); (first | refine s_gn rfl rfl ?_ | (refine s_gy rfl ?_; refine zl hS ?_)))
    all_goals (first | refine s_gn rfl rfl ?_ | (refine s_gy rfl ?_; (first | (refine Q1h ?_) | (refine Q1i ?_) | (refine Qw rfl rfl (fun hc => ?_) (fun hc => ?_)))))
    all_goals ((first | refine s_gn rfl rfl ?_ | (refine s_gy rfl ?_; (first | (refine zpt ?_) | (refine zpf ?_)))); (first | (refine zpt ?_) | (refine zpf ?_)); refine zn ?_)
    all_goals
      first
      | (refine Q5 rfl ?_ -- Q2s c1
         all_goals (refine Q0 ?_; refine Q1 ?_; refine zm ?_; refine zn ?_; refine zr ?_; refine zf ?_)
         all_goals (first | (refine ⟨_, rfl, ?_, hS.sp⟩; rw [if_pos (by omega)]; done) | (refine ⟨_, rfl, ?_, hS.sp⟩; rw [if_neg (by omega), if_pos (by omega)]; done)))
      | (refine Q6 rfl ?_ -- Q2s c1
         all_goals refine zsk ?_)
    all_goals (exact ⟨zh, zh, by omega, by omega, hS.sp⟩)
  rintro ρ w1 ⟨hA, hρ, k1, k2, hS⟩; obtain ⟨ρ, rfl⟩ := env2 hA hρ
  all_goals (refine Q0 ?_; refine Q0 ?_; refine Q1 ?_; refine Q2 rfl ?_; refine zl hS ?_; refine zL ?_)
  all_goals (first | (refine Q11 ?_) | (refine Q14 ?_) | (refine Qn rfl rfl (fun hc => ?_) (fun hc => ?_)))
  all_goals (refine zn ?_)
  all_goals
    first
    | (refine Q5 rfl ?_ -- Q2s c2
       all_goals (refine Q0 ?_; refine Q1 ?_; refine zm ?_; refine zn ?_; refine zr ?_; refine zf ?_)
       all_goals (first | (refine ⟨_, rfl, ?_, hS.sp⟩; rw [if_pos (by omega)]; done) | (refine ⟨_, rfl, ?_, hS.sp⟩; rw [if_neg (by omega), if_pos (by omega)]; done) | (refine ⟨_, rfl, ?_, hS.sp⟩; rw [if_neg k1, if_neg k2, if_pos (by omega)]; done)))
    | (refine Q6 rfl ?_ -- Q2s c2
       all_goals refine zsk ?_)
  all_goals (refine Q0 ?_; refine Q0 ?_; refine Q1 ?_; refine zv hS ?_; refine Q2 rfl ?_; refine zv hS ?_; refine Q2 rfl ?_; refine zl hS ?_; refine Q4F rfl rfl ?_; refine zR3 (c := rto_c (t := e.yes) hx ⟨_, _, rfl, h1, h2⟩ hS) (h := ?_); rintro v1 w1 ⟨rfl, hS⟩; refine zm ?_; refine zn ?_; refine Q0 ?_; refine Q1 ?_; refine zm ?_)
  all_goals (first | (refine Q1h ?_) | (refine Q1i ?_) | (refine Qw rfl rfl (fun hc => ?_) (fun hc => ?_)))
  all_goals (refine zn ?_)
  all_goals
    first
    | (refine Q5 rfl ?_ -- Q2s c3
       all_goals (refine Q0 ?_; refine Q1 ?_; refine zm ?_; refine zm ?_; refine zn ?_; refine zr ?_; refine zf ?_)
       all_goals (first | (refine ⟨_, rfl, ?_, hS.sp⟩; rw [if_pos (by omega)]; done) | (refine ⟨_, rfl, ?_, hS.sp⟩; rw [if_neg (by omega), if_pos (by omega)]; done) | (refine ⟨_, rfl, ?_, hS.sp⟩; rw [if_neg k1, if_neg k2, if_pos (by omega)]; done) | (refine ⟨_, rfl, ?_, hS.sp⟩; (rw [if_neg k1, if_neg k2, if_neg (by omega)]; first | rw [Q5n (by assumption)] | (rw [Classical.not_not.1 (by assumption : ¬ Q1S x.blocks.length e.yes (decide (e.op ≠ 3)) ≠ 0), Q54])); done)))
    | (refine Q6 rfl ?_ -- Q2s c3
       all_goals refine zsk ?_)
  all_goals (refine Q0 ?_; refine Q1 ?_; refine zv hS ?_; refine Q2 rfl ?_; refine zv hS ?_; refine Q2 rfl ?_; refine zl hS ?_; refine QeA rfl rfl ?_; refine zR3 (c := rto_c (t := e.no) hx ⟨_, _, rfl, h3, h4⟩ hS) (h := ?_); rintro v1 w1 ⟨rfl, hS⟩; refine zm ?_; refine zn ?_; refine zr ?_; refine zf ?_; (first | (refine ⟨_, rfl, ?_, hS.sp⟩; rw [if_pos (by omega)]; done) | (refine ⟨_, rfl, ?_, hS.sp⟩; rw [if_neg (by omega), if_pos (by omega)]; done) | (refine ⟨_, rfl, ?_, hS.sp⟩; rw [if_neg k1, if_neg k2, if_pos (by omega)]; done) | (refine ⟨_, rfl, ?_, hS.sp⟩; (rw [if_neg k1, if_neg k2, if_neg (by omega)]; first | rw [Q5n (by assumption)] | (rw [Classical.not_not.1 (by assumption : ¬ Q1S x.blocks.length e.yes (decide (e.op ≠ 3)) ≠ 0), Q54])); done)))
theorem pins_c {x : Ins} {m : Module} {cs ds : List Value} (hm : modR.at cx cs m) (hx : insR.at cx ds x) (hS : St cx w L) : Rets Try.prog QoT [.agg ⟨cs⟩, .agg ⟨ds⟩] w fun u w' => u = .int .i64 (QP m.funcs.length x) ∧ St cx w' L := by
  obtain ⟨vf, rfl, hf⟩ := Q29 hm
  obtain ⟨a0, n0, rfl⟩ := Rep.SR.shape hf
  have hx' := hx
  obtain ⟨vr, va, rfl, hr, ha⟩ := Q1Q hx
  all_goals refine QnD ?_
  all_goals (unfold code_Ins_lc; refine Q0 ?_; refine Q1 ?_; refine zb hS ?_; intro p2 w1 hS; refine zb hS ?_; intro p3 w1 hS; refine zm ?_; refine zn ?_; refine Q0 ?_; refine Q1 ?_; refine zv hS ?_; refine zb1 [_, _, _, _] ?_; refine zb hS ?_; intro p8 w1 hS; refine zm ?_; refine zn ?_; refine Q0 ?_; refine Q1 ?_; refine zm ?_; refine zv hS ?_; refine zR2 (c := ins_c (g := (0, 0)) (at' := 0) hx' hf hS nth0) (h := ?_); rintro v1 w1 ⟨rfl, hS⟩; simp only [List.set_cons_zero] at hS; rw [Q1E (Qao _ _)] at hS; simp only [jdg, Q1F] at hS; refine zn ?_; refine Q0 ?_; refine Q1 ?_; refine zm ?_; refine QA rfl ?_; refine Q2 rfl ?_; (first | refine Q2 rfl ?_ | refine Q1A rfl ?_); refine zl hS ?_; refine zm ?_; refine zn ?_; refine zr ?_; refine zf ?_; refine ⟨_, rfl, ?_, hS.sp⟩; (rfl); done)
theorem pend_c {x : Fun} {e : Tail} {cs ds : List Value} (hx : funcR.at cx cs x) (he : endR.at cx ds e) (hS : St cx w L) : Rets Try.prog QoU [.agg ⟨cs⟩, .agg ⟨ds⟩] w fun u w' => u = .int .i64 (Q1I x.blocks.length e) ∧ St cx w' L := by
  have hx' := hx
  have he' := he
  obtain ⟨vp, vr, vb, rfl, hp, hr, hb⟩ := Q17 hx
  obtain ⟨v1, v2, v3, v4, v5, rfl, h1, h2, h3, h4, h5⟩ := Q5U he
  all_goals refine QnI ?_
  all_goals (unfold code_End_lc; refine Q0 ?_; refine Q1 ?_; refine zb hS ?_; intro p2 w1 hS; refine zb hS ?_; intro p3 w1 hS; refine zm ?_; refine zn ?_; refine Q0 ?_; refine Q1 ?_; refine zb0 [_, _, _, _] ?_; refine zb hS ?_; intro p7 w1 hS; refine zm ?_; refine zn ?_; refine Q0 ?_; refine Q1 ?_; refine zm ?_; refine zv hS ?_; refine zv hS ?_; refine zR3 (c := end_c (g := (0, 0)) (at' := 0) hx' he' hS fd) (h := ?_); rintro v1 w1 ⟨rfl, hS⟩; have hS := hS.ns; rw [Q1E (Qao _ _)] at hS; simp only [jdg, Q1F] at hS; refine zn ?_; refine Q0 ?_; refine Q1 ?_; refine zm ?_; refine QA rfl ?_; refine Q2 rfl ?_; (first | refine Q2 rfl ?_ | refine Q1A rfl ?_); refine zl hS ?_; refine zm ?_; refine zn ?_; refine zr ?_; refine zf ?_; refine ⟨_, rfl, ?_, hS.sp⟩; (rfl); done)
theorem QmR {l : List Ty} {regs : Int} {v vf : Value} {g : Flt} {at' : Int} {b : Nat} (hl : tyR.sl cx v l) (hS : St cx w L) (hi : nth L i = some (jdg b vf g at')) :
    Rets Try.prog Q5D [.pointer (some ⟨b, 0, none⟩), v, .int .i64 regs] w fun u w' => u = .tuple #[] ∧ St cx w' (L.set i (jdg b vf (orF g (mkF (Qr l regs) at')) at')) := by
  have hS := hS.out hi
  have hlen := hl.len
  have e0 : orF g (mkF (Qr l regs) at') = orF g (mkF (orC (if 8 < l.length then 2 else 0) (Q2X regs l)) at') := by
    congr 2
    unfold Qr
    split
    · rw [Q5n (by decide)]
    · rw [Q54]
  rw [e0]
  all_goals refine Q9H ?_
  all_goals (unfold code_judge_list_lc)
  refine zM [0, 1, 2] (fun A ρ' w' => Has ρ' A ∧ Has ρ' [] ∧ St cx w' (jdg b vf (orF g (mkF (if 8 < l.length then 2 else 0) at')) at' :: L.eraseIdx i)) ?_ ?_
  · skip
    all_goals (refine Q1 ?_; refine zm ?_; refine zm ?_; refine zL ?_)
    all_goals (first | (refine Q11 ?_) | (refine Q14 ?_) | (refine Qn rfl rfl (fun hc => ?_) (fun hc => ?_)))
    all_goals (refine zR3 (c := Q2c (by intro _; decide) hS fd) (h := ?_); rintro v1 w1 ⟨rfl, hS⟩; simp only [List.set_cons_zero, List.set_cons_succ, if_true, Bool.false_eq_true, if_false] at hS; refine zn ?_; exact ⟨zh, zh, by first | (rw [if_pos (by omega)]; exact hS.sp) | (rw [if_neg (by omega)]; exact hS.sp)⟩)
  rintro ρ w1 ⟨hA, hρ, hS⟩; obtain ⟨ρ, rfl⟩ := env2 hA hρ
  all_goals (refine Q0 ?_; refine Q1 ?_; refine zm ?_; refine zL ?_; refine zm ?_; refine zn ?_; refine Qb ?_)
  refine zo [0, 2, 14, 15] (fun A ρ' w' => ∃ (j : Nat) (h : Flt), Has ρ' A ∧ Has ρ' [(16, .int .i64 j)] ∧ (j ≤ l.length) ∧ (orF g (mkF (orC (if 8 < l.length then 2 else 0) (Q2X regs l)) at') = orF h (mkF (Q2X regs (l.drop j)) at')) ∧ St cx w' (jdg b vf h at' :: L.eraseIdx i)) (fun ρ' _ => (l.length - iv (ρ' 16)).toNat) ?_ ?_
  · exact ⟨0, _, zh, zh, (by omega), by rw [List.drop_zero, Q2O], hS.sp⟩
  rintro ρ w1 ⟨j, h, hA, hρ, hj, hd, hS⟩; obtain ⟨ρ, rfl⟩ := env2 hA hρ
  unfold Q3J
  all_goals (refine Q0 ?_; refine Q1 ?_; refine QC rfl rfl ?_; refine zn ?_; refine Q0 ?_)
  refine Qy rfl (fun hc => ?_) (fun hc => ?_)
  · skip
    all_goals (refine zsk ?_; refine Q0 ?_; refine Qb ?_; refine Q0 ?_; refine Q1 ?_; refine zi ?_; intro b1 o1 cs1 x1 hat1 hx1 he1; obtain ⟨vl1, rfl, hl1⟩ := Ql he1; (first | (refine zv hS ?_) | (refine zvk hS ?_)); refine Q8 hS ?_; intro p7 w1 hS; refine zsn hS ?_; intro w1 hS; have hS := hS.ns; refine zn ?_; refine Q0 ?_; refine Q1 ?_; refine zv hS ?_; refine zm ?_; refine zR2 (c := Qoh (by assumption) hS) (h := ?_); rintro v1 w1 ⟨rfl, hS⟩; refine zm ?_; refine zn ?_; refine Q1 ?_; refine zm ?_; refine zm ?_; refine Q4F rfl rfl ?_; refine zm ?_; refine zR3 (c := Q2c (by intro h; exact of_decide_eq_true h) hS fd) (h := ?_); rintro v1 w1 ⟨rfl, hS⟩; simp only [List.set_cons_zero, List.set_cons_succ, fault_if] at hS; refine zn ?_; refine Q1 ?_; refine zad ?_; refine zm ?_; refine zn ?_; exact ⟨⟨j + 1, _, zh, zh, (by omega), by rw [hd, Q7 hx1, Q2X, ← Q2O], hS.sp⟩, Qx (by omega)⟩)
  · skip
    all_goals (refine zex ?_; refine Q1y ?_; refine ⟨_, rfl, rfl, ?_⟩; rw [hd, List.drop_of_length_le (by omega), Q2X, Q1T, QeF rfl]; exact St.back hS hi)
def fltV (g : Flt) : Value := .agg ⟨[.int .i64 g.1, .int .i64 g.2]⟩
theorem rblock_c {m : Module} {f b : Nat} {x : Fun} {y : Block} (hxf : m.funcs[f]? = some x) (hyb : x.blocks[b]? = some y) (hf0 : f ≤ 1000000) (hb0 : b ≤ 1000000) (hlc : y.code.length ≤ 100000) {cs : List Value} (hm : modR.at cx cs m) (hS : St cx w L) :
    Rets Try.prog QW [.agg ⟨cs⟩, .int .i64 f, .int .i64 b] w fun u w' => u = fltV (Qv m.funcs.length f x b y) ∧ St cx w' L := by
  have hm' := hm
  obtain ⟨vf, rfl, hf⟩ := Q29 hm
  have hflt := (List.getElem?_eq_some_iff.1 hxf).1
  have hblt := (List.getElem?_eq_some_iff.1 hyb).1
  all_goals refine QfK ?_
  all_goals (unfold R_blockFault_lc; refine Q0 ?_; refine Q1 ?_; refine zb hS ?_; intro p3 w1 hS; refine Q8 hS ?_; intro p6 w1 hS; refine zn ?_; refine Q0 ?_; refine Q1 ?_; refine Q2 rfl ?_; refine zl hS ?_; refine zm ?_; refine zi ?_; intro b1 o1 cs1 x1 hat1 hx1 he1; obtain ⟨vp1, vr1, vb1, rfl, hp1, hr1, hb1⟩ := Q17 he1; (first | (refine zv hS ?_) | (refine zvk hS ?_)); refine Q8 hS ?_; intro p7 w1 hS; refine zsn hS ?_; intro w1 hS; have hS := hS.ns; refine zn ?_; have e1 : x = x1 := Option.some.inj (hxf.symm.trans hx1); subst e1; refine Q0 ?_; refine Q1 ?_; refine Q2 rfl ?_; refine zl hS ?_; refine zm ?_; refine zi ?_; intro b2 o2 cs2 x2 hat2 hx2 he2; obtain ⟨vp2, vc2, ve21, ve22, ve23, ve24, ve25, rfl, hp2, hc2, he21, he22, he23, he24, he25⟩ := Q2C he2; (first | (refine zv hS ?_) | (refine zvk hS ?_)); refine Q8 hS ?_; intro p8 w1 hS; refine zsn hS ?_; intro w1 hS; have hS := hS.ns; refine zn ?_; have e2 : y = x2 := Option.some.inj (hyb.symm.trans hx2); subst e2; refine Q0 ?_; refine Q0 ?_)
  all_goals (refine Q1 ?_; refine Q2 rfl ?_; refine zl hS ?_; refine Q2 rfl ?_; refine zl hS ?_)
  all_goals (first | (refine Q1Z ?_) | (refine Q20 ?_) | (refine QQ rfl rfl (fun hc => ?_) (fun hc => ?_)))
  all_goals (refine zm ?_; (first | refine s_gn rfl rfl ?_ | (refine s_gy rfl ?_; refine Q2 rfl ?_)); (first | refine s_gn rfl rfl ?_ | (refine s_gy rfl ?_; refine zl hS ?_)))
  all_goals (first | refine s_gn rfl rfl ?_ | (refine s_gy rfl ?_; (first | (refine Q11 ?_) | (refine Q14 ?_) | (refine Qn rfl rfl (fun hc => ?_) (fun hc => ?_)))))
  all_goals ((first | (refine zpt ?_) | (refine zpf ?_)); refine zn ?_)
  all_goals
    first
    | (refine Q5 rfl ?_ -- QW c0
       all_goals (refine Q0 ?_; refine Q1 ?_; refine zm ?_; refine zm ?_; refine zR2 (c := Q48 f b hf0 hb0 hS) (h := ?_); rintro v1 w1 ⟨rfl, hS⟩; refine zR2 (c := rF_c hS) (h := ?_); rintro v1 w1 ⟨rfl, hS⟩; refine zsn hS ?_; intro w1 hS; have hS := hS.ns; refine zn ?_; refine zr ?_; refine Q18 vw (Qc (n := 2) (by kernel_rfl) (by kernel_rfl) (hS.blkAt fd) (by rfl) (by rfl)) ?_)
       all_goals (refine ⟨_, rfl, ?_, hS.sp⟩; rw [Q1J (c := 1) (by unfold Qm; rw [if_pos (by omega)]) (by decide)]; rfl; done))
    | (refine Q6 rfl ?_ -- QW c0
       all_goals refine zsk ?_)
  all_goals (refine Q0 ?_; refine Q0 ?_; refine Q1 ?_; refine Q2 rfl ?_; refine zl hS ?_; refine Q2 rfl ?_; refine zl hS ?_; refine zR2 (c := QmN (by assumption) hS) (h := ?_); rintro v1 w1 ⟨rfl, hS⟩; refine zm ?_; refine zn ?_; refine Q0 ?_; refine Q1 ?_; refine zm ?_)
  all_goals (first | (refine Q1h ?_) | (refine Q1i ?_) | (refine Qw rfl rfl (fun hc => ?_) (fun hc => ?_)))
  all_goals (refine zn ?_)
  all_goals
    first
    | (refine Q5 rfl ?_ -- QW c1
       all_goals (refine Q0 ?_; refine Q1 ?_; refine zm ?_; refine zm ?_; refine zm ?_; refine zR2 (c := Q48 f b hf0 hb0 hS) (h := ?_); rintro v1 w1 ⟨rfl, hS⟩; refine zR2 (c := rF_c hS) (h := ?_); rintro v1 w1 ⟨rfl, hS⟩; refine zsn hS ?_; intro w1 hS; have hS := hS.ns; refine zn ?_; refine zr ?_; refine Q18 vw (Qc (n := 2) (by kernel_rfl) (by kernel_rfl) (hS.blkAt fd) (by rfl) (by rfl)) ?_)
       all_goals (first | (refine ⟨_, rfl, ?_, hS.sp⟩; rw [Q1J (c := 1) (by unfold Qm; rw [if_pos (by omega)]) (by decide)]; rfl; done) | (refine ⟨_, rfl, ?_, hS.sp⟩; rw [Q1J (c := Qr y.params y.regs) (by unfold Qm; rw [if_neg (by omega), if_pos (by assumption)]) (by assumption)]; rfl; done)))
    | (refine Q6 rfl ?_ -- QW c1
       all_goals refine zsk ?_)
  all_goals (refine Q0 ?_; refine Q0 ?_; refine Q1 ?_)
  refine zKL hS 17 [1, 2, 3, 6, 7, 8] (fun A LL ρ' w' => ∃ (q : Bool), Has ρ' A ∧ Has ρ' [(65, .bool q)] ∧ (q = true ↔ (b = 0 ∧ (y.regs ≠ x.regs ∨ y.params ≠ x.params))) ∧ St cx w' (LL)) ?_ ?_
  · skip
    all_goals (refine zm ?_)
    all_goals (first | (refine QD ?_) | (refine QI ?_) | (refine Qu rfl rfl (fun hc => ?_) (fun hc => ?_)))
    all_goals (refine zm ?_; (first | refine s_gn rfl rfl ?_ | (refine s_gy rfl ?_; refine Q2 rfl ?_)); (first | refine s_gn rfl rfl ?_ | (refine s_gy rfl ?_; refine zl hS ?_)); (first | refine s_gn rfl rfl ?_ | (refine s_gy rfl ?_; refine Q2 rfl ?_)); (first | refine s_gn rfl rfl ?_ | (refine s_gy rfl ?_; refine zl hS ?_)))
    all_goals (first | refine s_gn rfl rfl ?_ | (refine s_gy rfl ?_; (first | (refine Q1h ?_) | (refine Q1i ?_) | (refine Qw rfl rfl (fun hc => ?_) (fun hc => ?_)))))
    all_goals ((first | refine s_gn rfl rfl ?_ | (refine s_gy rfl ?_; refine zm ?_)); (first | refine s_gn rfl rfl ?_ | (refine s_gy rfl ?_; refine Q2 rfl ?_)); (first | refine s_gn rfl rfl ?_ | (refine s_gy rfl ?_; refine zl hS ?_)); (first | refine s_gn rfl rfl ?_ | (refine s_gy rfl ?_; refine Q2 rfl ?_)); (first | refine s_gn rfl rfl ?_ | (refine s_gy rfl ?_; refine zl hS ?_)))
    all_goals (first | refine s_gn rfl rfl ?_ | (refine s_gy rfl ?_; refine zR2 (c := rsames_c hp2 hp1 hS) (h := ?_); rintro v1 w1 ⟨rfl, hS⟩; (cases hdec : decide (y.params = x.params)); have hg := of_decide_eq_false hdec; rotate_left; have hg := of_decide_eq_true hdec; all_goals skip))
    all_goals ((first | refine s_gn rfl rfl ?_ | (refine s_gy rfl ?_; refine Q1W rfl ?_)); (first | refine s_gn rfl rfl ?_ | (refine s_gy rfl ?_; (first | (refine zpt ?_) | (refine zpf ?_)))); (first | (refine zpt ?_) | (refine zpf ?_)); refine Q4E ?_; refine Q2b ?_)
    all_goals (first | (exact ⟨_, zh, zh, by exact ⟨fun _ => ⟨by omega, .inl (by assumption)⟩, fun _ => rfl⟩, hS.sp⟩) | (exact ⟨_, zh, zh, by exact ⟨fun _ => ⟨by omega, .inr (by assumption)⟩, fun _ => rfl⟩, hS.sp⟩) | (exact ⟨_, zh, zh, by exact ⟨fun h => Bool.noConfusion h, fun h => absurd h.1 (by omega)⟩, hS.sp⟩) | (exact ⟨_, zh, zh, by exact ⟨fun h => Bool.noConfusion h, fun h => h.2.elim (fun h => absurd h (by assumption)) (fun h => absurd (by assumption) h)⟩, hS.sp⟩))
  rintro ρ w1 ⟨q, hA, hρ, hq, hS⟩; obtain ⟨ρ, rfl⟩ := env2 hA hρ
  all_goals (refine zn ?_)
  all_goals (cases q)
  all_goals
    first
    | (refine Q5 rfl ?_ -- QW c2
       all_goals (refine Q0 ?_; refine Q1 ?_; refine zm ?_; refine zm ?_; refine zR2 (c := Q48 f b hf0 hb0 hS) (h := ?_); rintro v1 w1 ⟨rfl, hS⟩; refine zR2 (c := rF_c hS) (h := ?_); rintro v1 w1 ⟨rfl, hS⟩; refine zsn hS ?_; intro w1 hS; have hS := hS.ns; refine zn ?_; refine zr ?_; refine Q18 vw (Qc (n := 2) (by kernel_rfl) (by kernel_rfl) (hS.blkAt fd) (by rfl) (by rfl)) ?_)
       all_goals (first | (refine ⟨_, rfl, ?_, hS.sp⟩; rw [Q1J (c := 1) (by unfold Qm; rw [if_pos (by omega)]) (by decide)]; rfl; done) | (refine ⟨_, rfl, ?_, hS.sp⟩; rw [Q1J (c := Qr y.params y.regs) (by unfold Qm; rw [if_neg (by omega), if_pos (by assumption)]) (by assumption)]; rfl; done) | (refine ⟨_, rfl, ?_, hS.sp⟩; rw [Q1J (c := 9) (by unfold Qm; rw [if_neg (by omega), if_neg (by omega), if_pos (hq.1 rfl)]) (by decide)]; rfl; done)))
    | (refine Q6 rfl ?_ -- QW c2
       all_goals refine zsk ?_)
  refine zML hS [1, 2, 3, 6, 7, 8] (fun A LL ρ' w' => Has ρ' A ∧ Has ρ' [] ∧ (Qm x b y = 0) ∧ St cx w' (LL)) ?_ ?_
  · skip
    all_goals (refine Q0 ?_; refine Q1 ?_; refine Q2 rfl ?_; refine zl hS ?_; refine zL ?_)
    all_goals (first | (refine Q11 ?_) | (refine Q14 ?_) | (refine Qn rfl rfl (fun hc => ?_) (fun hc => ?_)))
    all_goals (refine zn ?_)
    all_goals
      first
      | (refine Q5 rfl ?_ -- QW c3
         all_goals (refine Q0 ?_; refine Q1 ?_; refine zm ?_; refine zm ?_; refine zR2 (c := Q48 f b hf0 hb0 hS) (h := ?_); rintro v1 w1 ⟨rfl, hS⟩; refine zR2 (c := rF_c hS) (h := ?_); rintro v1 w1 ⟨rfl, hS⟩; refine zsn hS ?_; intro w1 hS; have hS := hS.ns; refine zn ?_; refine zr ?_; refine Q18 vw (Qc (n := 2) (by kernel_rfl) (by kernel_rfl) (hS.blkAt fd) (by rfl) (by rfl)) ?_)
         all_goals (first | (refine ⟨_, rfl, ?_, hS.sp⟩; rw [Q1J (c := 1) (by unfold Qm; rw [if_pos (by omega)]) (by decide)]; rfl; done) | (refine ⟨_, rfl, ?_, hS.sp⟩; rw [Q1J (c := Qr y.params y.regs) (by unfold Qm; rw [if_neg (by omega), if_pos (by assumption)]) (by assumption)]; rfl; done) | (refine ⟨_, rfl, ?_, hS.sp⟩; rw [Q1J (c := 9) (by unfold Qm; rw [if_neg (by omega), if_neg (by omega), if_pos (hq.1 rfl)]) (by decide)]; rfl; done) | (refine ⟨_, rfl, ?_, hS.sp⟩; rw [Q1J (c := 2) (by unfold Qm; rw [if_neg (by omega), if_neg (by omega), if_neg (fun h => Bool.noConfusion (hq.2 h)), if_pos (by omega)]) (by decide)]; rfl; done)))
      | (refine Q6 rfl ?_ -- QW c3
         all_goals refine zsk ?_)
    all_goals (exact ⟨zh, zh, by unfold Qm; rw [if_neg (by omega), if_neg (by omega), if_neg (fun h => Bool.noConfusion (hq.2 h)), if_neg (by omega)], hS.sp⟩)
  rintro ρ w1 ⟨hA, hρ, hh, hS⟩; obtain ⟨ρ, rfl⟩ := env2 hA hρ
  all_goals (refine Q0 ?_; refine Q0 ?_; refine Q1 ?_; refine zm ?_; refine zn ?_; refine Qb ?_)
  refine zoL hS [1, 2, 3, 6, 7, 8] (fun A LL ρ' w' => ∃ (j : Nat), Has ρ' A ∧ Has ρ' [(10, .int .i64 j)] ∧ (j ≤ y.code.length) ∧ (QE m.funcs.length f b 0 y.code = QE m.funcs.length f b j (y.code.drop j)) ∧ St cx w' (LL)) (fun ρ' _ => (y.code.length - iv (ρ' 10)).toNat) ?_ ?_
  · exact ⟨0, zh, zh, (by omega), by simp, hS.sp⟩
  rintro ρ w1 ⟨j, hA, hρ, hj, hd, hS⟩; obtain ⟨ρ, rfl⟩ := env2 hA hρ
  unfold Q50
  all_goals (refine Q0 ?_; refine Q0 ?_; refine Q1 ?_; refine zm ?_; refine Q2 rfl ?_; refine zl hS ?_; refine zL ?_; refine QC rfl rfl ?_; refine zn ?_)
  refine Qy rfl (fun hc => ?_) (fun hc => ?_)
  · skip
    all_goals (refine zsk ?_; refine Q0 ?_; refine Qb ?_; refine Q0 ?_; refine zD [(0, none), (1, none), (2, none), (3, none), (4, none), (5, none), (6, some none), (7, some none)] ?_; have hS := hS.drew; refine zv hS ?_; refine Q2 rfl ?_; refine zl hS ?_; refine zm ?_; refine zi ?_; intro b3 o3 cs3 x3 hat3 hx3 he3; obtain ⟨vr3, va3, rfl, hr3, ha3⟩ := Q1Q he3; (first | (refine zv hS ?_) | (refine zvk hS ?_)); refine zR2 (c := rins_c hm' (by assumption) hS) (h := ?_); rintro v1 w1 ⟨rfl, hS⟩; refine zm ?_; refine zn ?_; refine Q0 ?_; refine Q1 ?_; refine zm ?_)
    all_goals (first | (refine Q1h ?_) | (refine Q1i ?_) | (refine Qw rfl rfl (fun hc => ?_) (fun hc => ?_)))
    all_goals (refine zn ?_)
    all_goals
      first
      | (refine Q5 rfl ?_ -- QW c5
         all_goals (refine Q0 ?_; refine Q1 ?_; refine zm ?_; refine zm ?_; refine zm ?_; refine zm ?_; refine zR3 (c := Qot f b j hf0 hb0 (by omega) hS) (h := ?_); rintro v1 w1 ⟨rfl, hS⟩; refine zR2 (c := rF_c hS) (h := ?_); rintro v1 w1 ⟨rfl, hS⟩; refine zsn hS ?_; intro w1 hS; have hS := hS.ns; refine zn ?_; refine zr ?_; refine Q18 vw (Qc (n := 2) (by kernel_rfl) (by kernel_rfl) (hS.blkAt fd) (by rfl) (by rfl)) ?_)
         all_goals (first | (refine ⟨_, rfl, ?_, hS.sp⟩; rw [Q1J (c := 1) (by unfold Qm; rw [if_pos (by omega)]) (by decide)]; rfl; done) | (refine ⟨_, rfl, ?_, hS.sp⟩; rw [Q1J (c := Qr y.params y.regs) (by unfold Qm; rw [if_neg (by omega), if_pos (by assumption)]) (by assumption)]; rfl; done) | (refine ⟨_, rfl, ?_, hS.sp⟩; rw [Q1J (c := 9) (by unfold Qm; rw [if_neg (by omega), if_neg (by omega), if_pos (hq.1 rfl)]) (by decide)]; rfl; done) | (refine ⟨_, rfl, ?_, hS.sp⟩; rw [Q1J (c := 2) (by unfold Qm; rw [if_neg (by omega), if_neg (by omega), if_neg (fun h => Bool.noConfusion (hq.2 h)), if_pos (by omega)]) (by decide)]; rfl; done) | (refine ⟨_, rfl, ?_, hS.sp⟩; rw [QnK (F := (QP m.funcs.length x3, Q4l f b j)) hh (by rw [hd, Q7 hx3, Q44 (by assumption)]) (by assumption)]; rfl; done)))
      | (refine Q6 rfl ?_ -- QW c5
         all_goals refine zsk ?_)
    all_goals (refine Q1 ?_; refine zm ?_; refine zad ?_; refine zm ?_; refine zn ?_; exact ⟨⟨j + 1, zh, zh, (by omega), by rw [hd, Q7 hx3, Qh8 (by omega)], hS.sp⟩, Qx (by omega)⟩)
  · skip
    all_goals (refine zex ?_; refine Q0 ?_; refine Q0 ?_; refine Q1 ?_; refine zv hS ?_; refine Q2 rfl ?_; refine zv hS ?_; refine zR2 (c := rend_c (e := y.fin) he1 ⟨_, _, _, _, _, rfl, he21, he22, he23, he24, he25⟩ hS) (h := ?_); rintro v1 w1 ⟨rfl, hS⟩; refine zm ?_; refine zn ?_; refine Q0 ?_; refine Q1 ?_; refine zm ?_)
    all_goals (first | (refine Q1h ?_) | (refine Q1i ?_) | (refine Qw rfl rfl (fun hc => ?_) (fun hc => ?_)))
    all_goals (refine zn ?_)
    all_goals
      first
      | (refine Q5 rfl ?_ -- QW c6
         all_goals (refine Q0 ?_; refine Q1 ?_; refine zm ?_; refine zm ?_; refine zm ?_; refine zR2 (c := rEndAt_c f b hf0 hb0 hS) (h := ?_); rintro v1 w1 ⟨rfl, hS⟩; refine zR2 (c := rF_c hS) (h := ?_); rintro v1 w1 ⟨rfl, hS⟩; refine zsn hS ?_; intro w1 hS; have hS := hS.ns; refine zn ?_; refine zr ?_; refine Q18 vw (Qc (n := 2) (by kernel_rfl) (by kernel_rfl) (hS.blkAt fd) (by rfl) (by rfl)) ?_)
         all_goals (first | (refine ⟨_, rfl, ?_, hS.sp⟩; rw [Q1J (c := 1) (by unfold Qm; rw [if_pos (by omega)]) (by decide)]; rfl; done) | (refine ⟨_, rfl, ?_, hS.sp⟩; rw [Q1J (c := Qr y.params y.regs) (by unfold Qm; rw [if_neg (by omega), if_pos (by assumption)]) (by assumption)]; rfl; done) | (refine ⟨_, rfl, ?_, hS.sp⟩; rw [Q1J (c := 9) (by unfold Qm; rw [if_neg (by omega), if_neg (by omega), if_pos (hq.1 rfl)]) (by decide)]; rfl; done) | (refine ⟨_, rfl, ?_, hS.sp⟩; rw [Q1J (c := 2) (by unfold Qm; rw [if_neg (by omega), if_neg (by omega), if_neg (fun h => Bool.noConfusion (hq.2 h)), if_pos (by omega)]) (by decide)]; rfl; done) | (refine ⟨_, rfl, ?_, hS.sp⟩; rw [QnK (F := (QP m.funcs.length x3, Q4l f b j)) hh (by rw [hd, Q7 hx3, Q44 (by assumption)]) (by assumption)]; rfl; done) | (refine ⟨_, rfl, ?_, hS.sp⟩; (rw [bf_end hh (by rw [hd, List.drop_of_length_le (by omega), QE])]; first | (rw [Q5q (by assumption)]; rfl) | (rw [show Q1I x.blocks.length y.fin = 0 by omega, Q1T]; rfl)); done)))
      | (refine Q6 rfl ?_ -- QW c6
         all_goals refine zsk ?_)
    all_goals (refine Q0 ?_; refine Q1 ?_; refine zb0 [_, _] ?_; refine zsn hS ?_; intro w1 hS; have hS := hS.ns; refine zn ?_; refine zr ?_; refine Q18 vw (Qc (n := 2) (by kernel_rfl) (by kernel_rfl) (hS.blkAt fd) (by rfl) (by rfl)) ?_)
    all_goals (first | (refine ⟨_, rfl, ?_, hS.sp⟩; rw [Q1J (c := 1) (by unfold Qm; rw [if_pos (by omega)]) (by decide)]; rfl; done) | (refine ⟨_, rfl, ?_, hS.sp⟩; rw [Q1J (c := Qr y.params y.regs) (by unfold Qm; rw [if_neg (by omega), if_pos (by assumption)]) (by assumption)]; rfl; done) | (refine ⟨_, rfl, ?_, hS.sp⟩; rw [Q1J (c := 9) (by unfold Qm; rw [if_neg (by omega), if_neg (by omega), if_pos (hq.1 rfl)]) (by decide)]; rfl; done) | (refine ⟨_, rfl, ?_, hS.sp⟩; rw [Q1J (c := 2) (by unfold Qm; rw [if_neg (by omega), if_neg (by omega), if_neg (fun h => Bool.noConfusion (hq.2 h)), if_pos (by omega)]) (by decide)]; rfl; done) | (refine ⟨_, rfl, ?_, hS.sp⟩; rw [QnK (F := (QP m.funcs.length x3, Q4l f b j)) hh (by rw [hd, Q7 hx3, Q44 (by assumption)]) (by assumption)]; rfl; done) | (refine ⟨_, rfl, ?_, hS.sp⟩; (rw [bf_end hh (by rw [hd, List.drop_of_length_le (by omega), QE])]; first | (rw [Q5q (by assumption)]; rfl) | (rw [show Q1I x.blocks.length y.fin = 0 by omega, Q1T]; rfl)); done))
theorem rcheck_c {m : Module} (hsh : m.Short) {cs : List Value} (hm : modR.at cx cs m) (hS : St cx w L) :
    Rets Try.prog QN [.agg ⟨cs⟩] w fun u w' => u = fltV m.fault ∧ St cx w' L := by
  have hm' := hm
  obtain ⟨vf, rfl, hf⟩ := Q29 hm
  have hlf := hf.len
  have hsf := hsh.2
  unfold Module.fault
  all_goals refine Qio ?_
  all_goals (unfold R_CodeFault_lc; refine Q0 ?_; refine Q1 ?_; refine zb hS ?_; intro p1 w1 hS; refine Q8 hS ?_; intro p2 w1 hS; refine zn ?_)
  refine zML hS [1, 2] (fun A LL ρ' w' => Has ρ' A ∧ Has ρ' [] ∧ (1 ≤ m.funcs.length ∧ m.funcs.length ≤ 8) ∧ St cx w' (LL)) ?_ ?_
  · skip
    all_goals (refine Q0 ?_; refine Q1 ?_; refine Q2 rfl ?_; refine zl hS ?_; refine zL ?_)
    all_goals (first | (refine Q1Z ?_) | (refine Q20 ?_) | (refine QQ rfl rfl (fun hc => ?_) (fun hc => ?_)))
    all_goals (refine zm ?_; (first | refine s_gn rfl rfl ?_ | (refine s_gy rfl ?_; refine Q2 rfl ?_)); (first | refine s_gn rfl rfl ?_ | (refine s_gy rfl ?_; refine zl hS ?_)); (first | refine s_gn rfl rfl ?_ | (refine s_gy rfl ?_; refine zL ?_)))
    all_goals (first | refine s_gn rfl rfl ?_ | (refine s_gy rfl ?_; (first | (refine Q11 ?_) | (refine Q14 ?_) | (refine Qn rfl rfl (fun hc => ?_) (fun hc => ?_)))))
    all_goals ((first | (refine zpt ?_) | (refine zpf ?_)); refine zn ?_)
    all_goals
      first
      | (refine Q5 rfl ?_ -- QN c0
         all_goals (refine Q0 ?_; refine Q1 ?_; refine zR2 (c := rF_c hS) (h := ?_); rintro v1 w1 ⟨rfl, hS⟩; refine zsn hS ?_; intro w1 hS; have hS := hS.ns; refine zn ?_; refine zr ?_; refine Q18 vw (Qc (n := 2) (by kernel_rfl) (by kernel_rfl) (hS.blkAt fd) (by rfl) (by rfl)) ?_)
         all_goals (refine ⟨_, rfl, ?_, hS.sp⟩; rw [if_pos (by omega), Q3Y (by rw [Q1F]; decide), Q5q (by decide)]; rfl; done))
      | (refine Q6 rfl ?_ -- QN c0
         all_goals refine zsk ?_)
    all_goals (exact ⟨zh, zh, by omega, hS.sp⟩)
  rintro ρ w1 ⟨hA, hρ, hl8, hS⟩; obtain ⟨ρ, rfl⟩ := env2 hA hρ
  all_goals (refine Q0 ?_; refine Q0 ?_; refine Q1 ?_; refine zm ?_; refine zn ?_; refine Qb ?_)
  refine zoL hS [1, 2] (fun A LL ρ' w' => ∃ (f : Nat), Has ρ' A ∧ Has ρ' [(3, .int .i64 f)] ∧ (f ≤ m.funcs.length) ∧ (QR m.funcs.length 0 m.funcs = QR m.funcs.length f (m.funcs.drop f)) ∧ St cx w' (LL)) (fun ρ' _ => (m.funcs.length - iv (ρ' 3)).toNat) ?_ ?_
  · exact ⟨0, zh, zh, (by omega), by simp, hS.sp⟩
  rintro ρ w1 ⟨f, hA, hρ, hj, hd, hS⟩; obtain ⟨ρ, rfl⟩ := env2 hA hρ
  unfold Q6S
  all_goals (refine Q0 ?_; refine Q0 ?_; refine Q1 ?_; refine zm ?_; refine Q2 rfl ?_; refine zl hS ?_; refine zL ?_; refine QC rfl rfl ?_; refine zn ?_)
  refine Qy rfl (fun hc => ?_) (fun hc => ?_)
  · skip
    all_goals (refine zsk ?_; refine Q0 ?_; refine Qb ?_; refine Q0 ?_; refine Q1 ?_; refine Q2 rfl ?_; refine zl hS ?_; refine zm ?_; refine zi ?_; intro b1 o1 cs1 x1 hat1 hx1 he1; obtain ⟨vp1, vr1, vb1, rfl, hp1, hr1, hb1⟩ := Q17 he1; (first | (refine zv hS ?_) | (refine zvk hS ?_)); refine Q8 hS ?_; intro p4 w1 hS; refine zsn hS ?_; intro w1 hS; have hS := hS.ns; refine zn ?_; have hsx := hsf x1 (List.mem_of_getElem? hx1); have hlb := hb1.len; have hlr := hr1.len; refine Q0 ?_; refine Q0 ?_; refine Q1 ?_; refine Q2 rfl ?_; refine zl hS ?_)
    all_goals (first | (refine Q1Z ?_) | (refine Q20 ?_) | (refine QQ rfl rfl (fun hc => ?_) (fun hc => ?_)))
    all_goals (refine zm ?_; (first | refine s_gn rfl rfl ?_ | (refine s_gy rfl ?_; refine Q2 rfl ?_)); (first | refine s_gn rfl rfl ?_ | (refine s_gy rfl ?_; refine zl hS ?_)))
    all_goals (first | refine s_gn rfl rfl ?_ | (refine s_gy rfl ?_; (first | (refine Q11 ?_) | (refine Q14 ?_) | (refine Qn rfl rfl (fun hc => ?_) (fun hc => ?_)))))
    all_goals ((first | (refine zpt ?_) | (refine zpf ?_)); refine zn ?_)
    all_goals
      first
      | (refine Q5 rfl ?_ -- QN c2
         all_goals (refine Q0 ?_; refine Q1 ?_; refine zm ?_; refine zR1 (c := Q5i f (by omega) hS) (h := ?_); rintro v1 w1 ⟨rfl, hS⟩; refine zR2 (c := rF_c hS) (h := ?_); rintro v1 w1 ⟨rfl, hS⟩; refine zsn hS ?_; intro w1 hS; have hS := hS.ns; refine zn ?_; refine zr ?_; refine Q18 vw (Qc (n := 2) (by kernel_rfl) (by kernel_rfl) (hS.blkAt fd) (by rfl) (by rfl)) ?_)
         all_goals (first | (refine ⟨_, rfl, ?_, hS.sp⟩; rw [if_pos (by omega), Q3Y (by rw [Q1F]; decide), Q5q (by decide)]; rfl; done) | (refine ⟨_, rfl, ?_, hS.sp⟩; rw [if_neg (by omega), Q1T, Q1E Qj, hd, Q7 hx1]; rw [Qg (by rw [QX (c := 1) (by unfold Qz; rw [if_pos (by omega)]) (by decide)]; simp), QX (c := 1) (by unfold Qz; rw [if_pos (by omega)]) (by decide)]; rfl; done)))
      | (refine Q6 rfl ?_ -- QN c2
         all_goals refine zsk ?_)
    all_goals (refine Q0 ?_; refine Q0 ?_; refine Q1 ?_; refine Q2 rfl ?_; refine zl hS ?_; refine Q2 rfl ?_; refine zl hS ?_; refine zR2 (c := QmN hp1 hS) (h := ?_); rintro v1 w1 ⟨rfl, hS⟩; refine zm ?_; refine zn ?_; refine Q0 ?_; refine Q1 ?_; refine zm ?_)
    all_goals (first | (refine Q1h ?_) | (refine Q1i ?_) | (refine Qw rfl rfl (fun hc => ?_) (fun hc => ?_)))
    all_goals (refine zn ?_)
    all_goals
      first
      | (refine Q5 rfl ?_ -- QN c3
         all_goals (refine Q0 ?_; refine Q1 ?_; refine zm ?_; refine zm ?_; refine zR1 (c := Q5i f (by omega) hS) (h := ?_); rintro v1 w1 ⟨rfl, hS⟩; refine zR2 (c := rF_c hS) (h := ?_); rintro v1 w1 ⟨rfl, hS⟩; refine zsn hS ?_; intro w1 hS; have hS := hS.ns; refine zn ?_; refine zr ?_; refine Q18 vw (Qc (n := 2) (by kernel_rfl) (by kernel_rfl) (hS.blkAt fd) (by rfl) (by rfl)) ?_)
         all_goals (first | (refine ⟨_, rfl, ?_, hS.sp⟩; rw [if_pos (by omega), Q3Y (by rw [Q1F]; decide), Q5q (by decide)]; rfl; done) | (refine ⟨_, rfl, ?_, hS.sp⟩; rw [if_neg (by omega), Q1T, Q1E Qj, hd, Q7 hx1]; rw [Qg (by rw [QX (c := 1) (by unfold Qz; rw [if_pos (by omega)]) (by decide)]; simp), QX (c := 1) (by unfold Qz; rw [if_pos (by omega)]) (by decide)]; rfl; done) | (refine ⟨_, rfl, ?_, hS.sp⟩; have e := QX (n := m.funcs.length) (f := f) (x := x1) (c := Qr x1.params x1.regs) (by unfold Qz; rw [if_neg (by omega), if_pos (by assumption)]) (by assumption); rw [if_neg (by omega), Q1T, Q1E Qj, hd, Q7 hx1, Qg (by rw [e]; assumption), e]; rfl; done)))
      | (refine Q6 rfl ?_ -- QN c3
         all_goals refine zsk ?_)
    all_goals (refine Q0 ?_; refine Q0 ?_; refine Q1 ?_; refine Q2 rfl ?_; refine zl hS ?_; refine Q2 rfl ?_; refine zl hS ?_; refine zR2 (c := QmN hr1 hS) (h := ?_); rintro v1 w1 ⟨rfl, hS⟩; refine zm ?_; refine zn ?_; refine Q0 ?_; refine Q1 ?_; refine zm ?_)
    all_goals (first | (refine Q1h ?_) | (refine Q1i ?_) | (refine Qw rfl rfl (fun hc => ?_) (fun hc => ?_)))
    all_goals (refine zn ?_)
    all_goals
      first
      | (refine Q5 rfl ?_ -- QN c4
         all_goals (refine Q0 ?_; refine Q1 ?_; refine zm ?_; refine zm ?_; refine zR1 (c := Q5i f (by omega) hS) (h := ?_); rintro v1 w1 ⟨rfl, hS⟩; refine zR2 (c := rF_c hS) (h := ?_); rintro v1 w1 ⟨rfl, hS⟩; refine zsn hS ?_; intro w1 hS; have hS := hS.ns; refine zn ?_; refine zr ?_; refine Q18 vw (Qc (n := 2) (by kernel_rfl) (by kernel_rfl) (hS.blkAt fd) (by rfl) (by rfl)) ?_)
         all_goals (first | (refine ⟨_, rfl, ?_, hS.sp⟩; rw [if_pos (by omega), Q3Y (by rw [Q1F]; decide), Q5q (by decide)]; rfl; done) | (refine ⟨_, rfl, ?_, hS.sp⟩; rw [if_neg (by omega), Q1T, Q1E Qj, hd, Q7 hx1]; rw [Qg (by rw [QX (c := 1) (by unfold Qz; rw [if_pos (by omega)]) (by decide)]; simp), QX (c := 1) (by unfold Qz; rw [if_pos (by omega)]) (by decide)]; rfl; done) | (refine ⟨_, rfl, ?_, hS.sp⟩; have e := QX (n := m.funcs.length) (f := f) (x := x1) (c := Qr x1.params x1.regs) (by unfold Qz; rw [if_neg (by omega), if_pos (by assumption)]) (by assumption); rw [if_neg (by omega), Q1T, Q1E Qj, hd, Q7 hx1, Qg (by rw [e]; assumption), e]; rfl; done) | (refine ⟨_, rfl, ?_, hS.sp⟩; have e := QX (n := m.funcs.length) (f := f) (x := x1) (c := Qr x1.results x1.regs) (by unfold Qz; rw [if_neg (by omega), if_neg (by assumption), if_pos (by assumption)]) (by assumption); rw [if_neg (by omega), Q1T, Q1E Qj, hd, Q7 hx1, Qg (by rw [e]; assumption), e]; rfl; done)))
      | (refine Q6 rfl ?_ -- QN c4
         all_goals refine zsk ?_)
    refine zML hS [1, 2, 3, 4] (fun A LL ρ' w' => Has ρ' A ∧ Has ρ' [] ∧ (¬ (x1.regs < 0 ∨ 6 < x1.regs)) ∧ (¬ Qr x1.params x1.regs ≠ 0) ∧ (¬ Qr x1.results x1.regs ≠ 0) ∧ (¬ (x1.blocks.length < 1 ∨ 12 < x1.blocks.length)) ∧ St cx w' (LL)) ?_ ?_
    · skip
      all_goals (refine Q0 ?_; refine Q1 ?_; refine Q2 rfl ?_; refine zl hS ?_; refine zL ?_)
      all_goals (first | (refine Q1Z ?_) | (refine Q20 ?_) | (refine QQ rfl rfl (fun hc => ?_) (fun hc => ?_)))
      all_goals (refine zm ?_; (first | refine s_gn rfl rfl ?_ | (refine s_gy rfl ?_; refine Q2 rfl ?_)); (first | refine s_gn rfl rfl ?_ | (refine s_gy rfl ?_; refine zl hS ?_)); (first | refine s_gn rfl rfl ?_ | (refine s_gy rfl ?_; refine zL ?_)))
      all_goals (first | refine s_gn rfl rfl ?_ | (refine s_gy rfl ?_; (first | (refine Q11 ?_) | (refine Q14 ?_) | (refine Qn rfl rfl (fun hc => ?_) (fun hc => ?_)))))
      all_goals ((first | (refine zpt ?_) | (refine zpf ?_)); refine zn ?_)
      all_goals
        first
        | (refine Q5 rfl ?_ -- QN c5
           all_goals (refine Q0 ?_; refine Q1 ?_; refine zm ?_; refine zR1 (c := Q5i f (by omega) hS) (h := ?_); rintro v1 w1 ⟨rfl, hS⟩; refine zR2 (c := rF_c hS) (h := ?_); rintro v1 w1 ⟨rfl, hS⟩; refine zsn hS ?_; intro w1 hS; have hS := hS.ns; refine zn ?_; refine zr ?_; refine Q18 vw (Qc (n := 2) (by kernel_rfl) (by kernel_rfl) (hS.blkAt fd) (by rfl) (by rfl)) ?_)
           all_goals (first | (refine ⟨_, rfl, ?_, hS.sp⟩; rw [if_pos (by omega), Q3Y (by rw [Q1F]; decide), Q5q (by decide)]; rfl; done) | (refine ⟨_, rfl, ?_, hS.sp⟩; rw [if_neg (by omega), Q1T, Q1E Qj, hd, Q7 hx1]; rw [Qg (by rw [QX (c := 1) (by unfold Qz; rw [if_pos (by omega)]) (by decide)]; simp), QX (c := 1) (by unfold Qz; rw [if_pos (by omega)]) (by decide)]; rfl; done) | (refine ⟨_, rfl, ?_, hS.sp⟩; have e := QX (n := m.funcs.length) (f := f) (x := x1) (c := Qr x1.params x1.regs) (by unfold Qz; rw [if_neg (by omega), if_pos (by assumption)]) (by assumption); rw [if_neg (by omega), Q1T, Q1E Qj, hd, Q7 hx1, Qg (by rw [e]; assumption), e]; rfl; done) | (refine ⟨_, rfl, ?_, hS.sp⟩; have e := QX (n := m.funcs.length) (f := f) (x := x1) (c := Qr x1.results x1.regs) (by unfold Qz; rw [if_neg (by omega), if_neg (by assumption), if_pos (by assumption)]) (by assumption); rw [if_neg (by omega), Q1T, Q1E Qj, hd, Q7 hx1, Qg (by rw [e]; assumption), e]; rfl; done) | (refine ⟨_, rfl, ?_, hS.sp⟩; have e := QX (n := m.funcs.length) (f := f) (x := x1) (c := 2) (by unfold Qz; rw [if_neg (by omega), if_neg (by assumption), if_neg (by assumption), if_pos (by omega)]) (by decide); rw [if_neg (by omega), Q1T, Q1E Qj, hd, Q7 hx1, Qg (by rw [e]; simp), e]; rfl; done)))
        | (refine Q6 rfl ?_ -- QN c5
           all_goals refine zsk ?_)
      all_goals (exact ⟨zh, zh, by omega, by assumption, by assumption, by omega, hS.sp⟩)
    rintro ρ w1 ⟨hA, hρ, k1, k2, k3, k4, hS⟩; obtain ⟨ρ, rfl⟩ := env2 hA hρ
    refine zML hS [1, 2, 3, 4] (fun A LL ρ' w' => Has ρ' A ∧ Has ρ' [] ∧ (Qz f x1 = 0) ∧ St cx w' (LL)) ?_ ?_
    · skip
      all_goals (refine Q0 ?_; refine Q1 ?_; refine zm ?_)
      all_goals (first | (refine QD ?_) | (refine QI ?_) | (refine Qu rfl rfl (fun hc => ?_) (fun hc => ?_)))
      all_goals (refine zn ?_)
      all_goals
        first
        | (refine Q5 rfl ?_ -- QN c6
           all_goals (refine Q0 ?_; refine Q1 ?_)
           refine zKL hS 9 [1, 2, 3, 4] (fun A LL ρ' w' => ∃ (q : Bool), Has ρ' A ∧ Has ρ' [(90, .bool q)] ∧ (q = true ↔ (x1.regs = 0 ∧ x1.params.length = 0)) ∧ St cx w' (LL)) ?_ ?_
           · skip
             all_goals (refine Q2 rfl ?_; refine zl hS ?_)
             all_goals (first | (refine QD ?_) | (refine QI ?_) | (refine Qu rfl rfl (fun hc => ?_) (fun hc => ?_)))
             all_goals (refine zm ?_; (first | refine s_gn rfl rfl ?_ | (refine s_gy rfl ?_; refine Q2 rfl ?_)); (first | refine s_gn rfl rfl ?_ | (refine s_gy rfl ?_; refine zl hS ?_)); (first | refine s_gn rfl rfl ?_ | (refine s_gy rfl ?_; refine zL ?_)))
             all_goals (first | refine s_gn rfl rfl ?_ | (refine s_gy rfl ?_; (first | (refine QD ?_) | (refine QI ?_) | (refine Qu rfl rfl (fun hc => ?_) (fun hc => ?_)))))
             all_goals ((first | (refine zpt ?_) | (refine zpf ?_)); refine Q4E ?_; refine Q2b ?_)
             all_goals (first | (exact ⟨_, zh, zh, by exact ⟨fun _ => ⟨by omega, by omega⟩, fun _ => rfl⟩, hS.sp⟩) | (exact ⟨_, zh, zh, by exact ⟨fun h => Bool.noConfusion h, fun h => by omega⟩, hS.sp⟩))
           rintro ρ w1 ⟨q, hA, hρ, hq, hS⟩; obtain ⟨ρ, rfl⟩ := env2 hA hρ
           all_goals (refine zm ?_; refine zn ?_; refine Q0 ?_; refine Q0 ?_; refine Q1 ?_; refine zm ?_; refine zn ?_; refine Qb ?_)
           refine zoL hS [1, 2, 3, 4] (fun A LL ρ' w' => ∃ (i : Nat) (q : Bool), Has ρ' A ∧ Has ρ' [(7, .bool q), (8, .int .i64 i)] ∧ (i ≤ x1.results.length) ∧ (q = true ↔ (x1.regs = 0 ∧ x1.params.length = 0 ∧ ∀ t ∈ x1.results.take i, t.kind = 1)) ∧ (f = 0) ∧ St cx w' (LL)) (fun ρ' _ => (x1.results.length - iv (ρ' 8)).toNat) ?_ ?_
           · exact ⟨0, q, zh, zh, (by omega), by rw [hq]; simp, by omega, hS.sp⟩
           rintro ρ w1 ⟨i, q, hA, hρ, hi, hq2, hf0, hS⟩; obtain ⟨ρ, rfl⟩ := env2 hA hρ
           unfold Q5L
           all_goals (refine Q0 ?_; refine Q0 ?_; refine Q1 ?_; refine zm ?_; refine Q2 rfl ?_; refine zl hS ?_; refine zL ?_; refine QC rfl rfl ?_; refine zn ?_)
           refine Qy rfl (fun hc => ?_) (fun hc => ?_)
           · skip
             all_goals (refine zsk ?_; refine Q0 ?_; refine Qb ?_)
             all_goals (cases q)
             all_goals (refine Q1 ?_; refine zm ?_; refine zm ?_; (first | refine s_gn rfl rfl ?_ | (refine s_gy rfl ?_; refine Q2 rfl ?_)); (first | refine s_gn rfl rfl ?_ | (refine s_gy rfl ?_; refine zl hS ?_)); (first | refine s_gn rfl rfl ?_ | (refine s_gy rfl ?_; refine zm ?_)); (first | refine s_gn rfl rfl ?_ | (refine s_gy rfl ?_; refine zi ?_; intro b2 o2 cs2 x2 hat2 hx2 he2; obtain ⟨vl2, rfl, hl2⟩ := Ql he2)); (first | refine s_gn rfl rfl ?_ | (refine s_gy rfl ?_; (first | refine Q2 rfl ?_ | refine Q1A rfl ?_))); (first | refine s_gn rfl rfl ?_ | (refine s_gy rfl ?_; (first | (refine zl hS ?_) | (refine zlk hS ?_)))))
             all_goals (first | refine s_gn rfl rfl ?_ | (refine s_gy rfl ?_; (first | (refine QD ?_) | (refine QI ?_) | (refine Qu rfl rfl (fun hc => ?_) (fun hc => ?_)))))
             all_goals ((first | (refine zpt ?_) | (refine zpf ?_)); refine zm ?_; refine zn ?_; refine Q1 ?_; refine zm ?_; refine zad ?_; refine zm ?_; refine zn ?_)
             all_goals (first | (exact ⟨⟨i + 1, false, zh, zh, (by omega), by exact ⟨fun h => Bool.noConfusion h, fun h => hq2.2 ⟨h.1, h.2.1, fun t ht => h.2.2 t (List.mem_of_mem_take (i := i) (by rw [List.take_take, Nat.min_eq_left (by omega)]; exact ht))⟩⟩, hf0, hS.sp⟩, Qx (by omega)⟩) | (exact ⟨⟨i + 1, true, zh, zh, (by omega), by exact ⟨fun _ => ⟨(hq2.1 rfl).1, (hq2.1 rfl).2.1, Q9Y (hq2.1 rfl).2.2 hx2 (by assumption)⟩, fun _ => rfl⟩, hf0, hS.sp⟩, Qx (by omega)⟩) | (exact ⟨⟨i + 1, false, zh, zh, (by omega), by exact ⟨fun h => Bool.noConfusion h, fun h => absurd (h.2.2 x2 (by rw [Q1B hx2]; simp)) (by assumption)⟩, hf0, hS.sp⟩, Qx (by omega)⟩))
           · skip
             all_goals (refine zex ?_; refine Q0 ?_)
             all_goals (cases q)
             all_goals (refine Q1 ?_; refine zm ?_; refine Q1W rfl ?_; refine zn ?_)
             all_goals
               first
               | (refine Q5 rfl ?_ -- QN c8
                  all_goals (refine Q0 ?_; refine Q1 ?_; refine zm ?_; refine zR1 (c := Q5i f (by omega) hS) (h := ?_); rintro v1 w1 ⟨rfl, hS⟩; refine zR2 (c := rF_c hS) (h := ?_); rintro v1 w1 ⟨rfl, hS⟩; refine zsn hS ?_; intro w1 hS; have hS := hS.ns; refine zn ?_; refine zr ?_; refine Q18 vw (Qc (n := 2) (by kernel_rfl) (by kernel_rfl) (hS.blkAt fd) (by rfl) (by rfl)) ?_)
                  all_goals (first | (refine ⟨_, rfl, ?_, hS.sp⟩; rw [if_pos (by omega), Q3Y (by rw [Q1F]; decide), Q5q (by decide)]; rfl; done) | (refine ⟨_, rfl, ?_, hS.sp⟩; rw [if_neg (by omega), Q1T, Q1E Qj, hd, Q7 hx1]; rw [Qg (by rw [QX (c := 1) (by unfold Qz; rw [if_pos (by omega)]) (by decide)]; simp), QX (c := 1) (by unfold Qz; rw [if_pos (by omega)]) (by decide)]; rfl; done) | (refine ⟨_, rfl, ?_, hS.sp⟩; have e := QX (n := m.funcs.length) (f := f) (x := x1) (c := Qr x1.params x1.regs) (by unfold Qz; rw [if_neg (by omega), if_pos (by assumption)]) (by assumption); rw [if_neg (by omega), Q1T, Q1E Qj, hd, Q7 hx1, Qg (by rw [e]; assumption), e]; rfl; done) | (refine ⟨_, rfl, ?_, hS.sp⟩; have e := QX (n := m.funcs.length) (f := f) (x := x1) (c := Qr x1.results x1.regs) (by unfold Qz; rw [if_neg (by omega), if_neg (by assumption), if_pos (by assumption)]) (by assumption); rw [if_neg (by omega), Q1T, Q1E Qj, hd, Q7 hx1, Qg (by rw [e]; assumption), e]; rfl; done) | (refine ⟨_, rfl, ?_, hS.sp⟩; have e := QX (n := m.funcs.length) (f := f) (x := x1) (c := 2) (by unfold Qz; rw [if_neg (by omega), if_neg (by assumption), if_neg (by assumption), if_pos (by omega)]) (by decide); rw [if_neg (by omega), Q1T, Q1E Qj, hd, Q7 hx1, Qg (by rw [e]; simp), e]; rfl; done) | (refine ⟨_, rfl, ?_, hS.sp⟩; have e := QX (n := m.funcs.length) (f := f) (x := x1) (c := 18) (by unfold Qz; rw [if_neg k1, if_neg k2, if_neg k3, if_neg k4, if_pos]; refine ⟨hf0, ?_⟩; rw [List.take_of_length_le (by omega)] at hq2; refine Classical.byContradiction fun h => ?_; have := hq2.2 ⟨by omega, by omega, fun t ht => Classical.byContradiction fun hk => h (.inr (.inr ⟨t, ht, hk⟩))⟩; cases this) (by decide); rw [if_neg (by omega), Q1T, Q1E Qj, hd, Q7 hx1, Qg (by rw [e]; simp), e]; rfl; done)))
               | (refine Q6 rfl ?_ -- QN c8
                  all_goals refine zsk ?_)
             all_goals (first | (exact ⟨zh, zh, by unfold Qz; rw [if_neg k1, if_neg k2, if_neg k3, if_neg k4, if_neg (fun h => absurd h.1 (by omega))], hS.sp⟩) | (exact ⟨zh, zh, by unfold Qz; rw [if_neg k1, if_neg k2, if_neg k3, if_neg k4, if_neg]; rintro ⟨_, h⟩; obtain ⟨a1, a2, a3⟩ := hq2.1 rfl; rw [List.take_of_length_le (by omega)] at a3; rcases h with h | h | ⟨t, ht, hk⟩ <;> first | (exfalso; omega) | exact hk (a3 t ht), hS.sp⟩)))
        | (refine Q6 rfl ?_ -- QN c6
           all_goals (refine zsk ?_)
           all_goals (exact ⟨zh, zh, by unfold Qz; rw [if_neg k1, if_neg k2, if_neg k3, if_neg k4, if_neg (fun h => absurd h.1 (by omega))], hS.sp⟩))
    rintro ρ w1 ⟨hA, hρ, hh, hS⟩; obtain ⟨ρ, rfl⟩ := env2 hA hρ
    all_goals (refine Q0 ?_; refine Q1 ?_; refine zm ?_; refine zn ?_; refine Qb ?_)
    refine zoL hS [1, 2, 3, 4] (fun A LL ρ' w' => ∃ (b : Nat), Has ρ' A ∧ Has ρ' [(9, .int .i64 b)] ∧ (b ≤ x1.blocks.length) ∧ (Qo m.funcs.length f x1 0 x1.blocks = Qo m.funcs.length f x1 b (x1.blocks.drop b)) ∧ St cx w' (LL)) (fun ρ' _ => (x1.blocks.length - iv (ρ' 9)).toNat) ?_ ?_
    · exact ⟨0, zh, zh, (by omega), by simp, hS.sp⟩
    rintro ρ w1 ⟨b, hA, hρ, hb, hd2, hS⟩; obtain ⟨ρ, rfl⟩ := env2 hA hρ
    unfold Q5K
    all_goals (refine Q0 ?_; refine Q0 ?_; refine Q1 ?_; refine zm ?_; refine Q2 rfl ?_; refine zl hS ?_; refine zL ?_; refine QC rfl rfl ?_; refine zn ?_)
    refine Qy rfl (fun hc => ?_) (fun hc => ?_)
    · skip
      all_goals (refine zsk ?_; refine Q0 ?_; refine Qb ?_; refine Q0 ?_; obtain ⟨y, hy⟩ : ∃ y, x1.blocks[b]? = some y := ⟨_, List.getElem?_eq_getElem (by omega)⟩; have hsy := hsx.2.2.2 y (List.mem_of_getElem? hy); refine Q1 ?_; refine zv hS ?_; refine zm ?_; refine zm ?_; refine zR3 (c := rblock_c hx1 hy (by omega) (by omega) hsy.2.1 hm' hS) (h := ?_); rintro v1 w1 ⟨rfl, hS⟩; unfold fltV; refine Q8 hS ?_; intro p10 w1 hS; refine zsn hS ?_; intro w1 hS; have hS := hS.ns; refine zn ?_; refine Q0 ?_; refine Q1 ?_; refine Q2 rfl ?_; refine zl hS ?_)
      all_goals (first | (refine Q1h ?_) | (refine Q1i ?_) | (refine Qw rfl rfl (fun hc => ?_) (fun hc => ?_)))
      all_goals (refine zn ?_)
      all_goals
        first
        | (refine Q5 rfl ?_ -- QN c10
           all_goals (refine Q0 ?_; refine Q1 ?_; refine zv hS ?_; refine zsn hS ?_; intro w1 hS; have hS := hS.ns; refine zn ?_; refine zr ?_; refine Q18 vw (Qc (n := 2) (by kernel_rfl) (by kernel_rfl) (hS.blkAt fd) (by rfl) (by rfl)) ?_)
           all_goals (first | (refine ⟨_, rfl, ?_, hS.sp⟩; rw [if_pos (by omega), Q3Y (by rw [Q1F]; decide), Q5q (by decide)]; rfl; done) | (refine ⟨_, rfl, ?_, hS.sp⟩; rw [if_neg (by omega), Q1T, Q1E Qj, hd, Q7 hx1]; rw [Qg (by rw [QX (c := 1) (by unfold Qz; rw [if_pos (by omega)]) (by decide)]; simp), QX (c := 1) (by unfold Qz; rw [if_pos (by omega)]) (by decide)]; rfl; done) | (refine ⟨_, rfl, ?_, hS.sp⟩; have e := QX (n := m.funcs.length) (f := f) (x := x1) (c := Qr x1.params x1.regs) (by unfold Qz; rw [if_neg (by omega), if_pos (by assumption)]) (by assumption); rw [if_neg (by omega), Q1T, Q1E Qj, hd, Q7 hx1, Qg (by rw [e]; assumption), e]; rfl; done) | (refine ⟨_, rfl, ?_, hS.sp⟩; have e := QX (n := m.funcs.length) (f := f) (x := x1) (c := Qr x1.results x1.regs) (by unfold Qz; rw [if_neg (by omega), if_neg (by assumption), if_pos (by assumption)]) (by assumption); rw [if_neg (by omega), Q1T, Q1E Qj, hd, Q7 hx1, Qg (by rw [e]; assumption), e]; rfl; done) | (refine ⟨_, rfl, ?_, hS.sp⟩; have e := QX (n := m.funcs.length) (f := f) (x := x1) (c := 2) (by unfold Qz; rw [if_neg (by omega), if_neg (by assumption), if_neg (by assumption), if_pos (by omega)]) (by decide); rw [if_neg (by omega), Q1T, Q1E Qj, hd, Q7 hx1, Qg (by rw [e]; simp), e]; rfl; done) | (refine ⟨_, rfl, ?_, hS.sp⟩; have e := QX (n := m.funcs.length) (f := f) (x := x1) (c := 18) (by unfold Qz; rw [if_neg k1, if_neg k2, if_neg k3, if_neg k4, if_pos]; refine ⟨hf0, ?_⟩; rw [List.take_of_length_le (by omega)] at hq2; refine Classical.byContradiction fun h => ?_; have := hq2.2 ⟨by omega, by omega, fun t ht => Classical.byContradiction fun hk => h (.inr (.inr ⟨t, ht, hk⟩))⟩; cases this) (by decide); rw [if_neg (by omega), Q1T, Q1E Qj, hd, Q7 hx1, Qg (by rw [e]; simp), e]; rfl; done) | (refine ⟨_, rfl, ?_, hS.sp⟩; have e : (Qv m.funcs.length f x1 b y).1 ≠ 0 := (by assumption); have e2 : Q1L m.funcs.length f x1 = Qv m.funcs.length f x1 b y := (by rw [Q9y hh, hd2, Q7 hy, Q4Z e]); rw [if_neg (by omega), Q1T, Q1E Qj, hd, Q7 hx1, Qg (by rw [e2]; exact e), e2]; rfl; done)))
        | (refine Q6 rfl ?_ -- QN c10
           all_goals refine zsk ?_)
      all_goals (refine Q1 ?_; refine zm ?_; refine zad ?_; refine zm ?_; refine zn ?_; exact ⟨⟨b + 1, zh, zh, (by omega), by rw [hd2, Q7 hy, Qd7 (by omega)], hS.sp⟩, Qx (by omega)⟩)
    · skip
      all_goals (refine zex ?_; refine Q1 ?_; refine zm ?_; refine zad ?_; refine zm ?_; refine zn ?_; exact ⟨⟨f + 1, zh, zh, (by omega), by rw [hd, Q7 hx1, QgS]; rw [Q9y hh, hd2, List.drop_of_length_le (by omega)]; rfl, hS.sp⟩, Qx (by omega)⟩)
  · skip
    all_goals (refine zex ?_; refine Q0 ?_; refine Q1 ?_; refine zb0 [_, _] ?_; refine zsn hS ?_; intro w1 hS; have hS := hS.ns; refine zn ?_; refine zr ?_; refine Q18 vw (Qc (n := 2) (by kernel_rfl) (by kernel_rfl) (hS.blkAt fd) (by rfl) (by rfl)) ?_)
    all_goals (first | (refine ⟨_, rfl, ?_, hS.sp⟩; rw [if_pos (by omega), Q3Y (by rw [Q1F]; decide), Q5q (by decide)]; rfl; done) | (refine ⟨_, rfl, ?_, hS.sp⟩; rw [if_neg (by omega), Q1T, Q1E Qj, hd, Q7 hx1]; rw [Qg (by rw [QX (c := 1) (by unfold Qz; rw [if_pos (by omega)]) (by decide)]; simp), QX (c := 1) (by unfold Qz; rw [if_pos (by omega)]) (by decide)]; rfl; done) | (refine ⟨_, rfl, ?_, hS.sp⟩; have e := QX (n := m.funcs.length) (f := f) (x := x1) (c := Qr x1.params x1.regs) (by unfold Qz; rw [if_neg (by omega), if_pos (by assumption)]) (by assumption); rw [if_neg (by omega), Q1T, Q1E Qj, hd, Q7 hx1, Qg (by rw [e]; assumption), e]; rfl; done) | (refine ⟨_, rfl, ?_, hS.sp⟩; have e := QX (n := m.funcs.length) (f := f) (x := x1) (c := Qr x1.results x1.regs) (by unfold Qz; rw [if_neg (by omega), if_neg (by assumption), if_pos (by assumption)]) (by assumption); rw [if_neg (by omega), Q1T, Q1E Qj, hd, Q7 hx1, Qg (by rw [e]; assumption), e]; rfl; done) | (refine ⟨_, rfl, ?_, hS.sp⟩; have e := QX (n := m.funcs.length) (f := f) (x := x1) (c := 2) (by unfold Qz; rw [if_neg (by omega), if_neg (by assumption), if_neg (by assumption), if_pos (by omega)]) (by decide); rw [if_neg (by omega), Q1T, Q1E Qj, hd, Q7 hx1, Qg (by rw [e]; simp), e]; rfl; done) | (refine ⟨_, rfl, ?_, hS.sp⟩; have e := QX (n := m.funcs.length) (f := f) (x := x1) (c := 18) (by unfold Qz; rw [if_neg k1, if_neg k2, if_neg k3, if_neg k4, if_pos]; refine ⟨hf0, ?_⟩; rw [List.take_of_length_le (by omega)] at hq2; refine Classical.byContradiction fun h => ?_; have := hq2.2 ⟨by omega, by omega, fun t ht => Classical.byContradiction fun hk => h (.inr (.inr ⟨t, ht, hk⟩))⟩; cases this) (by decide); rw [if_neg (by omega), Q1T, Q1E Qj, hd, Q7 hx1, Qg (by rw [e]; simp), e]; rfl; done) | (refine ⟨_, rfl, ?_, hS.sp⟩; have e : (Qv m.funcs.length f x1 b y).1 ≠ 0 := (by assumption); have e2 : Q1L m.funcs.length f x1 = Qv m.funcs.length f x1 b y := (by rw [Q9y hh, hd2, Q7 hy, Q4Z e]); rw [if_neg (by omega), Q1T, Q1E Qj, hd, Q7 hx1, Qg (by rw [e2]; exact e), e2]; rfl; done) | (refine ⟨_, rfl, ?_, hS.sp⟩; rw [if_neg (by omega), Q1T, Q1E Qj, hd, List.drop_of_length_le (l := m.funcs) (by omega), QR]; rfl; done))
theorem kindne_c {t : Ty} {cs : List Value} (ht : tyR.at cx cs t) (hS : St cx w L) : Rets Try.prog Q3K [.agg ⟨cs⟩] w fun u w' => u = .bool (decide (t.kind ≠ 1)) ∧ St cx w' L := by
  obtain ⟨v, rfl, hl⟩ := Ql ht
  all_goals refine Qfc ?_
  all_goals (unfold code_Check_1_lc; refine Q0 ?_; refine Q1 ?_; refine zb hS ?_; intro p1 w1 hS; refine zm ?_; refine zn ?_; refine Q0 ?_; refine Q1 ?_; refine Q2 rfl ?_; refine zl hS ?_; refine Q4F rfl rfl ?_; refine zm ?_; refine zn ?_; refine zr ?_; refine zf ?_; refine ⟨_, rfl, ?_, hS.sp⟩; (rfl); done)
theorem pcont_c {l : List Ty} {v : Value} (hl : tyR.sl cx v l) (hS : St cx w L) : Rets Try.prog Q1x [v, .func (.func Q3K) #[] #[]] w fun u w' => ∃ q, u = .bool q ∧ (q = true ↔ ∃ t ∈ l, t.kind ≠ 1) ∧ St cx w' L := by
  have hlen := hl.len
  have hidx : ∀ {w : World} {L : List Res}, St cx w L → Rets Try.prog QL [v, .func (.func Q3K) #[] #[]] w fun u w' => ∃ r : Int, u = .int .i64 r ∧ (0 ≤ r ↔ ∃ t ∈ l, t.kind ≠ 1) ∧ St cx w' L := by
    intro w L hS
    all_goals refine Q2l ?_
    all_goals (unfold slices_IndexFunc_api_Type_api_Type_lc; refine Q0 ?_; refine Q1 ?_; refine zm ?_; refine zn ?_; refine Q0 ?_; refine Q0 ?_; refine Q1 ?_; refine zm ?_; refine zL ?_; refine zm ?_; refine zn ?_; refine Qb ?_)
    refine zoL hS [0, 1, 7] (fun A LL ρ' w' => ∃ (j : Nat), Has ρ' A ∧ Has ρ' [(8, .int .i64 j)] ∧ (j ≤ l.length) ∧ (∀ t ∈ l.take j, t.kind = 1) ∧ St cx w' (LL)) (fun ρ' _ => (l.length - iv (ρ' 8)).toNat) ?_ ?_
    · exact ⟨0, zh, zh, (by omega), by simp, hS.sp⟩
    rintro ρ w1 ⟨j, hA, hρ, hj, hd, hS⟩; obtain ⟨ρ, rfl⟩ := env2 hA hρ
    unfold Q1w
    all_goals (refine Q0 ?_; refine Q1 ?_; refine QC rfl rfl ?_; refine zn ?_; refine Q0 ?_)
    refine Qy rfl (fun hc => ?_) (fun hc => ?_)
    · skip
      all_goals (refine zsk ?_; refine Q0 ?_; refine Qb ?_; refine Q0 ?_; refine Q1 ?_; refine zm ?_; refine zm ?_; refine zn ?_; refine Q0 ?_; refine Q1 ?_; refine zm ?_; refine zm ?_; refine zm ?_; refine zi ?_; intro b1 o1 cs1 x1 hat1 hx1 he1; obtain ⟨vl1, rfl, hl1⟩ := Ql he1; (first | (refine zv hS ?_) | (refine zvk hS ?_)))
      all_goals (refine QpL rfl (by kernel_rfl) (by rfl) (kindne_c he1 hS) ?_; rintro v1 w1 ⟨rfl, hS⟩; (cases hdec : decide (x1.kind ≠ 1)); have hg := of_decide_eq_false hdec; rotate_left; have hg := of_decide_eq_true hdec; all_goals skip)
      all_goals (refine zn ?_)
      all_goals
        first
        | (refine Q5 rfl ?_ -- QL c1
           all_goals (refine Q0 ?_; refine Q1 ?_; refine zm ?_; refine zm ?_; refine zn ?_; refine zr ?_; refine zf ?_)
           all_goals (exact ⟨_, rfl, j, rfl, ⟨fun _ => ⟨x1, List.mem_of_getElem? hx1, hg⟩, fun _ => by omega⟩, hS.sp⟩))
        | (refine Q6 rfl ?_ -- QL c1
           all_goals refine zsk ?_)
      all_goals (refine Q1 ?_; refine zad ?_; refine zm ?_; refine zn ?_; exact ⟨⟨j + 1, zh, zh, (by omega), Q9Y hd hx1 (Classical.not_not.1 hg), hS.sp⟩, Qx (by omega)⟩)
    · skip
      all_goals (refine zex ?_; refine Q0 ?_; refine Q1 ?_; refine zm ?_; refine zn ?_; refine zr ?_; refine zf ?_)
      all_goals (first | (exact ⟨_, rfl, j, rfl, ⟨fun _ => ⟨x1, List.mem_of_getElem? hx1, hg⟩, fun _ => by omega⟩, hS.sp⟩) | (exact ⟨_, rfl, -1, rfl, ⟨fun h => by omega, fun ⟨t, ht, hk⟩ => absurd (QdF hd (by omega) t ht) hk⟩, hS.sp⟩))
  all_goals refine Q23 ?_
  all_goals (unfold slices_ContainsFunc_api_Type_api_Type_lc; refine Q0 ?_; refine Q1 ?_; refine zm ?_; refine zn ?_; refine Q0 ?_; refine Q1 ?_; refine zm ?_; refine zm ?_; refine zR2 (c := hidx hS) (h := ?_); rintro v1 w1 ⟨r, rfl, hr, hS⟩)
  all_goals (first | (refine Q53 ?_) | (refine Q56 ?_) | (refine Q24 rfl rfl (fun hc => ?_) (fun hc => ?_)))
  all_goals (refine zm ?_; refine zn ?_; refine zr ?_; refine zf ?_)
  all_goals (first | (exact ⟨_, rfl, _, rfl, ⟨fun _ => hr.1 (by omega), fun _ => rfl⟩, hS.sp⟩) | (exact ⟨_, rfl, _, rfl, ⟨fun h => Bool.noConfusion h, fun h => by have := hr.2 h; omega⟩, hS.sp⟩))
theorem QqR {g : Flt} {a : Int} {x : Fun} {b : Nat} {y : Block} {q : Bool} (hq : q = true ↔ (b = 0 ∧ (y.regs ≠ x.regs ∨ y.params ≠ x.params))) :
    orF (orF (orF (orF g (mkF (if y.regs < x.regs ∨ 16 < y.regs then 1 else 0) a)) (mkF (Qr y.params y.regs) a)) (mkF (if q = true then 9 else 0) a)) (mkF (if 40 < y.code.length then 2 else 0) a) = orF g (mkF (Qm x b y) a) := by
  rw [Q2O, Q2O, Q2O]
  congr 2
  unfold Qm
  by_cases h0 : y.regs < x.regs ∨ 16 < y.regs
  · rw [if_pos h0, if_pos h0]; simp only [Q5n (show (1 : Int) ≠ 0 by decide)]
  · rw [if_neg h0, if_neg h0, Q54]
    by_cases h : Qr y.params y.regs ≠ 0
    · rw [if_pos h]; simp only [Q5n h]
    · rw [if_neg h, Classical.not_not.1 h, Q54]
      by_cases hb : b = 0 ∧ (y.regs ≠ x.regs ∨ y.params ≠ x.params)
      · rw [if_pos hb, if_pos (hq.2 hb)]; simp only [Q5n (show (9 : Int) ≠ 0 by decide)]
      · rw [if_neg hb, if_neg (fun h => hb (hq.1 h)), Q54]
theorem pblock_c {fs : List Fun} {f b : Nat} {x : Fun} {y : Block} {vf : Value} {g : Flt} {a : Int} {p : Nat} (hxf : fs[f]? = some x) (hyb : x.blocks[b]? = some y) (hf0 : f ≤ 1000000) (hb0 : b ≤ 1000000) (hlc : y.code.length ≤ 100000) (hf : funcR.sl cx vf fs) (hS : St cx w L) (hi : nth L i = some (jdg p vf g a)) :
    Rets Try.prog Q2t [.pointer (some ⟨p, 0, none⟩), .int .i64 f, .int .i64 b] w fun u w' => u = .tuple #[] ∧ ∃ a', St cx w' (L.set i (jdg p vf (orF g (Qv fs.length f x b y)) a')) := by
  have hflt := (List.getElem?_eq_some_iff.1 hxf).1
  have hblt := (List.getElem?_eq_some_iff.1 hyb).1
  have hS := hS.out hi
  all_goals refine Q8p ?_
  all_goals (unfold code_judge_block_lc; refine Q0 ?_; refine Q1 ?_; refine zm ?_; refine QA rfl ?_; refine Q2 rfl ?_; refine Q2 rfl ?_; refine zl hS ?_; refine zm ?_; refine zi ?_; intro b1 o1 cs1 x1 hat1 hx1 he1; obtain ⟨vp1, vr1, vb1, rfl, hp1, hr1, hb1⟩ := Q17 he1; (first | (refine zv hS ?_) | (refine zvk hS ?_)); refine Q8 hS ?_; intro p6 w1 hS; refine zsn hS ?_; intro w1 hS; have hS := hS.ns; refine zn ?_; have e1 : x = x1 := Option.some.inj (hxf.symm.trans hx1); subst e1; refine Q0 ?_; refine Q1 ?_; refine Q2 rfl ?_; refine zl hS ?_; refine zm ?_; refine zi ?_; intro b2 o2 cs2 x2 hat2 hx2 he2; obtain ⟨vp2, vc2, ve21, ve22, ve23, ve24, ve25, rfl, hp2, hc2, he21, he22, he23, he24, he25⟩ := Q2C he2; (first | (refine zv hS ?_) | (refine zvk hS ?_)); refine Q8 hS ?_; intro p7 w1 hS; refine zsn hS ?_; intro w1 hS; have hS := hS.ns; refine zn ?_; have e2 : y = x2 := Option.some.inj (hyb.symm.trans hx2); subst e2)
  refine zM [0, 1, 2, 6, 7] (fun A ρ' w' => Has ρ' A ∧ Has ρ' [] ∧ St cx w' (blk p7 77 [.int .i64 y.regs, vp2, vc2, .int .i64 y.fin.op, .int .i64 y.fin.a, .int .i64 y.fin.yes.block, ve21, ve22, .int .i64 y.fin.no.block, ve23, ve24, ve25] :: blk p6 31 [.int .i64 x.regs, vp1, vr1, vb1] :: jdg p vf g (Q26 f b) :: L.eraseIdx i)) ?_ ?_
  · skip
    all_goals (refine Q1 ?_; refine zm ?_; refine zm ?_; refine zm ?_; refine zR2 (c := Qp9 f b hf0 hb0 hS) (h := ?_); rintro v1 w1 ⟨rfl, hS⟩; refine QA rfl ?_; refine Q2 rfl ?_; refine zst hS ?_; intro w1 hS; have hS := hS.ns; refine zn ?_; exact ⟨zh, zh, hS.sp⟩)
  rintro ρ w1 ⟨hA, hρ, hS⟩; obtain ⟨ρ, rfl⟩ := env2 hA hρ
  refine zM [0, 1, 2, 6, 7] (fun A ρ' w' => Has ρ' A ∧ Has ρ' [] ∧ St cx w' (blk p7 77 [.int .i64 y.regs, vp2, vc2, .int .i64 y.fin.op, .int .i64 y.fin.a, .int .i64 y.fin.yes.block, ve21, ve22, .int .i64 y.fin.no.block, ve23, ve24, ve25] :: blk p6 31 [.int .i64 x.regs, vp1, vr1, vb1] :: jdg p vf (orF g (mkF (if y.regs < x.regs ∨ 16 < y.regs then 1 else 0) (Q26 f b))) (Q26 f b) :: L.eraseIdx i)) ?_ ?_
  · skip
    all_goals (refine Q1 ?_; refine zm ?_; refine Q2 rfl ?_; refine zl hS ?_; refine Q2 rfl ?_; refine zl hS ?_)
    all_goals (first | (refine Q1Z ?_) | (refine Q20 ?_) | (refine QQ rfl rfl (fun hc => ?_) (fun hc => ?_)))
    all_goals (refine zm ?_; (first | refine s_gn rfl rfl ?_ | (refine s_gy rfl ?_; refine Q2 rfl ?_)); (first | refine s_gn rfl rfl ?_ | (refine s_gy rfl ?_; refine zl hS ?_)))
    all_goals (first | refine s_gn rfl rfl ?_ | (refine s_gy rfl ?_; (first | (refine Q11 ?_) | (refine Q14 ?_) | (refine Qn rfl rfl (fun hc => ?_) (fun hc => ?_)))))
    all_goals ((first | (refine zpt ?_) | (refine zpf ?_)); refine zR3 (c := Q2c (g := _) (by intro _; decide) hS fd) (h := ?_); rintro v1 w1 ⟨rfl, hS⟩; simp only [List.set_cons_zero, List.set_cons_succ, if_true, Bool.false_eq_true, if_false] at hS; refine zn ?_; exact ⟨zh, zh, by first | (rw [if_pos (by omega)]; exact hS.sp) | (rw [if_neg (by omega)]; exact hS.sp)⟩)
  rintro ρ w1 ⟨hA, hρ, hS⟩; obtain ⟨ρ, rfl⟩ := env2 hA hρ
  all_goals (refine Q0 ?_; refine Q1 ?_; refine zm ?_; refine Q2 rfl ?_; refine zl hS ?_; refine Q2 rfl ?_; refine zl hS ?_; refine zR3 (c := QmR hp2 hS fd) (h := ?_); rintro v1 w1 ⟨rfl, hS⟩; have hS := hS.ns; refine zn ?_; refine Q0 ?_; refine Q1 ?_)
  refine zKL hS 18 [0, 1, 2, 6, 7] (fun A LL ρ' w' => ∃ (q : Bool), Has ρ' A ∧ Has ρ' [(46, .pointer (some ⟨p, 0, none⟩)), (63, .bool q)] ∧ (q = true ↔ (b = 0 ∧ (y.regs ≠ x.regs ∨ y.params ≠ x.params))) ∧ St cx w' (LL)) ?_ ?_
  · skip
    all_goals (refine zm ?_; refine zm ?_)
    all_goals (first | (refine QD ?_) | (refine QI ?_) | (refine Qu rfl rfl (fun hc => ?_) (fun hc => ?_)))
    all_goals (refine zm ?_; (first | refine s_gn rfl rfl ?_ | (refine s_gy rfl ?_; refine Q2 rfl ?_)); (first | refine s_gn rfl rfl ?_ | (refine s_gy rfl ?_; refine zl hS ?_)); (first | refine s_gn rfl rfl ?_ | (refine s_gy rfl ?_; refine Q2 rfl ?_)); (first | refine s_gn rfl rfl ?_ | (refine s_gy rfl ?_; refine zl hS ?_)))
    all_goals (first | refine s_gn rfl rfl ?_ | (refine s_gy rfl ?_; (first | (refine Q1h ?_) | (refine Q1i ?_) | (refine Qw rfl rfl (fun hc => ?_) (fun hc => ?_)))))
    all_goals ((first | refine s_gn rfl rfl ?_ | (refine s_gy rfl ?_; refine zm ?_)); (first | refine s_gn rfl rfl ?_ | (refine s_gy rfl ?_; refine Q2 rfl ?_)); (first | refine s_gn rfl rfl ?_ | (refine s_gy rfl ?_; refine zl hS ?_)); (first | refine s_gn rfl rfl ?_ | (refine s_gy rfl ?_; refine Q2 rfl ?_)); (first | refine s_gn rfl rfl ?_ | (refine s_gy rfl ?_; refine zl hS ?_)))
    all_goals (first | refine s_gn rfl rfl ?_ | (refine s_gy rfl ?_; refine zR3 (c := eqfT_c (by kernel_rfl) (fun a _ b _ {_ _ _ _} h1 h2 h3 => QeE a b h1 h2 h3) hp2 hp1 hS) (h := ?_); rintro v1 w1 ⟨rfl, hS⟩; (cases hdec : decide (y.params = x.params)); have hg := of_decide_eq_false hdec; rotate_left; have hg := of_decide_eq_true hdec; all_goals skip))
    all_goals ((first | refine s_gn rfl rfl ?_ | (refine s_gy rfl ?_; refine Q1W rfl ?_)); (first | refine s_gn rfl rfl ?_ | (refine s_gy rfl ?_; (first | (refine zpt ?_) | (refine zpf ?_)))); (first | (refine zpt ?_) | (refine zpf ?_)); refine Q4E ?_; refine Q2b ?_)
    all_goals (first | (exact ⟨_, zh, zh, by exact ⟨fun _ => ⟨by omega, .inl (by assumption)⟩, fun _ => rfl⟩, hS.sp⟩) | (exact ⟨_, zh, zh, by exact ⟨fun _ => ⟨by omega, .inr (by assumption)⟩, fun _ => rfl⟩, hS.sp⟩) | (exact ⟨_, zh, zh, by exact ⟨fun h => Bool.noConfusion h, fun h => absurd h.1 (by omega)⟩, hS.sp⟩) | (exact ⟨_, zh, zh, by exact ⟨fun h => Bool.noConfusion h, fun h => h.2.elim (fun h => absurd h (by assumption)) (fun h => absurd (by assumption) h)⟩, hS.sp⟩))
  rintro ρ w1 ⟨q, hA, hρ, hq, hS⟩; obtain ⟨ρ, rfl⟩ := env2 hA hρ
  all_goals (refine zR3 (c := Q2c (g := _) (by intro _; decide) hS fd) (h := ?_); rintro v1 w1 ⟨rfl, hS⟩; simp only [List.set_cons_zero, List.set_cons_succ, if_true, Bool.false_eq_true, if_false] at hS; refine zn ?_)
  refine zM [0, 1, 2, 6, 7] (fun A ρ' w' => Has ρ' A ∧ Has ρ' [] ∧ St cx w' (blk p7 77 [.int .i64 y.regs, vp2, vc2, .int .i64 y.fin.op, .int .i64 y.fin.a, .int .i64 y.fin.yes.block, ve21, ve22, .int .i64 y.fin.no.block, ve23, ve24, ve25] :: blk p6 31 [.int .i64 x.regs, vp1, vr1, vb1] :: jdg p vf (orF g (mkF (Qm x b y) (Q26 f b))) (Q26 f b) :: L.eraseIdx i)) ?_ ?_
  · skip
    all_goals (refine Q1 ?_; refine zm ?_; refine Q2 rfl ?_; refine zl hS ?_; refine zL ?_)
    all_goals (first | (refine Q11 ?_) | (refine Q14 ?_) | (refine Qn rfl rfl (fun hc => ?_) (fun hc => ?_)))
    all_goals (refine zR3 (c := Q2c (g := _) (by intro _; decide) hS fd) (h := ?_); rintro v1 w1 ⟨rfl, hS⟩; simp only [List.set_cons_zero, List.set_cons_succ, if_true, Bool.false_eq_true, if_false] at hS; refine zn ?_; exact ⟨zh, zh, by rw [← QqR hq]; first | (rw [if_pos (c := 40 < y.code.length) (by omega)]; exact hS.sp) | (rw [if_neg (c := 40 < y.code.length) (by omega)]; exact hS.sp)⟩)
  rintro ρ w1 ⟨hA, hρ, hS⟩; obtain ⟨ρ, rfl⟩ := env2 hA hρ
  all_goals (refine Q0 ?_; refine Q0 ?_; refine Q1 ?_; refine zm ?_; refine zn ?_; refine Qb ?_)
  refine zo [0, 1, 2, 6, 7] (fun A ρ' w' => ∃ (j : Nat) (h : Flt) (at2 : Int), Has ρ' A ∧ Has ρ' [(8, .int .i64 j)] ∧ (j ≤ y.code.length) ∧ (orF (orF g (mkF (Qm x b y) (Q26 f b))) (QE fs.length f b 0 y.code) = orF h (QE fs.length f b j (y.code.drop j))) ∧ St cx w' (blk p7 77 [.int .i64 y.regs, vp2, vc2, .int .i64 y.fin.op, .int .i64 y.fin.a, .int .i64 y.fin.yes.block, ve21, ve22, .int .i64 y.fin.no.block, ve23, ve24, ve25] :: blk p6 31 [.int .i64 x.regs, vp1, vr1, vb1] :: jdg p vf h at2 :: L.eraseIdx i)) (fun ρ' _ => (y.code.length - iv (ρ' 8)).toNat) ?_ ?_
  · exact ⟨0, _, _, zh, zh, (by omega), by rw [List.drop_zero], hS.sp⟩
  rintro ρ w1 ⟨j, h, at2, hA, hρ, hj, hd, hS⟩; obtain ⟨ρ, rfl⟩ := env2 hA hρ
  unfold Q3z
  all_goals (refine Q0 ?_; refine Q0 ?_; refine Q1 ?_; refine zm ?_; refine Q2 rfl ?_; refine zl hS ?_; refine zL ?_)
  all_goals (first | (refine Q1Z ?_) | (refine Q20 ?_) | (refine QQ rfl rfl (fun hc => ?_) (fun hc => ?_)))
  all_goals (refine zm ?_; (first | refine s_gn rfl rfl ?_ | (refine s_gy rfl ?_; refine zm ?_)); (first | refine s_gn rfl rfl ?_ | (refine s_gy rfl ?_; refine QA rfl ?_)); (first | refine s_gn rfl rfl ?_ | (refine s_gy rfl ?_; refine Q2 rfl ?_)); (first | refine s_gn rfl rfl ?_ | (refine s_gy rfl ?_; (first | refine Q2 rfl ?_ | refine Q1A rfl ?_))); (first | refine s_gn rfl rfl ?_ | (refine s_gy rfl ?_; refine zl hS ?_)))
  all_goals (first | refine s_gn rfl rfl ?_ | (refine s_gy rfl ?_; (first | (refine QD ?_) | (refine QI ?_) | (refine Qu rfl rfl (fun hc => ?_) (fun hc => ?_)))))
  all_goals ((first | (refine zpt ?_) | (refine zpf ?_)); refine zn ?_)
  all_goals
    first
    | (refine Q5 rfl ?_ -- Q2t c0
       all_goals (refine zsk ?_; refine Q0 ?_; refine Qb ?_; refine Q0 ?_; refine Q1 ?_; refine zm ?_; refine zm ?_; refine zm ?_; refine zm ?_; refine zR3 (c := Qox f b j hf0 hb0 (by omega) hS) (h := ?_); rintro v1 w1 ⟨rfl, hS⟩; refine QA rfl ?_; refine Q2 rfl ?_; refine zst hS ?_; intro w1 hS; have hS := hS.ns; refine zn ?_; have hS : St cx _ (blk p7 77 [.int .i64 y.regs, vp2, vc2, .int .i64 y.fin.op, .int .i64 y.fin.a, .int .i64 y.fin.yes.block, ve21, ve22, .int .i64 y.fin.no.block, ve23, ve24, ve25] :: blk p6 31 [.int .i64 x.regs, vp1, vr1, vb1] :: jdg p vf h (Q4l f b j) :: L.eraseIdx i) := hS; refine Q1 ?_; refine zm ?_; refine Q2 rfl ?_; refine zl hS ?_; refine zm ?_; refine zi ?_; intro b3 o3 cs3 x3 hat3 hx3 he3; obtain ⟨vr3, va3, rfl, hr3, ha3⟩ := Q1Q he3; (first | (refine zv hS ?_) | (refine zvk hS ?_)); refine zR2 (c := ins_c he3 hf hS fd) (h := ?_); rintro v1 w1 ⟨rfl, hS⟩; have hS := hS.ns; refine zn ?_; refine Q1 ?_; refine zm ?_; refine zad ?_; refine zm ?_; refine zn ?_)
       all_goals (exact ⟨⟨j + 1, _, _, zh, zh, (by omega), by rw [hd, Q7 hx3, QE, Q3o], hS.sp⟩, Qx (by omega)⟩))
    | (refine Q6 rfl ?_ -- Q2t c0
       all_goals (refine zex ?_; (first | (rw [List.drop_of_length_le (by omega), QE, QeF (b := (0, 0)) rfl] at hd) | (rw [Q3Y (a := h) (by assumption)] at hd)); refine Q0 ?_; refine Q1 ?_; refine zm ?_; refine zm ?_; refine zm ?_; refine zR2 (c := Qoy f b hf0 hb0 hS) (h := ?_); rintro v1 w1 ⟨rfl, hS⟩; refine QA rfl ?_; refine Q2 rfl ?_; refine zst hS ?_; intro w1 hS; have hS := hS.ns; refine zn ?_; have hS : St cx _ (blk p7 77 [.int .i64 y.regs, vp2, vc2, .int .i64 y.fin.op, .int .i64 y.fin.a, .int .i64 y.fin.yes.block, ve21, ve22, .int .i64 y.fin.no.block, ve23, ve24, ve25] :: blk p6 31 [.int .i64 x.regs, vp1, vr1, vb1] :: jdg p vf h (Q6G f b) :: L.eraseIdx i) := hS; refine Q1 ?_; refine zm ?_; refine zv hS ?_; refine Q2 rfl ?_; refine zv hS ?_; refine zR3 (c := end_c (e := y.fin) he1 ⟨_, _, _, _, _, rfl, he21, he22, he23, he24, he25⟩ hS fd) (h := ?_); rintro v1 w1 ⟨rfl, hS⟩; have hS := hS.ns; refine zn ?_)
       all_goals (refine Q1y ?_; refine ⟨_, rfl, rfl, Q6G f b, ?_⟩; have hS := hS.drop.drop; rw [show orF g (Qv fs.length f x b y) = orF h (mkF (Q1I x.blocks.length y.fin) (Q6G f b)) from (by unfold Qv; rw [← Q3o, ← Q3o, hd])]; exact St.back hS hi))
theorem QqH {g : Flt} {a : Int} {x : Fun} {f : Nat} {q : Bool} (hq : q = true ↔ (f = 0 ∧ (0 < x.regs ∨ 0 < x.params.length ∨ ∃ t ∈ x.results, t.kind ≠ 1))) :
    orF (orF (orF (orF (orF g (mkF (if x.regs < 0 ∨ 6 < x.regs then 1 else 0) a)) (mkF (Qr x.params x.regs) a)) (mkF (Qr x.results x.regs) a)) (mkF (if x.blocks.length < 1 ∨ 12 < x.blocks.length then 2 else 0) a)) (mkF (if q = true then 18 else 0) a) = orF g (mkF (Qz f x) a) := by
  rw [Q2O, Q2O, Q2O, Q2O]
  congr 2
  unfold Qz
  by_cases h0 : x.regs < 0 ∨ 6 < x.regs
  · rw [if_pos h0, if_pos h0]; simp only [Q5n (show (1 : Int) ≠ 0 by decide)]
  · rw [if_neg h0, if_neg h0, Q54]
    by_cases h : Qr x.params x.regs ≠ 0
    · rw [if_pos h]; simp only [Q5n h]
    · rw [if_neg h, Classical.not_not.1 h, Q54]
      by_cases h1 : Qr x.results x.regs ≠ 0
      · rw [if_pos h1]; simp only [Q5n h1]
      · rw [if_neg h1, Classical.not_not.1 h1, Q54]
        by_cases h2 : x.blocks.length < 1 ∨ 12 < x.blocks.length
        · rw [if_pos h2, if_pos h2]; simp only [Q5n (show (2 : Int) ≠ 0 by decide)]
        · rw [if_neg h2, if_neg h2, Q54]
          by_cases hb : f = 0 ∧ (0 < x.regs ∨ 0 < x.params.length ∨ ∃ t ∈ x.results, t.kind ≠ 1)
          · rw [if_pos hb, if_pos (hq.2 hb)]
          · rw [if_neg hb, if_neg (fun h => hb (hq.1 h))]
theorem Qow {m : Module} (hsh : m.Short) {cs : List Value} (hm : modR.at cx cs m) (hS : St cx w L) :
    Rets Try.prog Q3h [.agg ⟨cs⟩] w fun u w' => u = fltV m.fault ∧ St cx w' L := by
  obtain ⟨vf, rfl, hf⟩ := Q29 hm
  have hsl := hsh.1
  have hsf := hsh.2
  obtain ⟨a0, n0, rfl⟩ := Rep.SR.shape hf
  generalize hvf : Value.slice a0 m.funcs.length n0 = vf at *
  all_goals refine QjK ?_
  all_goals (unfold code_Check_lc; refine Q0 ?_; refine Q1 ?_; refine zb hS ?_; intro p1 w1 hS; refine Q8 hS ?_; intro p2 w1 hS; refine zn ?_; refine Q0 ?_; refine Q1 ?_; refine zv hS ?_; refine Qoo (cs := [vf, .int .i64 0, .int .i64 0, .int .i64 (-1)]) vw vw (by subst hvf; rfl) ?_; refine zb hS ?_; intro p9 w1 hS; refine zm ?_; refine zn ?_)
  refine zM [1, 2, 3] (fun A ρ' w' => Has ρ' A ∧ Has ρ' [] ∧ St cx w' (jdg p9 vf (mkF (if m.funcs.length < 1 ∨ 8 < m.funcs.length then 2 else 0) (-1)) (-1) :: blk p2 47 [.int .i64 0, .int .i64 0] :: blk p1 24 [vf] :: L)) ?_ ?_
  · skip
    all_goals (have hS : St cx _ (jdg p9 vf (0, 0) (-1) :: blk p2 47 [.int .i64 0, .int .i64 0] :: blk p1 24 [vf] :: L) := hS; refine Q1 ?_; refine zm ?_; refine Q2 rfl ?_; refine zl hS ?_; refine zL ?_)
    all_goals (first | (refine QD ?_) | (refine QI ?_) | (refine Qu rfl rfl (fun hc => ?_) (fun hc => ?_)))
    all_goals (refine zm ?_; (first | refine s_gn rfl rfl ?_ | (refine s_gy rfl ?_; refine Q2 rfl ?_)); (first | refine s_gn rfl rfl ?_ | (refine s_gy rfl ?_; refine zl hS ?_)); (first | refine s_gn rfl rfl ?_ | (refine s_gy rfl ?_; refine zL ?_)))
    all_goals (first | refine s_gn rfl rfl ?_ | (refine s_gy rfl ?_; (first | (refine Q11 ?_) | (refine Q14 ?_) | (refine Qn rfl rfl (fun hc => ?_) (fun hc => ?_)))))
    all_goals ((first | (refine zpt ?_) | (refine zpf ?_)); refine zR3 (c := Q2c (g := _) (by intro _; decide) hS fd) (h := ?_); rintro v1 w1 ⟨rfl, hS⟩; simp only [List.set_cons_zero, List.set_cons_succ, if_true, Bool.false_eq_true, if_false] at hS; refine zn ?_; exact ⟨zh, zh, by rw [Q1E (Qao _ _)] at hS; first | (rw [if_pos (by omega)]; exact hS.sp) | (rw [if_neg (by omega)]; exact hS.sp)⟩)
  rintro ρ w1 ⟨hA, hρ, hS⟩; obtain ⟨ρ, rfl⟩ := env2 hA hρ
  all_goals (refine Q0 ?_; refine Q0 ?_; refine Q1 ?_; refine zm ?_; refine zn ?_; refine Qb ?_)
  refine zo [1, 2, 3] (fun A ρ' w' => ∃ (f : Nat) (h : Flt) (a : Int), Has ρ' A ∧ Has ρ' [(4, .int .i64 f)] ∧ (f ≤ m.funcs.length) ∧ (m.fault = orF h (QR m.funcs.length f (m.funcs.drop f))) ∧ St cx w' (jdg p9 vf h a :: blk p2 47 [.int .i64 0, .int .i64 0] :: blk p1 24 [vf] :: L)) (fun ρ' _ => (m.funcs.length - iv (ρ' 4)).toNat) ?_ ?_
  · exact ⟨0, _, _, zh, zh, (by omega), by rw [List.drop_zero]; rfl, hS.sp⟩
  rintro ρ w1 ⟨f, h, a, hA, hρ, hj, hd, hS⟩; obtain ⟨ρ, rfl⟩ := env2 hA hρ
  unfold Q9S
  all_goals (refine Q0 ?_; refine Q0 ?_; refine Q1 ?_; refine zm ?_; refine Q2 rfl ?_; refine zl hS ?_; refine zL ?_)
  all_goals (first | (refine Q1Z ?_) | (refine Q20 ?_) | (refine QQ rfl rfl (fun hc => ?_) (fun hc => ?_)))
  all_goals (refine zm ?_; (first | refine s_gn rfl rfl ?_ | (refine s_gy rfl ?_; refine zm ?_)); (first | refine s_gn rfl rfl ?_ | (refine s_gy rfl ?_; refine QA rfl ?_)); (first | refine s_gn rfl rfl ?_ | (refine s_gy rfl ?_; refine Q2 rfl ?_)); (first | refine s_gn rfl rfl ?_ | (refine s_gy rfl ?_; (first | refine Q2 rfl ?_ | refine Q1A rfl ?_))); (first | refine s_gn rfl rfl ?_ | (refine s_gy rfl ?_; refine zl hS ?_)))
  all_goals (first | refine s_gn rfl rfl ?_ | (refine s_gy rfl ?_; (first | (refine QD ?_) | (refine QI ?_) | (refine Qu rfl rfl (fun hc => ?_) (fun hc => ?_)))))
  all_goals ((first | (refine zpt ?_) | (refine zpf ?_)); refine zn ?_)
  all_goals
    first
    | (refine Q5 rfl ?_ -- Q3h c0
       all_goals (refine zsk ?_; refine Q0 ?_; refine Qb ?_; refine Q0 ?_; refine Q1 ?_; refine Q2 rfl ?_; refine zl hS ?_; refine zm ?_; refine zi ?_; intro b1 o1 cs1 x1 hat1 hx1 he1; obtain ⟨vp1, vr1, vb1, rfl, hp1, hr1, hb1⟩ := Q17 he1; (first | (refine zv hS ?_) | (refine zvk hS ?_)); refine Q8 hS ?_; intro p5 w1 hS; refine zsn hS ?_; intro w1 hS; have hS := hS.ns; refine zn ?_; have hsx := hsf x1 (List.mem_of_getElem? hx1); have hlb := hsx.2.2.1; have hlp := hp1.len; have hlr := hr1.len; refine Q0 ?_; refine Q1 ?_; refine zm ?_; refine zm ?_; refine zR1 (c := Qqd f (by omega) hS) (h := ?_); rintro v1 w1 ⟨rfl, hS⟩; refine QA rfl ?_; refine Q2 rfl ?_; refine zst hS ?_; intro w1 hS; have hS := hS.ns; refine zn ?_)
       refine zM [1, 2, 3, 4, 5] (fun A ρ' w' => Has ρ' A ∧ Has ρ' [] ∧ St cx w' (blk p5 31 [.int .i64 x1.regs, vp1, vr1, vb1] :: jdg p9 vf (orF h (mkF (if x1.regs < 0 ∨ 6 < x1.regs then 1 else 0) (Q2W f))) (Q2W f) :: blk p2 47 [.int .i64 0, .int .i64 0] :: blk p1 24 [vf] :: L)) ?_ ?_
       · skip
         all_goals (have hS : St cx _ (blk p5 31 [.int .i64 x1.regs, vp1, vr1, vb1] :: jdg p9 vf h (Q2W f) :: blk p2 47 [.int .i64 0, .int .i64 0] :: blk p1 24 [vf] :: L) := hS; refine Q1 ?_; refine zm ?_; refine Q2 rfl ?_; refine zl hS ?_)
         all_goals (first | (refine Q1Z ?_) | (refine Q20 ?_) | (refine QQ rfl rfl (fun hc => ?_) (fun hc => ?_)))
         all_goals (refine zm ?_; (first | refine s_gn rfl rfl ?_ | (refine s_gy rfl ?_; refine Q2 rfl ?_)); (first | refine s_gn rfl rfl ?_ | (refine s_gy rfl ?_; refine zl hS ?_)))
         all_goals (first | refine s_gn rfl rfl ?_ | (refine s_gy rfl ?_; (first | (refine Q11 ?_) | (refine Q14 ?_) | (refine Qn rfl rfl (fun hc => ?_) (fun hc => ?_)))))
         all_goals ((first | (refine zpt ?_) | (refine zpf ?_)); refine zR3 (c := Q2c (g := _) (by intro _; decide) hS fd) (h := ?_); rintro v1 w1 ⟨rfl, hS⟩; simp only [List.set_cons_zero, List.set_cons_succ, if_true, Bool.false_eq_true, if_false] at hS; refine zn ?_; exact ⟨zh, zh, by first | (rw [if_pos (by omega)]; exact hS.sp) | (rw [if_neg (by omega)]; exact hS.sp)⟩)
       rintro ρ w1 ⟨hA, hρ, hS⟩; obtain ⟨ρ, rfl⟩ := env2 hA hρ
       all_goals (refine Q0 ?_; refine Q1 ?_; refine zm ?_; refine Q2 rfl ?_; refine zl hS ?_; refine Q2 rfl ?_; refine zl hS ?_; refine zR3 (c := QmR hp1 hS fd) (h := ?_); rintro v1 w1 ⟨rfl, hS⟩; have hS := hS.ns; refine zn ?_; refine Q0 ?_; refine Q1 ?_; refine zm ?_; refine Q2 rfl ?_; refine zl hS ?_; refine Q2 rfl ?_; refine zl hS ?_; refine zR3 (c := QmR hr1 hS fd) (h := ?_); rintro v1 w1 ⟨rfl, hS⟩; have hS := hS.ns; refine zn ?_)
       refine zM [1, 2, 3, 4, 5] (fun A ρ' w' => Has ρ' A ∧ Has ρ' [] ∧ St cx w' (blk p5 31 [.int .i64 x1.regs, vp1, vr1, vb1] :: jdg p9 vf (orF (orF (orF (orF h (mkF (if x1.regs < 0 ∨ 6 < x1.regs then 1 else 0) (Q2W f))) (mkF (Qr x1.params x1.regs) (Q2W f))) (mkF (Qr x1.results x1.regs) (Q2W f))) (mkF (if x1.blocks.length < 1 ∨ 12 < x1.blocks.length then 2 else 0) (Q2W f))) (Q2W f) :: blk p2 47 [.int .i64 0, .int .i64 0] :: blk p1 24 [vf] :: L)) ?_ ?_
       · skip
         all_goals (refine Q1 ?_; refine zm ?_; refine Q2 rfl ?_; refine zl hS ?_; refine zL ?_)
         all_goals (first | (refine QD ?_) | (refine QI ?_) | (refine Qu rfl rfl (fun hc => ?_) (fun hc => ?_)))
         all_goals (refine zm ?_; (first | refine s_gn rfl rfl ?_ | (refine s_gy rfl ?_; refine Q2 rfl ?_)); (first | refine s_gn rfl rfl ?_ | (refine s_gy rfl ?_; refine zl hS ?_)); (first | refine s_gn rfl rfl ?_ | (refine s_gy rfl ?_; refine zL ?_)))
         all_goals (first | refine s_gn rfl rfl ?_ | (refine s_gy rfl ?_; (first | (refine Q11 ?_) | (refine Q14 ?_) | (refine Qn rfl rfl (fun hc => ?_) (fun hc => ?_)))))
         all_goals ((first | (refine zpt ?_) | (refine zpf ?_)); refine zR3 (c := Q2c (g := _) (by intro _; decide) hS fd) (h := ?_); rintro v1 w1 ⟨rfl, hS⟩; simp only [List.set_cons_zero, List.set_cons_succ, if_true, Bool.false_eq_true, if_false] at hS; refine zn ?_; exact ⟨zh, zh, by first | (rw [if_pos (c := x1.blocks.length < 1 ∨ 12 < x1.blocks.length) (by omega)]; exact hS.sp) | (rw [if_neg (c := x1.blocks.length < 1 ∨ 12 < x1.blocks.length) (by omega)]; exact hS.sp)⟩)
       rintro ρ w1 ⟨hA, hρ, hS⟩; obtain ⟨ρ, rfl⟩ := env2 hA hρ
       refine zM [1, 2, 3, 4, 5] (fun A ρ' w' => Has ρ' A ∧ Has ρ' [] ∧ St cx w' (blk p5 31 [.int .i64 x1.regs, vp1, vr1, vb1] :: jdg p9 vf (orF h (mkF (Qz f x1) (Q2W f))) (Q2W f) :: blk p2 47 [.int .i64 0, .int .i64 0] :: blk p1 24 [vf] :: L)) ?_ ?_
       · skip
         all_goals (refine Q1 ?_)
         refine zKL hS 19 [1, 2, 3, 4, 5] (fun A LL ρ' w' => ∃ (q : Bool), Has ρ' A ∧ Has ρ' [(81, .pointer (some ⟨p9, 0, none⟩)), (99, .bool q)] ∧ (q = true ↔ (f = 0 ∧ (0 < x1.regs ∨ 0 < x1.params.length ∨ ∃ t ∈ x1.results, t.kind ≠ 1))) ∧ St cx w' (LL)) ?_ ?_
         · skip
           all_goals (refine zm ?_; refine zm ?_)
           all_goals (first | (refine QD ?_) | (refine QI ?_) | (refine Qu rfl rfl (fun hc => ?_) (fun hc => ?_)))
           all_goals (refine zm ?_; (first | refine s_gn rfl rfl ?_ | (refine s_gy rfl ?_; refine Q2 rfl ?_)); (first | refine s_gn rfl rfl ?_ | (refine s_gy rfl ?_; refine zl hS ?_)))
           all_goals (first | refine s_gn rfl rfl ?_ | (refine s_gy rfl ?_; (first | (refine Q11 ?_) | (refine Q14 ?_) | (refine Qn rfl rfl (fun hc => ?_) (fun hc => ?_)))))
           all_goals ((first | refine s_gn rfl rfl ?_ | (refine s_gy rfl ?_; refine zm ?_)); (first | refine s_gn rfl rfl ?_ | (refine s_gy rfl ?_; refine Q2 rfl ?_)); (first | refine s_gn rfl rfl ?_ | (refine s_gy rfl ?_; refine zl hS ?_)); (first | refine s_gn rfl rfl ?_ | (refine s_gy rfl ?_; refine zL ?_)))
           all_goals (first | refine s_gn rfl rfl ?_ | (refine s_gy rfl ?_; (first | (refine Q11 ?_) | (refine Q14 ?_) | (refine Qn rfl rfl (fun hc => ?_) (fun hc => ?_)))))
           all_goals ((first | refine s_gn rfl rfl ?_ | (refine s_gy rfl ?_; (first | (refine zpt ?_) | (refine zpf ?_)))); (first | refine s_gn rfl rfl ?_ | (refine s_gy rfl ?_; refine zm ?_)); (first | refine s_gn rfl rfl ?_ | (refine s_gy rfl ?_; refine Q2 rfl ?_)); (first | refine s_gn rfl rfl ?_ | (refine s_gy rfl ?_; refine zl hS ?_)))
           all_goals ((first | (refine s_gn rfl rfl ?_) | (refine s_gy rfl ?_; refine zR2 (c := pcont_c hr1 hS) (h := ?_); rintro v1 w1 ⟨qc, rfl, hqc, hS⟩; cases qc)))
           all_goals ((first | refine s_gn rfl rfl ?_ | (refine s_gy rfl ?_; (first | (refine zpt ?_) | (refine zpf ?_)))); (first | (refine zpt ?_) | (refine zpf ?_)); refine Q4E ?_; refine Q2b ?_)
           all_goals (first | (exact ⟨_, zh, zh, by exact ⟨fun _ => ⟨by omega, .inl (by omega)⟩, fun _ => rfl⟩, hS.sp⟩) | (exact ⟨_, zh, zh, by exact ⟨fun _ => ⟨by omega, .inr (.inl (by omega))⟩, fun _ => rfl⟩, hS.sp⟩) | (exact ⟨_, zh, zh, by exact ⟨fun _ => ⟨by omega, .inr (.inr (hqc.1 rfl))⟩, fun _ => rfl⟩, hS.sp⟩) | (exact ⟨_, zh, zh, by exact ⟨fun h => Bool.noConfusion h, fun h => absurd h.1 (by omega)⟩, hS.sp⟩) | (exact ⟨_, zh, zh, by exact ⟨fun h => Bool.noConfusion h, fun h => h.2.elim (fun h => by omega) (fun h => h.elim (fun h => by omega) (fun h => Bool.noConfusion (hqc.2 h)))⟩, hS.sp⟩))
         rintro ρ w1 ⟨q, hA, hρ, hq, hS⟩; obtain ⟨ρ, rfl⟩ := env2 hA hρ
         all_goals (refine zR3 (c := Q2c (g := _) (by intro _; decide) hS fd) (h := ?_); rintro v1 w1 ⟨rfl, hS⟩; simp only [List.set_cons_zero, List.set_cons_succ, if_true, Bool.false_eq_true, if_false] at hS; refine zn ?_; exact ⟨zh, zh, by rw [← QqH hq]; exact hS.sp⟩)
       rintro ρ w1 ⟨hA, hρ, hS⟩; obtain ⟨ρ, rfl⟩ := env2 hA hρ
       all_goals (refine Q0 ?_; refine Q1 ?_; refine zm ?_; refine zn ?_; refine Qb ?_)
       refine zo [1, 2, 3, 4, 5] (fun A ρ' w' => ∃ (b : Nat) (h2 : Flt) (a2 : Int), Has ρ' A ∧ Has ρ' [(6, .int .i64 b)] ∧ (b ≤ x1.blocks.length) ∧ (orF (orF h (mkF (Qz f x1) (Q2W f))) (Qo m.funcs.length f x1 0 x1.blocks) = orF h2 (Qo m.funcs.length f x1 b (x1.blocks.drop b))) ∧ St cx w' (blk p5 31 [.int .i64 x1.regs, vp1, vr1, vb1] :: jdg p9 vf h2 a2 :: blk p2 47 [.int .i64 0, .int .i64 0] :: blk p1 24 [vf] :: L)) (fun ρ' _ => (x1.blocks.length - iv (ρ' 6)).toNat) ?_ ?_
       · exact ⟨0, _, _, zh, zh, (by omega), by rw [List.drop_zero], hS.sp⟩
       rintro ρ w1 ⟨b, h2, a2, hA, hρ, hb, hd2, hS⟩; obtain ⟨ρ, rfl⟩ := env2 hA hρ
       unfold Q6O
       all_goals (refine Q0 ?_; refine Q0 ?_; refine Q1 ?_; refine zm ?_; refine Q2 rfl ?_; refine zl hS ?_; refine zL ?_)
       all_goals (first | (refine Q1Z ?_) | (refine Q20 ?_) | (refine QQ rfl rfl (fun hc => ?_) (fun hc => ?_)))
       all_goals (refine zm ?_; (first | refine s_gn rfl rfl ?_ | (refine s_gy rfl ?_; refine zm ?_)); (first | refine s_gn rfl rfl ?_ | (refine s_gy rfl ?_; refine QA rfl ?_)); (first | refine s_gn rfl rfl ?_ | (refine s_gy rfl ?_; refine Q2 rfl ?_)); (first | refine s_gn rfl rfl ?_ | (refine s_gy rfl ?_; (first | refine Q2 rfl ?_ | refine Q1A rfl ?_))); (first | refine s_gn rfl rfl ?_ | (refine s_gy rfl ?_; refine zl hS ?_)))
       all_goals (first | refine s_gn rfl rfl ?_ | (refine s_gy rfl ?_; (first | (refine QD ?_) | (refine QI ?_) | (refine Qu rfl rfl (fun hc => ?_) (fun hc => ?_)))))
       all_goals ((first | (refine zpt ?_) | (refine zpf ?_)); refine zn ?_)
       all_goals
         first
         | (refine Q5 rfl ?_ -- Q3h c1
            all_goals (refine zsk ?_; refine Q0 ?_; refine Qb ?_; obtain ⟨y, hy⟩ : ∃ y, x1.blocks[b]? = some y := ⟨_, List.getElem?_eq_getElem (by omega)⟩; have hsy := hsx.2.2.2 y (List.mem_of_getElem? hy); refine Q1 ?_; refine zm ?_; refine zm ?_; refine zm ?_; refine zR3 (c := pblock_c hx1 hy (by omega) (by omega) hsy.2.1 hf hS fd) (h := ?_); rintro v1 w1 ⟨rfl, a3, hS⟩; have hS := hS.ns; refine zn ?_; refine Q1 ?_; refine zm ?_; refine zad ?_; refine zm ?_; refine zn ?_)
            all_goals (exact ⟨⟨b + 1, _, _, zh, zh, (by omega), by rw [hd2, Q7 hy, Qo, Q3o], hS.sp⟩, Qx (by omega)⟩))
         | (refine Q6 rfl ?_ -- Q3h c1
            all_goals (refine zex ?_; (first | (rw [List.drop_of_length_le (by omega), Qo, QeF (b := (0, 0)) rfl] at hd2) | (rw [Q3Y (a := h2) (by assumption)] at hd2)); refine Q1 ?_; refine zm ?_; refine zad ?_; refine zm ?_; refine zn ?_)
            all_goals (exact ⟨⟨f + 1, h2, a2, zh, zh, (by omega), by rw [hd, Q7 hx1, QR, ← Q3o, show orF h (Q1L m.funcs.length f x1) = h2 from (by unfold Q1L; rw [← Q3o, hd2])], hS.sp⟩, Qx (by omega)⟩)))
    | (refine Q6 rfl ?_ -- Q3h c0
       all_goals (refine zex ?_; (first | (rw [List.drop_of_length_le (by omega), QR, QeF (b := (0, 0)) rfl] at hd) | (rw [Q3Y (a := h) (by assumption)] at hd)); refine Q0 ?_; refine Q1 ?_; refine zm ?_; refine QA rfl ?_; refine Q2 rfl ?_; refine zv hS ?_; refine zsn hS ?_; intro w1 hS; have hS := hS.ns; refine zn ?_; refine zr ?_; refine Q18 vw (Qc (n := 2) (by kernel_rfl) (by kernel_rfl) (hS.blkAt fd) (by rfl) (by rfl)) ?_)
       all_goals (refine ⟨_, rfl, ?_, hS.sp⟩; rw [hd]; rfl; done))
end Go.Proofs.Ytanlkfeogoganaa
namespace Go.Proofs.Ytanlkfeogoganaa
open Go.Lir
set_option maxHeartbeats 1000000
attribute [local irreducible] LC.wp Q3 QZ Q1g retQ Q2p LO.wp QH Calls
set_option linter.unusedSimpArgs false
set_option linter.unusedVariables false
attribute [local irreducible] hasB Q8a Q2q Q32
section
variable {P : Program} {l : List GO} {Q : QT} {ρ : Env}
variable {cx : Cx} {w : World} {L : List Res}
/-- A judge: where it lies, and what of it stays. -/
structure JP where
  sp : Nat
  hp : Nat
  f : Fun
  vm : Value
  vp : Value
  vr : Value
  vb : Value
structure JP.Fits (j : JP) (cx : Cx) (m : Module) : Prop where
  m : funcR.sl cx j.vm m.funcs
  p : tyR.sl cx j.vp j.f.params
  r : tyR.sl cx j.vr j.f.results
  b : blockR.sl cx j.vb j.f.blocks
theorem JP.Fits.up {j : JP} {cx cx' : Cx} {m : Module} (h : j.Fits cx m) (hle : cx.Le cx') : j.Fits cx' m := ⟨h.m.up hle, h.p.up hle, h.r.up hle, h.b.up hle⟩
@[reducible] def JP.cells (j : JP) (vl : Value) : List Value := [.pointer (some ⟨j.hp, 0, none⟩), j.vm, .int .i64 j.f.regs, j.vp, j.vr, j.vb, vl]
def JP.res (j : JP) (h : List Bool) (vl : Value) (css : List (List Value)) : Res := star (blk j.sp 69 (j.cells vl)) (star (Qjh j.hp h) (sl 65 3 vl css))
variable {j : JP} {h : List Bool} {vl : Value} {css : List (List Value)}
theorem JP.opn {i : Nat} (hS : St cx w L) (hi : nth L i = some (j.res h vl css)) : St cx w (blk j.sp 69 (j.cells vl) :: Qjh j.hp h :: sl 65 3 vl css :: L.eraseIdx i) := by
  have h1 := (hS.out hi).star
  exact (St.star (h1.mv1)).mv2
theorem JP.cls {i : Nat} {h' : List Bool} {vl' : Value} {css' : List (List Value)} (hi : nth L i = some (j.res h vl css)) (hS : St cx w (blk j.sp 69 (j.cells vl') :: Qjh j.hp h' :: sl 65 3 vl' css' :: L.eraseIdx i)) : St cx w (L.set i (j.res h' vl' css')) := by
  have h1 : St cx w (star (Qjh j.hp h') (sl 65 3 vl' css') :: blk j.sp 69 (j.cells vl') :: L.eraseIdx i) := St.star' (hS.mv2.mv2)
  exact St.back (St.star' h1.mv1) hi
theorem JP.cls0 {i : Nat} (hi : nth L i = some (j.res h vl css)) (hS : St cx w (blk j.sp 69 (j.cells vl) :: Qjh j.hp h :: sl 65 3 vl css :: L.eraseIdx i)) : St cx w L := by
  have h1 : St cx w (star (Qjh j.hp h) (sl 65 3 vl css) :: blk j.sp 69 (j.cells vl) :: L.eraseIdx i) := St.star' (hS.mv2.mv2)
  exact St.back0 (St.star' h1.mv1) hi
theorem Qi {d i o : Nat} {x : Operand} {u : Value} (hS : St cx w L) (hx : ρ.ev x = .pointer (some ⟨j.sp, o, none⟩)) (hi : nth L i = some (j.res h vl css)) (hu : (j.cells vl)[o]? = some u) (h : Q3 P l Q (upd ρ d u) w) : Q3 P (⟨none, .load1 d x⟩ :: l) Q ρ w :=
  QpP (JP.opn hS hi) hx nth0 hu h
theorem Qdz {d n i o : Nat} {x : Operand} {us : List Value} (hS : St cx w L) (hx : ρ.ev x = .pointer (some ⟨j.sp, o, none⟩)) (hi : nth L i = some (j.res h vl css)) (hu : ((j.cells vl).drop o).take n = us) (hl : us.length = n) (h : Q3 P l Q (upd ρ d (.agg ⟨us⟩)) w) : Q3 P (⟨none, .loadn d n x⟩ :: l) Q ρ w :=
  Qoj (JP.opn hS hi) hx nth0 hu hl h
theorem Q1f {d i o : Nat} {x : Operand} {u : Value} (hS : St cx w L) (hx : ρ.ev x = .pointer (some ⟨j.sp, o, none⟩)) (hi : nth L i = some (j.res h vl css)) (hu : (j.cells vl)[o]? = some u) : gqv P ρ w ⟨none, .load1 d x⟩ u := Q1Y (JP.opn hS hi) hx nth0 hu
theorem Qir {d i n : Nat} {x : Operand} (hS : St cx w L) (hi : nth L i = some (j.res h vl css)) (hx : ρ.ev x = vl) (hn : css.length = n) (h : Q3 P l Q (upd ρ d (.int .i64 n)) w) : Q3 P (⟨none, .len d x⟩ :: l) Q ρ w :=
  Qaj (JP.opn hS hi) hx nth2 hn h
end
variable {cx : Cx} {w : World} {L : List Res} {j : JP} {h : List Bool} {vl : Value} {css : List (List Value)} {i : Nat} {m : Module}
theorem jhas_c {r : Int} (hS : St cx w L) (hi : nth L i = some (j.res h vl css)) : Rets Try.prog Q4M [.pointer (some ⟨j.hp, 0, none⟩), .int .i64 r] w fun u w' => u = .bool (hasB h r) ∧ St cx w' L := by
  obtain ⟨v, h2⟩ := Q4g (JP.opn hS hi).mv1
  refine (has_u h2).mono ?_
  rintro u w' ⟨h3, h4⟩
  exact ⟨h3, JP.cls0 hi (Q3x h4).mv1⟩
theorem jlen_c (hS : St cx w L) (hi : nth L i = some (j.res h vl css)) : Rets Try.prog Q4L [.pointer (some ⟨j.hp, 0, none⟩)] w fun u w' => u = .int .i64 h.length ∧ St cx w' L := by
  obtain ⟨v, h2⟩ := Q4g (JP.opn hS hi).mv1
  refine (len_u h2).mono ?_
  rintro u w' ⟨h3, h4⟩
  exact ⟨h3, JP.cls0 hi (Q3x h4).mv1⟩
theorem jlist_c (hl : h.length ≤ 16) (hS : St cx w L) (hi : nth L i = some (j.res h vl css)) : Rets Try.prog Q43 [.pointer (some ⟨j.hp, 0, none⟩)] w fun u w' => ∃ c', cx.Le c' ∧ intR.sl c' u (Q8a h) ∧ St c' w' L := by
  obtain ⟨v, h2⟩ := Q4g (JP.opn hS hi).mv1
  refine (list_u hl h2).mono ?_
  rintro u w' ⟨c', h3, h5, h4⟩
  exact ⟨c', h3, h5, JP.cls0 hi (Q3x h4).mv1⟩
theorem jopen_c (hl : h.length < 16) (hS : St cx w L) (hi : nth L i = some (j.res h vl css)) : Rets Try.prog Q42 [.pointer (some ⟨j.hp, 0, none⟩)] w fun u w' => u = .int .i64 h.length ∧ St cx w' (L.set i (j.res (h ++ [true]) vl css)) := by
  obtain ⟨v, h2⟩ := Q4g (JP.opn hS hi).mv1
  refine (open_u hl h2).mono ?_
  rintro u w' ⟨h3, v', h4⟩
  exact ⟨h3, JP.cls hi (Q3x h4).mv1⟩
theorem jshut_c {r : Int} (hr : hasB h r = true) (hS : St cx w L) (hi : nth L i = some (j.res h vl css)) : Rets Try.prog Q41 [.pointer (some ⟨j.hp, 0, none⟩), .int .i64 r] w fun u w' => u = .bool true ∧ St cx w' (L.set i (j.res (h.set r.toNat false) vl css)) := by
  obtain ⟨v, h2⟩ := Q4g (JP.opn hS hi).mv1
  refine (shut_u hr h2).mono ?_
  rintro u w' ⟨h3, h4⟩
  exact ⟨h3, JP.cls hi (Q3x h4).mv1⟩
theorem jpass_c {v2 : Value} {xs : List Int} (hl : h.length ≤ 16) (hx : intR.sl cx v2 xs) (hS : St cx w L) (hi : nth L i = some (j.res h vl css)) : Rets Try.prog Q2r [.pointer (some ⟨j.hp, 0, none⟩), v2] w fun u w' => u = .int .i64 (Q2q h [] xs) ∧ St cx w' L := by
  obtain ⟨v, h2⟩ := Q4g (JP.opn hS hi).mv1
  refine (pass_u hl hx h2).mono ?_
  rintro u w' ⟨h3, c', h5, h4⟩
  exact ⟨h3, St.weak (JP.cls0 hi (Q3x h4).mv1) h5⟩

/-! ### Giving up -/
@[reducible] def Q9w (c : Int) : Value := .iface 145 (.int .i64 c)
theorem Q2w {c : Int} (hS : St cx w L) : Rets Try.prog Q5R [.bool false, .int .i64 c] w fun u w' => u = .tuple #[] ∧ St cx w' L := by
  all_goals refine Q8B ?_
  all_goals (unfold judge_fail_lc; refine Q0 ?_; refine Q1 ?_; refine zm ?_; refine zn ?_)
  all_goals refine Q6 rfl ?_
  all_goals (refine zsk ?_; refine Q1y ?_; exact ⟨_, rfl, rfl, hS.sp⟩)
theorem Q2v {c : Int} (hS : St cx w L) : Fins Try.prog Q5R [.bool true, .int .i64 c] w (fun _ _ => False) (fun u w' => u = Q9w c ∧ St cx w' L) := by
  unfold Fins
  all_goals refine Q8B ?_
  all_goals (unfold judge_fail_lc; refine Q0 ?_; refine Q1 ?_; refine zm ?_; refine zn ?_)
  all_goals refine Q5 rfl ?_
  all_goals (refine Q1 ?_; refine zm ?_; refine zki ?_; refine s_panic rfl ?_; (repeat (first | refine Qq ?_ | refine Qs ?_)); refine QO ?_; exact .inr ⟨_, rfl, rfl, hS.sp⟩)
theorem Q3w {b : Bool} {c : Int} (hS : St cx w L) : Fins Try.prog Q5R [.bool b, .int .i64 c] w (fun u w' => u = .tuple #[] ∧ b = false ∧ St cx w' L) (fun u w' => u = Q9w c ∧ b = true ∧ St cx w' L) := by
  cases b with
  | false => exact ((Q2w hS).mono fun u w' h => (⟨h.1, rfl, h.2⟩ : u = .tuple #[] ∧ false = false ∧ St cx w' L)).ends
  | true => exact (Q2v hS).mono (fun _ _ h => h.elim) (fun _ _ h => ⟨h.1, rfl, h.2⟩)
theorem Q5Q {s : JS} {k : Int} (hls : tyR.ls cx css s.l) (hS : St cx w L) (hi : nth L i = some (j.res h vl css)) : Fins Try.prog Q49 [.pointer (some ⟨j.sp, 0, none⟩), .int .i64 k] w
    (fun u w' => ∃ t cs, jval s k = .ok t ∧ u = .agg ⟨cs⟩ ∧ tyR.at cx cs t ∧ St cx w' L) (fun u w' => ∃ c, jval s k = .error c ∧ u = Q9w c ∧ St cx w' L) := by
  have hlc := hls.1
  have hS := JP.opn hS hi
  unfold Fins
  all_goals refine Q64 ?_
  all_goals (unfold judge_State_value_lc; refine Q0 ?_; refine Q1 ?_; refine Q8 hS ?_; intro p4 w1 hS; refine zn ?_; refine Q0 ?_; refine Q1 ?_; refine zm ?_)
  all_goals (first | (refine Q1Z ?_) | (refine Q20 ?_) | (refine QQ rfl rfl (fun hc => ?_) (fun hc => ?_)))
  all_goals (refine zm ?_; (first | refine s_gn rfl rfl ?_ | (refine s_gy rfl ?_; refine zm ?_)); (first | refine s_gn rfl rfl ?_ | (refine s_gy rfl ?_; refine zm ?_)); (first | refine s_gn rfl rfl ?_ | (refine s_gy rfl ?_; refine QA rfl ?_)); (first | refine s_gn rfl rfl ?_ | (refine s_gy rfl ?_; refine Q2 rfl ?_)); (first | refine s_gn rfl rfl ?_ | (refine s_gy rfl ?_; refine zl hS ?_)); (first | refine s_gn rfl rfl ?_ | (refine s_gy rfl ?_; refine Qaj hS vw fd hlc ?_)))
  all_goals (first | refine s_gn rfl rfl ?_ | (refine s_gy rfl ?_; (first | (refine Q53 ?_) | (refine Q56 ?_) | (refine Q24 rfl rfl (fun hc => ?_) (fun hc => ?_)))))
  all_goals ((first | (refine zpt ?_) | (refine zpf ?_)))
  all_goals (first | (refine zR2 (c := Q2w hS) (h := ?_); rintro v1 w1 ⟨rfl, hS⟩) | (refine zE2 (c := Q2v hS) (p := by rintro v9 w9 ⟨rfl, hS⟩; (repeat (first | refine Qq ?_ | refine Qs ?_ | refine fun _ => ?_)); refine QO ?_; refine .inr ⟨_, rfl, ?_⟩; first | (exact ⟨_, jval_no (by omega), rfl, (JP.cls0 hi hS.sp)⟩)) (h := fun _ _ h => h.elim)))
  all_goals (refine zn ?_; refine Q0 ?_; obtain ⟨t, ht⟩ : ∃ t, s.l[k.toNat]? = some t := ⟨_, List.getElem?_eq_getElem (by omega)⟩; obtain ⟨d, hd, hrd⟩ := hls.2 _ _ ht; obtain ⟨vd, rfl, hld⟩ := Ql hrd; refine Q1 ?_; refine zm ?_; refine QA rfl ?_; refine Q2 rfl ?_; refine zl hS ?_; refine zm ?_; (first | ((first | refine zi ?_ | refine zj ?_); intro b1 o1 cs1 x1 hat1 hx1 he1; obtain ⟨vl1, rfl, hl1⟩ := Ql he1) | (refine zie hS ?_; intro b1 o1 hel1) | (refine zij hS ?_; intro b1 o1 hel1)); refine s_loadnE hS hel1 rfl fd rfl hd ?_; refine zsn hS ?_; intro w1 hS; have hS := hS.ns; refine zn ?_; refine zr ?_; refine Q18 vw (Qc (n := 3) (by kernel_rfl) (by kernel_rfl) (hS.blkAt fd) (by rfl) (by rfl)) ?_; exact .inl ⟨_, rfl, t, _, QoD (by omega) ht, rfl, hrd, (JP.cls0 hi hS.sp)⟩)
theorem Q4K {s : JS} {k kd : Int} (hls : tyR.ls cx css s.l) (hS : St cx w L) (hi : nth L i = some (j.res h vl css)) : Fins Try.prog Q4U [.pointer (some ⟨j.sp, 0, none⟩), .int .i64 k, .int .i64 kd] w
    (fun u w' => ∃ t cs, Q2u s k kd = .ok t ∧ u = .agg ⟨cs⟩ ∧ tyR.at cx cs t ∧ St cx w' L) (fun u w' => ∃ c, Q2u s k kd = .error c ∧ u = Q9w c ∧ St cx w' L) := by
  have hS := hS.out hi
  unfold Fins Q2u
  all_goals refine Q6Z ?_
  all_goals (unfold judge_State_kind_lc; refine Q0 ?_; refine Q1 ?_; refine Q8 hS ?_; intro p6 w1 hS; refine zn ?_; refine Q0 ?_; refine Q1 ?_; refine zm ?_; refine zm ?_; refine zE2 (c := Q5Q hls hS fd) (p := by rintro v9 w9 ⟨c, h1, rfl, hS⟩; (repeat (first | refine Qq ?_ | refine Qs ?_ | refine fun _ => ?_)); refine QO ?_; refine .inr ⟨_, rfl, ?_⟩; exact ⟨_, QM h1, rfl, (St.back0 hS.sp hi)⟩) (h := ?_); rintro v1 w1 ⟨t, cs, h1, rfl, hrd, hS⟩; have hrd' := hrd; obtain ⟨vd, rfl, hld⟩ := Ql hrd; refine Q8 hS ?_; intro p7 w1 hS; refine zsn hS ?_; intro w1 hS; have hS := hS.ns; refine zn ?_; refine Q0 ?_; refine Q1 ?_; refine Q2 rfl ?_; refine zl hS ?_; refine zm ?_)
  all_goals (first | (refine Q1h ?_) | (refine Q1i ?_) | (refine Qw rfl rfl (fun hc => ?_) (fun hc => ?_)))
  all_goals (first | (refine zR2 (c := Q2w hS) (h := ?_); rintro v1 w1 ⟨rfl, hS⟩) | (refine zE2 (c := Q2v hS) (p := by rintro v9 w9 ⟨rfl, hS⟩; (repeat (first | refine Qq ?_ | refine Qs ?_ | refine fun _ => ?_)); refine QO ?_; refine .inr ⟨_, rfl, ?_⟩; first | (exact ⟨_, (Qe h1).trans (if_pos (by omega)), rfl, (St.back0 hS.sp hi)⟩)) (h := fun _ _ h => h.elim)))
  all_goals (refine zn ?_; refine Q0 ?_; refine Q1 ?_; refine zv hS ?_; refine zsn hS ?_; intro w1 hS; have hS := hS.ns; refine zn ?_; refine zr ?_; refine Q18 vw (Qc (n := 3) (by kernel_rfl) (by kernel_rfl) (hS.blkAt fd) (by rfl) (by rfl)) ?_; exact .inl ⟨_, rfl, t, _, (Qe h1).trans (if_neg (by omega)), rfl, hrd', (St.back0 hS.sp hi)⟩)
theorem QgR {s : JS} {k kd : Int} (hls : tyR.ls cx css s.l) (hS : St cx w L) (hi : nth L i = some (j.res s.h vl css)) : Fins Try.prog Q6L [.pointer (some ⟨j.sp, 0, none⟩), .int .i64 k, .int .i64 kd] w
    (fun u w' => ∃ t cs, jat s k kd = .ok t ∧ u = .agg ⟨cs⟩ ∧ tyR.at cx cs t ∧ St cx w' L) (fun u w' => ∃ c, jat s k kd = .error c ∧ u = Q9w c ∧ St cx w' L) := by
  have hS := hS.out hi
  unfold Fins jat
  all_goals refine QaO ?_
  all_goals (unfold judge_State_at_lc; refine Q0 ?_; refine Q1 ?_; refine Q8 hS ?_; intro p6 w1 hS; refine zn ?_; refine Q0 ?_; refine Q1 ?_; refine zm ?_; refine zm ?_; refine zm ?_; refine zE3 (c := Q4K hls hS fd) (p := by rintro v9 w9 ⟨c, h1, rfl, hS⟩; (repeat (first | refine Qq ?_ | refine Qs ?_ | refine fun _ => ?_)); refine QO ?_; refine .inr ⟨_, rfl, ?_⟩; exact ⟨_, QM h1, rfl, (St.back0 hS.sp hi)⟩) (h := ?_); rintro v1 w1 ⟨t, cs, h1, rfl, hrd, hS⟩; have hrd' := hrd; obtain ⟨vd, rfl, hld⟩ := Ql hrd; refine Q8 hS ?_; intro p7 w1 hS; refine zsn hS ?_; intro w1 hS; have hS := hS.ns; refine zn ?_; refine Q0 ?_; refine zD [(0, none), (1, none), (2, none), (3, none), (4, none), (5, none), (6, some none), (7, none), (8, some none)] ?_; have hS := hS.drew; refine zm ?_; refine QA rfl ?_; refine Q2 rfl ?_; refine Qi hS rfl fd rfl ?_; refine Q2 rfl ?_; (first | (refine Qi hS rfl fd rfl ?_) | (refine zl hS ?_)); refine zR2 (c := jhas_c hS fd) (h := ?_); rintro v1 w1 ⟨rfl, hS⟩; refine Q1W rfl ?_)
  all_goals (first | (refine zR2 (c := Q2w hS) (h := ?_); rintro v1 w1 ⟨rfl, hS⟩) | (refine zE2 (c := Q2v hS) (p := by rintro v9 w9 ⟨rfl, hS⟩; (repeat (refine Qq ?_)); refine QO ?_; refine .inr ⟨_, rfl, ?_⟩; first | (exact ⟨_, (Qe h1).trans (if_pos (by simpa using hb)), rfl, (St.back0 hS.sp hi)⟩)) (h := fun _ _ h => h.elim)) | (refine zE2 (c := Q3w hS) (p := by rintro v9 w9 ⟨rfl, hb, hS⟩; (repeat (first | refine Qq ?_ | refine Qs ?_ | refine fun _ => ?_)); refine QO ?_; refine .inr ⟨_, rfl, ?_⟩; first | (exact ⟨_, (Qe h1).trans (if_pos (by simpa using hb)), rfl, (St.back0 hS.sp hi)⟩)) (h := ?_); rintro v1 w1 ⟨rfl, hb, hS⟩))
  all_goals (refine zn ?_; refine Q0 ?_; refine Q1 ?_; refine zv hS ?_; refine zsn hS ?_; intro w1 hS; have hS := hS.ns; refine zn ?_; refine zr ?_; refine Q18 vw (Qc (n := 3) (by kernel_rfl) (by kernel_rfl) (hS.blkAt fd) (by rfl) (by rfl)) ?_; exact .inl ⟨_, rfl, t, _, (Qe h1).trans (if_neg (by simpa using hb)), rfl, hrd', (St.back0 hS.sp hi)⟩)
end Go.Proofs.Ytanlkfeogoganaa
namespace Go.Proofs.Ytanlkfeogoganaa
open Go.Lir
set_option maxHeartbeats 1000000
attribute [local irreducible] LC.wp Q3 QZ Q1g retQ Q2p LO.wp QH Calls
set_option linter.unusedSimpArgs false
set_option linter.unusedVariables false
attribute [local irreducible] hasB Q8a Q2q Q32
variable {cx : Cx} {w : World} {L : List Res} {j : JP} {h : List Bool} {vl : Value} {css : List (List Value)} {i : Nat} {m : Module}
theorem Q9l {s : JS} {t : Ty} {cs : List Value} (hn : s.l.length ≤ 100000) (ht : tyR.at cx cs t) (hls : tyR.ls cx css s.l) (hS : St cx w L) (hi : nth L i = some (j.res h vl css)) : Fins Try.prog Q5u [.pointer (some ⟨j.sp, 0, none⟩), .agg ⟨cs⟩] w
    (fun u w' => u = .tuple #[] ∧ s.l.length ≠ 80 ∧ ∃ vl' css', tyR.ls cx css' (s.l ++ [t]) ∧ St cx w' (L.set i (j.res h vl' css'))) (fun u w' => u = Q9w 2 ∧ s.l.length = 80 ∧ St cx w' L) := by
  have hlc := hls.1
  have hS := JP.opn hS hi
  have ht' := ht
  obtain ⟨vd, rfl, hld⟩ := Ql ht
  have hz : tyR.at cx [.int .i64 0, .int .i64 0, .slice none 0 0] (.mk 0 0 []) := Q37 (Rep.SR.nil _ _ _)
  unfold Fins
  all_goals refine Q8I ?_
  all_goals (unfold judge_State_put_lc; refine Q0 ?_; refine Q1 ?_; refine zb hS ?_; intro p3 w1 hS; refine zn ?_; refine Q0 ?_; refine Q1 ?_; refine zm ?_; refine QA rfl ?_; refine Q2 rfl ?_; refine zl hS ?_; refine Qaj hS vw fd hlc ?_)
  all_goals (first | (refine QD ?_) | (refine QI ?_) | (refine Qu rfl rfl (fun hc => ?_) (fun hc => ?_)))
  all_goals (first | (refine zR2 (c := Q2w hS) (h := ?_); rintro v1 w1 ⟨rfl, hS⟩) | (refine zE2 (c := Q2v hS) (p := by rintro v9 w9 ⟨rfl, hS⟩; (repeat (first | refine Qq ?_ | refine Qs ?_ | refine fun _ => ?_)); refine QO ?_; refine .inr ⟨_, rfl, ?_⟩; first | (exact ⟨rfl, by omega, (JP.cls0 hi hS.sp)⟩)) (h := fun _ _ h => h.elim)))
  all_goals (refine zn ?_)
  refine Q4D 9 12 (by kernel_rfl) ?_ ?_
  · skip
    all_goals (refine zC [(0, none), (1, none), (2, none), (3, none), (4, none), (5, none), (6, some (some [3, 4])), (7, some none), (8, none), (10, none), (11, none), (9, some (some [])), (12, some none)] ?_; have hS := hS.drew; refine s_cq ?_; refine zm ?_; refine zt ?_; refine s_cq ?_; refine QA rfl ?_; refine zt ?_; refine s_cq ?_; refine Q2 rfl ?_; refine zt ?_; refine s_cq ?_; refine zl hS ?_; refine zt ?_; refine s_cq ?_; refine zv hS ?_; refine zt ?_; refine s_cq ?_; refine Qaj hS vw fd hlc ?_; refine zt ?_; refine Q10 ?_; refine zB1 hS [_, _, _] ?_; intro b1 w1 hS; refine zt ?_; refine zy ?_; refine s_cf ?_; refine za Q6M QiL hS ?_; intro vp1 w1 css1 hls1 hv1 hS; have hS := hS.ns; refine zt ?_; refine s_cq ?_; have hl1 := hls1.1; rw [List.length_append, List.length_cons, List.length_nil] at hl1; obtain ⟨d1, hd1, _⟩ := hls1.2 s.l.length (.mk 0 0 []) (by simp); (first | ((first | refine zi ?_ | refine zj ?_); intro b1 o1 cs1 x1 hat1 hx1 he1; obtain ⟨vl1, rfl, hl1⟩ := Ql he1) | (refine zie hS ?_; intro b1 o1 hel1)))
    all_goals (refine zt ?_; refine s_cq ?_; refine QA rfl ?_; refine zt ?_; refine s_cq ?_; refine Q2 rfl ?_; refine zt ?_; refine Q10 ?_; refine QkP hS hel1 rfl rfl rfl fd rfl hd1 rfl (tyR.one ht') ?_; intro w3 hS; have hS := hS.ns; refine zt ?_; refine zy ?_; refine s_cf ?_; refine zst hS ?_; intro w1 hS; have hS := hS.ns; refine zt ?_; refine zcn ?_; refine Q1y ?_; have hls2 := Rep.LR.set (i := s.l.length) hls1 ht'; rw [List.set_append_right _ _ (Nat.le_refl _), Nat.sub_self, List.set_cons_zero] at hls2; exact .inl ⟨_, rfl, rfl, by omega, _, _, hls2, (JP.cls hi hS.sp)⟩)
  · skip
    all_goals (refine zC [(0, none), (1, none), (2, none), (3, none), (4, none), (5, none), (6, some (some [3, 4])), (7, some none), (8, none), (10, none), (11, none), (12, some (some [])), (9, some (some []))] ?_; have hS := hS.drew; refine s_cq ?_; refine zm ?_; refine zt ?_; refine s_cq ?_; refine QA rfl ?_; refine zt ?_; refine s_cq ?_; refine Q2 rfl ?_; refine zt ?_; refine s_cq ?_; refine zl hS ?_; refine zt ?_; refine s_cq ?_; refine zv hS ?_; refine zt ?_; refine s_cq ?_; refine Qaj hS vw fd hlc ?_; refine zt ?_; refine Q10 ?_; refine zB1 hS [_, _, _] ?_; intro b1 w1 hS; refine zt ?_; refine zy ?_; refine s_cf ?_; refine za Q6M QiL hS ?_; intro vp1 w1 css1 hls1 hv1 hS; have hS := hS.ns; refine zt ?_; refine s_cq ?_; have hl1 := hls1.1; rw [List.length_append, List.length_cons, List.length_nil] at hl1; obtain ⟨d1, hd1, _⟩ := hls1.2 s.l.length (.mk 0 0 []) (by simp); (first | ((first | refine zi ?_ | refine zj ?_); intro b1 o1 cs1 x1 hat1 hx1 he1; obtain ⟨vl1, rfl, hl1⟩ := Ql he1) | (refine zie hS ?_; intro b1 o1 hel1)))
    all_goals (refine zt ?_; refine s_cq ?_; refine QA rfl ?_; refine zt ?_; refine s_cq ?_; refine Q2 rfl ?_; refine zt ?_; refine Q10 ?_; refine zst hS ?_; intro w1 hS; have hS := hS.ns; refine zt ?_; refine zy ?_; refine Q10 ?_; refine QkP hS hel1 rfl rfl rfl fd rfl hd1 rfl (tyR.one ht') ?_; intro w3 hS; have hS := hS.ns; refine zt ?_; refine zy ?_; refine zcn ?_; refine Q1y ?_; have hls2 := Rep.LR.set (i := s.l.length) hls1 ht'; rw [List.set_append_right _ _ (Nat.le_refl _), Nat.sub_self, List.set_cons_zero] at hls2; exact .inl ⟨_, rfl, rfl, by omega, _, _, hls2, (JP.cls hi hS.sp)⟩)
theorem QdD {t : Ty} {k : Int} {cs : List Value} (hk : 0 ≤ k) (ht : tyR.at cx cs t) (hS : St cx w L) : Fins Try.prog Q4c [.pointer (some ⟨j.sp, 0, none⟩), .agg ⟨cs⟩, .int .i64 k] w
    (fun u w' => ∃ t' cs', Q4f t k = .ok t' ∧ u = .agg ⟨cs'⟩ ∧ tyR.at cx cs' t' ∧ St cx w' L) (fun u w' => ∃ c, Q4f t k = .error c ∧ u = Q9w c ∧ St cx w' L) := by
  obtain ⟨vd, rfl, hld⟩ := Ql ht
  unfold Fins Q4f
  all_goals refine Q6l ?_
  all_goals (unfold judge_State_field_lc; refine Q0 ?_; refine Q1 ?_; refine zb hS ?_; intro p4 w1 hS; refine Q8 hS ?_; intro p6 w1 hS; refine zn ?_; refine Q0 ?_; refine Q1 ?_; refine zm ?_; refine Q2 rfl ?_; refine zl hS ?_; refine zL ?_)
  all_goals (first | (refine Q53 ?_) | (refine Q56 ?_) | (refine Q24 rfl rfl (fun hc => ?_) (fun hc => ?_)))
  all_goals (first | (refine zR2 (c := Q2w hS) (h := ?_); rintro v1 w1 ⟨rfl, hS⟩) | (refine zE2 (c := Q2v hS) (p := by rintro v9 w9 ⟨rfl, hS⟩; (repeat (first | refine Qq ?_ | refine Qs ?_ | refine fun _ => ?_)); refine QO ?_; refine .inr ⟨_, rfl, ?_⟩; first | (exact ⟨_, by rw [List.getElem?_eq_none (by omega)], rfl, hS.sp⟩)) (h := fun _ _ h => h.elim)))
  all_goals (refine zn ?_; refine Q0 ?_; refine Q1 ?_; refine Q2 rfl ?_; refine zl hS ?_; refine zm ?_; refine s_idxL vw rfl hld rfl hk (by omega) ?_; intro b1 o1 cs1 x1 hat1 hx1 he1; have he1' := he1; obtain ⟨vl1, rfl, hl1⟩ := Ql he1; (first | (refine zv hS ?_) | (refine zvk hS ?_)); refine zsn hS ?_; intro w1 hS; have hS := hS.ns; refine zn ?_; refine zr ?_; refine Q18 vw (Qc (n := 3) (by kernel_rfl) (by kernel_rfl) (hS.blkAt fd) (by rfl) (by rfl)) ?_; exact .inl ⟨_, rfl, x1, _, by rw [hx1], rfl, he1', hS.sp⟩)
theorem Qn2 {s : JS} {l regs : List Int} {want : List Ty} {v1 v2 v3 : Value} (hsh : ∀ t ∈ want, t.Short) (hls : tyR.ls cx css s.l) (h1 : intR.sl cx v1 l) (h2 : tyR.sl cx v2 want) (h3 : intR.sl cx v3 regs) (hS : St cx w L) (hi : nth L i = some (j.res h vl css)) :
    Fins Try.prog Q4W [.pointer (some ⟨j.sp, 0, none⟩), v1, v2, v3] w
    (fun u w' => QcJ s l want regs = .ok () ∧ u = .tuple #[] ∧ St cx w' L) (fun u w' => ∃ c, QcJ s l want regs = .error c ∧ u = Q9w c ∧ St cx w' L) := by
  have hl1 := h1.len
  have hl2 := h2.len
  have hS := hS.out hi
  have hle := St.refl hS
  unfold Fins QcJ
  all_goals refine Q85 ?_
  all_goals (unfold judge_State_args_lc; refine Q0 ?_; refine Q1 ?_; refine zm ?_; refine zL ?_; refine zm ?_; refine zL ?_)
  all_goals (first | (refine Q1h ?_) | (refine Q1i ?_) | (refine Qw rfl rfl (fun hc => ?_) (fun hc => ?_)))
  all_goals (first | (refine zR2 (c := Q2w hS) (h := ?_); rintro v1 w1 ⟨rfl, hS⟩) | (refine zE2 (c := Q2v hS) (p := by rintro v9 w9 ⟨rfl, hS⟩; (repeat (first | refine Qq ?_ | refine Qs ?_ | refine fun _ => ?_)); refine QO ?_; refine .inr ⟨_, rfl, ?_⟩; first | (exact ⟨_, if_pos (by omega), rfl, (St.back0 hS.sp hi)⟩) | (exact ⟨_, by rw [if_neg (by omega), hd]; exact Qn0 hx1 hx2 g1 hn, rfl, St.weak (St.back0 hS.sp hi) hL0⟩) | (exact ⟨_, by rw [if_neg (by omega), hd]; exact Qn1 hx1 hx2 g1 hn (by simpa using hb), rfl, St.weak (St.back0 hS.sp hi) hL0⟩)) (h := fun _ _ h => h.elim)))
  all_goals (refine zn ?_; refine Q0 ?_; refine Q1 ?_; refine zm ?_; refine zL ?_; refine zm ?_; refine zn ?_; refine Qb ?_)
  refine zoL hS [0, 2, 3, 19, 20] (fun A LL ρ' w' => ∃ (k0 : Cx) (q : Nat), Has ρ' A ∧ Has ρ' [(21, .int .i64 q)] ∧ (cx.Le k0) ∧ (q ≤ l.length) ∧ (Q2B s regs l want = Q2B s regs (l.drop q) (want.drop q)) ∧ (want.length = l.length) ∧ St k0 w' (LL)) (fun ρ' _ => (l.length - iv (ρ' 21)).toNat) ?_ ?_
  · exact ⟨cx, 0, zh, zh, St.refl hS, (by omega), by rfl, by omega, hS.sp⟩
  rintro ρ w1 ⟨k0, q, hA, hρ, hle2, hq, hd, hw, hS⟩; obtain ⟨ρ, rfl⟩ := env2 hA hρ; have hL0 := hle2; (try have hle := hle.trans hle2); (try have hls := hls.up hle2); (try have h1 := h1.up hle2); (try have h2 := h2.up hle2); (try have h3 := h3.up hle2)
  unfold Q3t
  all_goals (refine Q0 ?_; refine Q1 ?_; refine QC rfl rfl ?_; refine zn ?_; refine Q0 ?_)
  refine Qy rfl (fun hc => ?_) (fun hc => ?_)
  · skip
    all_goals (refine zsk ?_; refine Q0 ?_; refine Qb ?_; refine Q0 ?_; refine Q1 ?_; refine zm ?_; (first | (refine Qey vw rfl h2 rfl (by omega) ?_); intro b2 o2 cs2 x2 hat2 hx2 he2; have he2' := he2; obtain ⟨vl2, rfl, hl2⟩ := Ql he2 | (refine zi ?_; intro b1 o1 cs1 x1 hat1 hx1 he1; obtain rfl := Q1X he1)); (first | (refine zl hS ?_) | (refine zlk hS ?_)); refine zm ?_; refine zm ?_; refine zn ?_; refine Q0 ?_; refine Q1 ?_; refine zm ?_; refine zm ?_; refine zE2 (c := Q5Q hls hS fd) (p := by rintro v9 w9 ⟨c, g1, rfl, hS⟩; (repeat (first | refine Qq ?_ | refine Qs ?_ | refine fun _ => ?_)); refine QO ?_; refine .inr ⟨_, rfl, ?_⟩; exact ⟨_, by rw [if_neg (by omega), hd]; exact jargs_e hx1 (List.getElem?_eq_getElem (by omega)) g1, rfl, St.weak (St.back0 hS.sp hi) hL0⟩) (h := ?_); rintro v1 w1 ⟨t, cs, g1, rfl, hrd, hS⟩; have hrd' := hrd; obtain ⟨vd, rfl, hld⟩ := Ql hrd; refine Q8 hS ?_; intro p10 w1 hS; refine zsn hS ?_; intro w1 hS; have hS := hS.ns; refine zn ?_; refine Q0 ?_; refine Q1 ?_; refine zm ?_; refine zm ?_; refine Qey vw rfl h2 rfl (by omega) ?_; intro b2 o2 cs2 x2 hat2 hx2 he2; have he2' := he2; obtain ⟨vl2, rfl, hl2⟩ := Ql he2)
    all_goals ((first | (refine zv hS ?_) | (refine zvk hS ?_)); refine zm ?_)
    all_goals (refine zR2 (c := pren_c x2 (hsh x2 (List.mem_of_getElem? hx2)) he2' h3 hS) (h := ?_); rintro v1 w1 ⟨c3, ds, rfl, hle2, hu3, hS⟩; (try have hle := hle.trans hle2); (try have hL0 := hL0.trans hle2); (try have hl2 := hl2.up hle2); (try have he2 := he2.up hle2); (try have hls := hls.up hle2); (try have h1 := h1.up hle2); (try have h2 := h2.up hle2); (try have h3 := h3.up hle2); have hrd' := Rep.R.up hrd' hle2; cases hn : x2.ren regs <;> rw [hn] at hu3 <;> simp only [Option.getD_none, Option.getD_some] at hu3 <;> (have hu3' := hu3) <;> obtain ⟨vu, rfl, hlu⟩ := Ql hu3)
    all_goals (refine zm ?_; refine QcG rfl rfl ?_; refine QcG rfl rfl ?_; refine Q8 hS ?_; intro p11 w1 hS; refine zsn hS ?_; intro w1 hS; have hS := hS.ns; refine zm ?_; refine zn ?_; refine Q1 ?_; refine zm ?_; refine Q1W rfl ?_; refine zm ?_; (first | refine s_gn rfl rfl ?_ | (refine s_gy rfl ?_; refine zv hS ?_)); (first | refine s_gn rfl rfl ?_ | (refine s_gy rfl ?_; refine zv hS ?_)); (first | (refine s_gn rfl rfl ?_) | (refine s_gy rfl ?_; refine zR2 (c := QeE _ _ hrd' hu3' hS) (h := ?_); rintro v1 w1 ⟨rfl, hS⟩)); (first | refine s_gn rfl rfl ?_ | (refine s_gy rfl ?_; refine Q1W rfl ?_)); (first | (refine zpt ?_) | (refine zpf ?_)))
    all_goals (first | (refine zR2 (c := Q2w hS) (h := ?_); rintro v1 w1 ⟨rfl, hS⟩) | (refine zE2 (c := Q2v hS) (p := by rintro v9 w9 ⟨rfl, hS⟩; (repeat (first | refine Qq ?_ | refine Qs ?_ | refine fun _ => ?_)); refine QO ?_; refine .inr ⟨_, rfl, ?_⟩; first | (exact ⟨_, if_pos (by omega), rfl, (St.back0 hS.sp hi)⟩) | (exact ⟨_, by rw [if_neg (by omega), hd]; exact Qn0 hx1 hx2 g1 hn, rfl, St.weak (St.back0 hS.sp hi) hL0⟩) | (exact ⟨_, by rw [if_neg (by omega), hd]; exact Qn1 hx1 hx2 g1 hn (by simpa using hb), rfl, St.weak (St.back0 hS.sp hi) hL0⟩)) (h := fun _ _ h => h.elim)) | (refine zE2 (c := Q3w hS) (p := by rintro v9 w9 ⟨rfl, hb, hS⟩; (repeat (first | refine Qq ?_ | refine Qs ?_ | refine fun _ => ?_)); refine QO ?_; refine .inr ⟨_, rfl, ?_⟩; first | (exact ⟨_, if_pos (by omega), rfl, (St.back0 hS.sp hi)⟩) | (exact ⟨_, by rw [if_neg (by omega), hd]; exact Qn0 hx1 hx2 g1 hn, rfl, St.weak (St.back0 hS.sp hi) hL0⟩) | (exact ⟨_, by rw [if_neg (by omega), hd]; exact Qn1 hx1 hx2 g1 hn (by simpa using hb), rfl, St.weak (St.back0 hS.sp hi) hL0⟩)) (h := ?_); rintro v1 w1 ⟨rfl, hb, hS⟩))
    all_goals (refine zn ?_; refine Q1 ?_; refine zad ?_; refine zm ?_; refine zn ?_; exact ⟨⟨_, q + 1, zh, zh, hL0, (by omega), by rw [hd, jargs_s hx1 hx2 g1 hn (by simpa using hb)], hw, hS.sp⟩, Qx (by omega)⟩)
  · skip
    all_goals (refine zex ?_; refine Q1y ?_; exact .inl ⟨_, rfl, (by rw [if_neg (by omega), hd, jargs_z (by omega)]), rfl, St.weak (St.back0 hS.sp hi) hL0⟩)
theorem iindex_c {s : List Int} {c : Int} {v : Value} (hK : intR.sl cx v s) (hS : St cx w L) : Rets Try.prog Q1M [v, .int .i64 c] w fun u w' => ∃ r : Int, u = .int .i64 r ∧ (0 ≤ r ↔ c ∈ s) ∧ St cx w' L := by
  have hlen := hK.len
  all_goals refine Q4y ?_
  all_goals (unfold slices_Index_int_int_lc; refine Q0 ?_; refine Q1 ?_; refine zm ?_; refine zn ?_; refine Q0 ?_; refine Q0 ?_; refine Q1 ?_; refine zm ?_; refine zL ?_; refine zm ?_; refine zn ?_; refine Qb ?_)
  refine zoL hS [0, 1, 7] (fun A LL ρ' w' => ∃ (j : Nat), Has ρ' A ∧ Has ρ' [(8, .int .i64 j)] ∧ (j ≤ s.length) ∧ (c ∈ s ↔ c ∈ s.drop j) ∧ St cx w' (LL)) (fun ρ' _ => (s.length - iv (ρ' 8)).toNat) ?_ ?_
  · exact ⟨0, zh, zh, (by omega), by simp, hS.sp⟩
  rintro ρ w1 ⟨j, hA, hρ, hj, hd, hS⟩; obtain ⟨ρ, rfl⟩ := env2 hA hρ
  unfold Q2F
  all_goals (refine Q0 ?_; refine Q1 ?_; refine QC rfl rfl ?_; refine zn ?_; refine Q0 ?_)
  refine Qy rfl (fun hc => ?_) (fun hc => ?_)
  · skip
    all_goals (refine zsk ?_; refine Q0 ?_; refine Qb ?_; refine Q0 ?_; refine Q1 ?_; refine zm ?_; refine zm ?_; refine zn ?_; refine Q0 ?_; refine Q1 ?_; refine zm ?_; refine zm ?_; refine zm ?_; refine zi ?_; intro b1 o1 cs1 x1 hat1 hx1 he1; obtain rfl := Q1X he1; (first | (refine zl hS ?_) | (refine zlk hS ?_)))
    all_goals (first | (refine QD ?_) | (refine QI ?_) | (refine Qu rfl rfl (fun hc => ?_) (fun hc => ?_)))
    all_goals (refine zn ?_)
    all_goals
      first
      | (refine Q5 rfl ?_ -- Q1M c1
         all_goals (refine Q0 ?_; refine Q1 ?_; refine zm ?_; refine zm ?_; refine zn ?_; refine zr ?_; refine zf ?_)
         all_goals (exact ⟨_, rfl, j, rfl, ⟨fun _ => by rw [hd, Q7 hx1, List.mem_cons]; exact .inl (by omega), fun _ => by omega⟩, hS.sp⟩))
      | (refine Q6 rfl ?_ -- Q1M c1
         all_goals refine zsk ?_)
    all_goals (refine Q1 ?_; refine zad ?_; refine zm ?_; refine zn ?_)
    all_goals (exact ⟨⟨j + 1, zh, zh, (by omega), by rw [hd, Q7 hx1, List.mem_cons]; exact ⟨fun h => h.resolve_left (by omega), .inr⟩, hS.sp⟩, Qx (by omega)⟩)
  · skip
    all_goals (refine zex ?_; refine Q0 ?_; refine Q1 ?_; refine zm ?_; refine zn ?_; refine zr ?_; refine zf ?_)
    all_goals (first | (exact ⟨_, rfl, j, rfl, ⟨fun _ => by rw [hd, Q7 hx1, List.mem_cons]; exact .inl (by omega), fun _ => by omega⟩, hS.sp⟩) | (exact ⟨_, rfl, -1, rfl, ⟨fun h => by omega, fun h => by rw [hd, List.drop_of_length_le (by omega)] at h; cases h⟩, hS.sp⟩))
theorem Qn6 {s : List Int} {c : Int} {v : Value} (hK : intR.sl cx v s) (hS : St cx w L) : Rets Try.prog Q2G [v, .int .i64 c] w fun u w' => u = .bool (decide (c ∈ s)) ∧ St cx w' L := by
  all_goals refine Q3E ?_
  all_goals (unfold slices_Contains_int_int_lc; refine Q0 ?_; refine Q1 ?_; refine zm ?_; refine zn ?_; refine Q0 ?_; refine Q1 ?_; refine zm ?_; refine zm ?_; refine zR2 (c := iindex_c hK hS) (h := ?_); rintro v1 w1 ⟨r, rfl, hr, hS⟩)
  all_goals (first | (refine Q53 ?_) | (refine Q56 ?_) | (refine Q24 rfl rfl (fun hc => ?_) (fun hc => ?_)))
  all_goals (refine zm ?_; refine zn ?_; refine zr ?_; refine zf ?_)
  all_goals (refine ⟨_, rfl, ?_, hS.sp⟩; (first | rw [decide_eq_true (hr.1 (by omega))] | rw [decide_eq_false (fun h => by have := hr.2 h; omega)]); done)
/-- What becomes of a judge by an instruction. -/
def JOk (cx : Cx) (L : List Res) (j : JP) (i : Nat) (r : Except Int JS) (u : Value) (w' : World) : Prop := u = .tuple #[] ∧ ∃ c' s' vl' css', cx.Le c' ∧ r = .ok s' ∧ tyR.ls c' css' s'.l ∧ St c' w' (L.set i (j.res s'.h vl' css'))
def JNo {α : Type} (cx : Cx) (L : List Res) (r : Except Int α) (u : Value) (w' : World) : Prop := ∃ e, r = .error e ∧ u = Q9w e ∧ St cx w' L
theorem jregs_b {h : List Bool} {p l : List Int} {q : Nat} {x : Int} (hx : l[q]? = some x) (hd : Q31 h [] l = Q31 h (l.take q) (l.drop q)) (hb : hasB h x = false) : Q31 h [] l = .error 10 := by
  rw [hd, Q7 hx, Q31, if_pos hb]
theorem QmX {h : List Bool} {l : List Int} {q : Nat} {x : Int} (hx : l[q]? = some x) (hd : Q31 h [] l = Q31 h (l.take q) (l.drop q)) (hb : hasB h x = true) (ht : x ∈ l.take q) : Q31 h [] l = .error 13 := by
  rw [hd, Q7 hx, Q31, if_neg (by rw [hb]; decide), if_pos ht]
theorem jregs_s {h : List Bool} {l : List Int} {q : Nat} {x : Int} (hx : l[q]? = some x) (hd : Q31 h [] l = Q31 h (l.take q) (l.drop q)) (hb : hasB h x = true) (ht : x ∉ l.take q) : Q31 h [] l = Q31 h (l.take (q + 1)) (l.drop (q + 1)) := by
  rw [hd, Q7 hx, Q31, if_neg (by rw [hb]; decide), if_neg ht, Q1B hx]
theorem Qqk {h : List Bool} {l : List Int} {q : Nat} (hd : Q31 h [] l = Q31 h (l.take q) (l.drop q)) (hq : l.length ≤ q) : Q31 h [] l = .ok () := by
  rw [hd, List.drop_of_length_le hq, Q31]
theorem jcall_c {s : JS} {x : Ins} {cs : List Value} (hm : m.Short) (hk : 0 ≤ x.k ∧ x.k < m.funcs.length) (hn : s.l.length ≤ 80) (hj : j.Fits cx m) (hx : insR.at cx cs x) (hls : tyR.ls cx css s.l) (hS : St cx w L) (hi : nth L i = some (j.res s.h vl css)) :
    Fins Try.prog Q4V [.pointer (some ⟨j.sp, 0, none⟩), .agg ⟨cs⟩] w (JOk cx L j i (QaR m s x)) (JNo cx L (QaR m s x)) := by
  have hS := hS.out hi
  have hle := St.refl hS
  obtain ⟨vr, va, rfl, hr, ha⟩ := Q1Q hx
  have hlr := hr.len
  have hla := ha.len
  have hm1 := hj.m
  unfold Fins
  all_goals refine Q7V ?_
  all_goals (unfold judge_State_call_lc; refine Q0 ?_; refine Q1 ?_; refine zb hS ?_; intro p3 w1 hS; refine zn ?_; refine Q0 ?_; refine zC [(0, none), (1, none), (2, none), (3, none), (4, none), (5, none), (6, none), (7, none), (8, none), (9, some (some [4, 6, 8])), (10, some none)] ?_; have hS := hS.drew; refine s_cq ?_; refine zm ?_; refine zt ?_; refine s_cq ?_; refine QA rfl ?_; refine zt ?_; refine s_cq ?_; refine Q2 rfl ?_; refine zt ?_; refine s_cq ?_; (first | refine Q2 rfl ?_ | refine Q1A rfl ?_); refine zt ?_; refine s_cq ?_; refine Qi hS rfl fd rfl ?_; refine zt ?_; refine s_cq ?_; refine Q2 rfl ?_; refine zt ?_; refine s_cq ?_; (first | (refine Qi hS rfl fd rfl ?_) | (refine zl hS ?_)); refine zt ?_; refine s_cq ?_; ((first | refine zi ?_ | refine zj ?_); intro b1 o1 cs1 x1 hat1 hx1 he1; obtain ⟨vp1, vr1, vb1, rfl, hp1, hr1, hb1⟩ := Q17 he1); refine zt ?_; refine s_cq ?_; (first | (refine zv hS ?_) | (refine zvk hS ?_)); refine zt ?_; refine Q10 ?_; refine Q8 hS ?_; intro p4 w1 hS; refine zt ?_; refine ⟨List.forall_mem_cons.2 ⟨(by (exact Q1f hS rfl fd rfl)), List.forall_mem_cons.2 ⟨(by first | (exact Q1f hS rfl fd rfl) | (exact Q1Y hS rfl fd rfl)), List.forall_mem_cons.2 ⟨(by first | (exact Q1f hS rfl fd rfl) | (exact Q33 hS rfl fd rfl rfl) | (exact Q5S hS (by assumption) rfl rfl rfl)), fun _ h => (List.not_mem_nil h).elim⟩⟩⟩, ?_⟩)
  all_goals (refine s_cf ?_; refine zsn hS ?_; intro w1 hS; have hS := hS.ns; refine zt ?_; refine zcn ?_; have ej : QaR m s x = (if (x.regs.length : Int) ≠ x1.regs then .error 2 else QF (Q31 s.h [] x.regs) fun _ => QF (QcJ s x.args x1.params x.regs) fun _ => if 80 < s.l.length + x1.results.length then .error 2 else .ok ⟨s.h, s.l ++ x1.results.map (renT x.regs)⟩) := by { unfold QaR; rw [hx1] }; have hsf := hm.2 x1 (List.mem_of_getElem? hx1); have hrl := hr1.len; refine Q0 ?_; refine Q1 ?_; refine Q2 rfl ?_; (first | (refine Qi hS rfl fd rfl ?_) | (refine zl hS ?_)); (first | (refine Qir hS fd vw hls.1 ?_) | (refine zL ?_)); refine Q2 rfl ?_; (first | (refine Qi hS rfl fd rfl ?_) | (refine zl hS ?_)))
  all_goals (first | (refine Q1h ?_) | (refine Q1i ?_) | (refine Qw rfl rfl (fun hc => ?_) (fun hc => ?_)))
  all_goals (first | (refine zR2 (c := Q2w hS) (h := ?_); rintro v1 w1 ⟨rfl, hS⟩) | (refine zE2 (c := Q2v hS) (p := by rintro v9 w9 ⟨rfl, hS⟩; (repeat (first | refine Qq ?_ | refine Qs ?_ | refine fun _ => ?_)); refine QO ?_; refine .inr ⟨_, rfl, ?_⟩; first | (exact ⟨_, ej.trans (if_pos (by omega)), rfl, (St.back0 hS.sp hi)⟩) | (exact ⟨_, by rw [ej, if_neg hne, QM (QmX hx2 hd (by simpa using hb1) (of_decide_eq_true hb))], rfl, (St.back0 hS.sp hi)⟩)) (h := fun _ _ h => h.elim)))
  all_goals (refine zn ?_; refine Q0 ?_; refine Q0 ?_; refine Q1 ?_; refine Q2 rfl ?_; (first | (refine Qi hS rfl fd rfl ?_) | (refine zl hS ?_)); (first | (refine Qir hS fd vw hls.1 ?_) | (refine zL ?_)); refine zm ?_; refine zn ?_; refine Qb ?_)
  refine zoL hS [0, 3, 4, 28, 29] (fun A LL ρ' w' => ∃ (q : Nat), Has ρ' A ∧ Has ρ' [(30, .int .i64 q)] ∧ (q ≤ x.regs.length) ∧ (Q31 s.h [] x.regs = Q31 s.h (x.regs.take q) (x.regs.drop q)) ∧ (¬ (x.regs.length : Int) ≠ x1.regs) ∧ St cx w' (LL)) (fun ρ' _ => (x.regs.length - iv (ρ' 30)).toNat) ?_ ?_
  · exact ⟨0, zh, zh, (by omega), by rfl, by omega, hS.sp⟩
  rintro ρ w1 ⟨q, hA, hρ, hq, hd, hne, hS⟩; obtain ⟨ρ, rfl⟩ := env2 hA hρ
  unfold Q3s
  all_goals (refine Q0 ?_; refine Q1 ?_; refine QC rfl rfl ?_; refine zn ?_; refine Q0 ?_)
  refine Qy rfl (fun hc => ?_) (fun hc => ?_)
  · skip
    all_goals (refine zsk ?_; refine Q0 ?_; refine Qb ?_; refine Q0 ?_; refine Q1 ?_; refine zm ?_; refine zi ?_; intro b2 o2 cs2 x2 hat2 hx2 he2; obtain rfl := Q1X he2; (first | (refine Qi hS rfl fd rfl ?_) | (refine zl hS ?_) | (refine zlk hS ?_)); refine zm ?_; refine zm ?_; refine zn ?_; refine Q0 ?_; refine Q1 ?_; refine zm ?_; refine QA rfl ?_; refine Q2 rfl ?_; refine Qi hS rfl fd rfl ?_; refine zm ?_; refine zR2 (c := jhas_c hS fd) (h := ?_); rintro v1 w1 ⟨rfl, hS⟩; refine Q1W rfl ?_; refine zE2 (c := Q3w hS) (p := by rintro v9 w9 ⟨rfl, hb, hS⟩; (repeat (first | refine Qq ?_ | refine Qs ?_ | refine fun _ => ?_)); refine QO ?_; refine .inr ⟨_, rfl, ?_⟩; exact ⟨_, by rw [ej, if_neg hne, QM (jregs_b (p := []) hx2 hd (by simpa using hb))], rfl, (St.back0 hS.sp hi)⟩) (h := ?_); rintro v1 w1 ⟨rfl, hb1, hS⟩; refine zn ?_; refine Q1 ?_; refine Q2 rfl ?_; (first | (refine Qi hS rfl fd rfl ?_) | (refine zl hS ?_)); refine zm ?_)
    all_goals (refine s_subL vw hr rfl rfl ⟨_, rfl⟩ rfl (by omega) (by omega) ?_; intro v4 hs4; rw [List.drop_zero] at hs4; refine zm ?_; refine zR2 (c := Qn6 (by assumption) hS) (h := ?_); rintro v1 w1 ⟨rfl, hS⟩)
    all_goals (first | (refine zR2 (c := Q2w hS) (h := ?_); rintro v1 w1 ⟨rfl, hS⟩) | (refine zE2 (c := Q2v hS) (p := by rintro v9 w9 ⟨rfl, hS⟩; (repeat (refine Qq ?_)); refine QO ?_; refine .inr ⟨_, rfl, ?_⟩; first | (exact ⟨_, ej.trans (if_pos (by omega)), rfl, (St.back0 hS.sp hi)⟩) | (exact ⟨_, by rw [ej, if_neg hne, QM (QmX hx2 hd (by simpa using hb1) (of_decide_eq_true hb))], rfl, (St.back0 hS.sp hi)⟩)) (h := fun _ _ h => h.elim)) | (refine zE2 (c := Q3w hS) (p := by rintro v9 w9 ⟨rfl, hb, hS⟩; (repeat (first | refine Qq ?_ | refine Qs ?_ | refine fun _ => ?_)); refine QO ?_; refine .inr ⟨_, rfl, ?_⟩; first | (exact ⟨_, ej.trans (if_pos (by omega)), rfl, (St.back0 hS.sp hi)⟩) | (exact ⟨_, by rw [ej, if_neg hne, QM (QmX hx2 hd (by simpa using hb1) (of_decide_eq_true hb))], rfl, (St.back0 hS.sp hi)⟩)) (h := ?_); rintro v1 w1 ⟨rfl, hb, hS⟩))
    all_goals (refine zn ?_; refine Q1 ?_; refine zad ?_; refine zm ?_; refine zn ?_; exact ⟨⟨q + 1, zh, zh, (by omega), by exact jregs_s hx2 hd (by simpa using hb1) (of_decide_eq_false hb), hne, hS.sp⟩, Qx (by omega)⟩)
  · skip
    all_goals (refine zex ?_; refine Q0 ?_; refine Q1 ?_; refine zm ?_; refine Q2 rfl ?_; (first | (refine Qi hS rfl fd rfl ?_) | (refine zl hS ?_)); refine Q2 rfl ?_; (first | (refine Qi hS rfl fd rfl ?_) | (refine zl hS ?_)); refine Q2 rfl ?_; (first | (refine Qi hS rfl fd rfl ?_) | (refine zl hS ?_)); refine zE4 (c := Qn2 (s := s) hsf.1.2 hls ha hp1 hr hS fd) (p := by rintro v9 w9 ⟨c, g1, rfl, hS⟩; (repeat (first | refine Qq ?_ | refine Qs ?_ | refine fun _ => ?_)); refine QO ?_; refine .inr ⟨_, rfl, ?_⟩; exact ⟨_, by rw [ej, if_neg hne, Qe (Qqk hd (by omega)), QM g1], rfl, (St.back0 hS.sp hi)⟩) (h := ?_); rintro v1 w1 ⟨har, rfl, hS⟩; have hrg := Qqk hd (by omega); refine zn ?_; refine Q0 ?_; refine zD [(0, none), (1, none), (2, none), (3, none), (4, none), (5, none), (6, none), (7, none), (8, none), (9, none), (10, some none)] ?_; have hS := hS.drew; refine zm ?_; refine QA rfl ?_; refine Q2 rfl ?_; refine Qi hS rfl fd rfl ?_)
    all_goals (refine Qir hS fd vw hls.1 ?_; refine Q2 rfl ?_; (first | (refine Qi hS rfl fd rfl ?_) | (refine zl hS ?_)); (first | (refine Qir hS fd vw hls.1 ?_) | (refine zL ?_)); refine zad ?_; refine Qez rfl rfl ?_; refine zE2 (c := Q3w hS) (p := by rintro v9 w9 ⟨rfl, hb, hS⟩; (repeat (first | refine Qq ?_ | refine Qs ?_ | refine fun _ => ?_)); refine QO ?_; refine .inr ⟨_, rfl, ?_⟩; exact ⟨_, by rw [ej, if_neg hne, Qe hrg, Qe har, if_pos (by have := of_decide_eq_true hb; omega)], rfl, (St.back0 hS.sp hi)⟩) (h := ?_); rintro v1 w1 ⟨rfl, hb, hS⟩; have h80 : ¬ 80 < s.l.length + x1.results.length := (by have := of_decide_eq_false hb; omega); refine zn ?_; refine Q0 ?_; refine Q1 ?_; refine Q2 rfl ?_; (first | (refine Qi hS rfl fd rfl ?_) | (refine zl hS ?_)); (first | (refine Qir hS fd vw hls.1 ?_) | (refine zL ?_)); refine zm ?_; refine zn ?_; refine Qb ?_)
    refine zo [0, 3, 71, 72] (fun A ρ' w' => ∃ (k1 : Cx) (q : Nat) (vl2 : Value) (cs2 : List (List Value)), Has ρ' A ∧ Has ρ' [(73, .int .i64 q)] ∧ (cx.Le k1) ∧ (q ≤ x1.results.length) ∧ (tyR.ls k1 cs2 (s.l ++ (x1.results.take q).map (renT x.regs))) ∧ St k1 w' (blk p4 31 [.int .i64 x1.regs, vp1, vr1, vb1] :: blk p3 27 [.int .i64 x.op, .int .i64 x.a, .int .i64 x.b, .int .i64 x.c, .int .i64 x.k, .int .i64 x.n, vr, va] :: j.res s.h vl2 cs2 :: L.eraseIdx i)) (fun ρ' _ => (x1.results.length - iv (ρ' 73)).toNat) ?_ ?_
    · exact ⟨cx, 0, vl, css, zh, zh, St.refl hS, (by omega), by simpa using hls, hS.sp⟩
    rintro ρ w1 ⟨k1, q, vl2, cs2, hA, hρ, hle2, hq, hls, hS⟩; obtain ⟨ρ, rfl⟩ := env2 hA hρ; have hL1 := hle2; (try have hle := hle.trans hle2); (try have hp1 := hp1.up hle2); (try have hr1 := hr1.up hle2); (try have hb1 := hb1.up hle2); (try have he1 := he1.up hle2); (try have hr := hr.up hle2); (try have ha := ha.up hle2); (try have hm1 := hm1.up hle2)
    unfold Q3a
    all_goals (refine Q0 ?_; refine Q1 ?_; refine QC rfl rfl ?_; refine zn ?_; refine Q0 ?_)
    refine Qy rfl (fun hc => ?_) (fun hc => ?_)
    · skip
      all_goals (refine zsk ?_; refine Q0 ?_; refine Qb ?_; refine Q0 ?_; refine Q1 ?_; refine zi ?_; intro b3 o3 cs3 x3 hat3 hx3 he3; obtain ⟨vl3, rfl, hl3⟩ := Ql he3; (first | (refine zv hS ?_) | (refine zvk hS ?_)); refine Q8 hS ?_; intro p8 w1 hS; refine zsn hS ?_; intro w1 hS; have hS := hS.ns; refine zn ?_; refine Q0 ?_; refine Q1 ?_; refine zv hS ?_; refine Q2 rfl ?_; (first | (refine Qi hS rfl fd rfl ?_) | (refine zl hS ?_)))
      all_goals (refine zR2 (c := pren_c x3 (hsf.2.1.2 x3 (List.mem_of_getElem? hx3)) he3 hr hS) (h := ?_); rintro v1 w1 ⟨c3, ds, rfl, hle2, hu3, hS⟩; (try have hle := hle.trans hle2); (try have hL1 := hL1.trans hle2); (try have hp1 := hp1.up hle2); (try have hr1 := hr1.up hle2); (try have hb1 := hb1.up hle2); (try have hl3 := hl3.up hle2); (try have he1 := he1.up hle2); (try have he3 := he3.up hle2); (try have hls := hls.up hle2); (try have hr := hr.up hle2); (try have ha := ha.up hle2); (try have hm1 := hm1.up hle2); have hu3' := hu3; obtain ⟨vu, rfl, hlu⟩ := Ql hu3)
      all_goals (refine zm ?_; refine QcG rfl rfl ?_; refine QcG rfl rfl ?_; refine Q8 hS ?_; intro p9 w1 hS; refine zsn hS ?_; intro w1 hS; have hS := hS.ns; refine zm ?_; refine zn ?_; refine Q1 ?_; refine zm ?_; refine zv hS ?_; refine zE2 (c := Q9l (s := ⟨s.h, _⟩) (by simp only [List.length_append, List.length_map, List.length_take]; omega) hu3' hls hS fd) (p := by rintro v9 w9 ⟨rfl, h80', hS⟩; (repeat (first | refine Qq ?_ | refine Qs ?_ | refine fun _ => ?_)); refine QO ?_; refine .inr ⟨_, rfl, ?_⟩; (exfalso; simp only [List.length_append, List.length_map, List.length_take] at h80'; omega)) (h := ?_); rintro v1 w1 ⟨rfl, hne80, vl4, cs4, hls4, hS⟩; have hS := hS.ns; refine zn ?_; refine Q1 ?_; refine zad ?_; refine zm ?_; refine zn ?_; exact ⟨⟨_, q + 1, vl4, cs4, zh, zh, hL1, (by omega), by rw [Q1B hx3, List.map_append, ← List.append_assoc]; exact hls4, hS.sp⟩, Qx (by omega)⟩)
    · skip
      all_goals (refine zex ?_; refine Q1y ?_; refine .inl ⟨_, rfl, rfl, k1, ⟨s.h, s.l ++ x1.results.map (renT x.regs)⟩, vl2, cs2, hL1, by rw [ej, if_neg hne, Qe hrg, Qe har, if_neg h80], ?_, (St.back hS.sp hi)⟩; rw [List.take_of_length_le (by omega)] at hls; exact hls)
end Go.Proofs.Ytanlkfeogoganaa
