/- Lemmas of the proof, part 4: what the functions of the program do (contracts), and what follows. -/
import Derived.Test.YtanlkfeogoganaaZ2
import Derived.Test.YtanlkfeogoganaaZ3
namespace Go.Proofs.Ytanlkfeogoganaa
open Go.Lir
set_option maxHeartbeats 1000000
attribute [local irreducible] LC.wp Q3 Qz QM retQ Q1x LO.wp Qf Calls
set_option linter.unusedSimpArgs false
set_option linter.unusedVariables false
variable {cx : Cx} {w : World} {L : List Res} {i : Nat}
abbrev jdg (b : Nat) (vf : Value) (g : Flt) (at' : Int) : Res := blk b 83 [vf, .int .i64 g.1, .int .i64 g.2, .int .i64 at']
theorem Q1N {is : Bool} {c : Int} {vf : Value} {g : Flt} {at' : Int} {b : Nat} (hc0 : is = true → c ≠ 0) (hS : St cx w L) (hi : nth L i = some (jdg b vf g at')) :
    Rets Try.prog Q2k [.pointer (some ⟨b, 0, none⟩), .bool is, .int .i64 c] w fun u w' => u = .tuple #[] ∧ St cx w' (L.set i (jdg b vf (orF g (mkF (if is = true then c else 0) at')) at')) := by
  have hS := hS.out hi
  cases is with
  | false =>
    have e : orF g (mkF (if false = true then c else 0) at') = g := QjC rfl
    rw [e]
    all_goals refine Q2j ?_
    all_goals (unfold code_judge_fail_lc; refine Q0 ?_; refine Q1 ?_; refine zm ?_; refine zm ?_; refine s_gn rfl rfl ?_; refine s_gn rfl rfl ?_; refine s_gn rfl rfl ?_; refine s_gn rfl rfl ?_; refine s_gn rfl rfl ?_)
    all_goals (refine s_gn rfl rfl ?_)
    all_goals ((first | (refine zpt ?_) | (refine zpf ?_)); refine zn ?_)
    all_goals
      first
      | (refine Q5 rfl ?_ -- Q2k c0
         all_goals (refine Q1 ?_; refine zm ?_; refine zm ?_; refine zm ?_; refine Qq rfl ?_; refine Q2 rfl ?_; refine zl hS ?_; refine zb2 [_, _] ?_; refine Qq rfl ?_; refine Q2 rfl ?_; refine zsn hS ?_; intro w1 hS; have hS := hS.ns)
         all_goals refine zn ?_)
      | (refine Q6 rfl ?_ -- Q2k c0
         all_goals refine zsk ?_)
    all_goals (refine Q2x ?_; exact ⟨_, rfl, rfl, St.back hS hi⟩)
  | true =>
    have hc0 := hc0 rfl
    by_cases h0 : g.1 = 0
    · have e : orF g (mkF (if true = true then c else 0) at') = (c, at') := by rw [if_pos rfl, mkF_c hc0]; unfold orF; rw [if_pos ⟨h0, hc0⟩]
      rw [e]
      all_goals refine Q2j ?_
      all_goals (unfold code_judge_fail_lc; refine Q0 ?_; refine Q1 ?_; refine zm ?_; refine zm ?_; (first | refine s_gn rfl rfl ?_ | (refine s_gy rfl ?_; refine zm ?_)); (first | refine s_gn rfl rfl ?_ | (refine s_gy rfl ?_; refine Qq rfl ?_)); (first | refine s_gn rfl rfl ?_ | (refine s_gy rfl ?_; refine Q2 rfl ?_)); (first | refine s_gn rfl rfl ?_ | (refine s_gy rfl ?_; (first | refine Q2 rfl ?_ | refine Q2o rfl ?_))); (first | refine s_gn rfl rfl ?_ | (refine s_gy rfl ?_; refine zl hS ?_)))
      all_goals (first | refine s_gn rfl rfl ?_ | (refine s_gy rfl ?_; refine Q10 ?_))
      all_goals (refine zpt ?_; refine zn ?_)
      all_goals refine Q5 rfl ?_
      all_goals (refine Q1 ?_; refine zm ?_; refine zm ?_; refine zm ?_; refine Qq rfl ?_; refine Q2 rfl ?_; refine zl hS ?_; refine zb2 [_, _] ?_; refine Qq rfl ?_; refine Q2 rfl ?_; (first | (refine zsn hS ?_; intro w1 hS; have hS := hS.ns) | (refine zsm hS ?_; intro w1 hS; have hS := hS.ns)); refine zn ?_; refine Q2x ?_; exact ⟨_, rfl, rfl, St.back hS hi⟩)
    · rw [orF_l h0]
      all_goals refine Q2j ?_
      all_goals (unfold code_judge_fail_lc; refine Q0 ?_; refine Q1 ?_; refine zm ?_; refine zm ?_; (first | refine s_gn rfl rfl ?_ | (refine s_gy rfl ?_; refine zm ?_)); (first | refine s_gn rfl rfl ?_ | (refine s_gy rfl ?_; refine Qq rfl ?_)); (first | refine s_gn rfl rfl ?_ | (refine s_gy rfl ?_; refine Q2 rfl ?_)); (first | refine s_gn rfl rfl ?_ | (refine s_gy rfl ?_; (first | refine Q2 rfl ?_ | refine Q2o rfl ?_))); (first | refine s_gn rfl rfl ?_ | (refine s_gy rfl ?_; refine zl hS ?_)))
      all_goals (first | refine s_gn rfl rfl ?_ | (refine s_gy rfl ?_; (first | (refine Q10 ?_) | (refine Q1p ?_))))
      all_goals (refine zpt ?_; refine zn ?_)
      all_goals refine Q6 rfl ?_
      all_goals (refine zsk ?_; refine Q2x ?_; exact ⟨_, rfl, rfl, St.back hS hi⟩)
theorem uindex_c {s : List UInt8} {c : Nat} {v : Value} (hK : u8R.sl cx v s) (hS : St cx w L) : Rets Try.prog Q1o [v, .int .u8 c] w fun u w' => ∃ r : Int, u = .int .i64 r ∧ (0 ≤ r ↔ (s.any fun b => decide (b.toNat = c)) = true) ∧ St cx w' L := by
  have hlen := hK.len
  all_goals refine Q3D ?_
  all_goals (unfold slices_Index_byte_byte_lc; refine Q0 ?_; refine Q1 ?_; refine zm ?_; refine zn ?_; refine Q0 ?_; refine Q0 ?_; refine Q1 ?_; refine zm ?_; refine zL ?_; refine zm ?_; refine zn ?_; refine Qa ?_)
  refine zoL hS [0, 1, 7] (fun A LL ρ' w' => ∃ (j : Nat), Has ρ' A ∧ Has ρ' [(8, .int .i64 j)] ∧ (j ≤ s.length) ∧ ((s.any fun b => decide (b.toNat = c)) = ((s.drop j).any fun b => decide (b.toNat = c))) ∧ St cx w' (LL)) (fun ρ' _ => (s.length - iv (ρ' 8)).toNat) ?_ ?_
  · exact ⟨0, zh, zh, (by omega), by simp, hS.sp⟩
  rintro ρ w1 ⟨j, hA, hρ, hj, hd, hS⟩; obtain ⟨ρ, rfl⟩ := env2 hA hρ
  unfold Q1X
  all_goals (refine Q0 ?_; refine Q1 ?_; refine Qu rfl rfl ?_; refine zn ?_; refine Q0 ?_)
  refine Ql rfl (fun hc => ?_) (fun hc => ?_)
  · skip
    all_goals (refine zsk ?_; refine Q0 ?_; refine Qa ?_; refine Q0 ?_; refine Q1 ?_; refine zm ?_; refine zm ?_; refine zn ?_; refine Q0 ?_; refine Q1 ?_; refine zm ?_; refine zm ?_; refine zm ?_; refine zi ?_; intro b1 o1 cs1 x1 hat1 hx1 he1; (first | (obtain rfl := Q1M he1) | (obtain rfl := Q5f he1)); (first | (refine zl hS ?_) | (refine zlk hS ?_)))
    all_goals (first | (refine Q10 ?_) | (refine Q1p ?_) | (refine Qk rfl rfl (fun hc => ?_) (fun hc => ?_)))
    all_goals (refine zn ?_)
    all_goals
      first
      | (refine Q5 rfl ?_ -- Q1o c1
         all_goals (refine Q0 ?_; refine Q1 ?_; refine zm ?_; refine zm ?_; refine zn ?_; refine zr ?_; refine zf ?_)
         all_goals (exact ⟨_, rfl, j, rfl, by rw [hd, Q7 hx1, List.any_cons, decide_eq_true (by omega), Bool.true_or]; simp, hS.sp⟩))
      | (refine Q6 rfl ?_ -- Q1o c1
         all_goals refine zsk ?_)
    all_goals (refine Q1 ?_; refine zad ?_; refine zm ?_; refine zn ?_; exact ⟨⟨j + 1, zh, zh, (by omega), by rw [hd, Q7 hx1, List.any_cons, decide_eq_false (by omega), Bool.false_or], hS.sp⟩, Qh (by omega)⟩)
  · skip
    all_goals (refine zex ?_; refine Q0 ?_; refine Q1 ?_; refine zm ?_; refine zn ?_; refine zr ?_; refine zf ?_; (first | (exact ⟨_, rfl, j, rfl, by rw [hd, Q7 hx1, List.any_cons, decide_eq_true (by omega), Bool.true_or]; simp, hS.sp⟩) | (exact ⟨_, rfl, -1, rfl, by rw [hd, List.drop_of_length_le (by omega)]; simp, hS.sp⟩)))
theorem Qik {s : List UInt8} {c : Nat} {v : Value} (hK : u8R.sl cx v s) (hS : St cx w L) : Rets Try.prog Q1Y [v, .int .u8 c] w fun u w' => u = .bool (s.any fun b => decide (b.toNat = c)) ∧ St cx w' L := by
  all_goals refine Q2U ?_
  all_goals (unfold slices_Contains_byte_byte_lc; refine Q0 ?_; refine Q1 ?_; refine zm ?_; refine zn ?_; refine Q0 ?_; refine Q1 ?_; refine zm ?_; refine zm ?_; refine zR2 (c := uindex_c hK hS) (h := ?_); rintro v1 w1 ⟨r, rfl, hr, hS⟩)
  all_goals (first | (refine Qhe ?_) | (refine Qhf ?_) | (refine Q5k rfl rfl (fun hc => ?_) (fun hc => ?_)))
  all_goals (refine zm ?_; refine zn ?_; refine zr ?_; refine zf ?_)
  all_goals (refine ⟨_, rfl, ?_, hS.sp⟩; (cases hb : (s.any fun b => decide (b.toNat = c)) <;> simp_all); done)
theorem QcA {s : ByteArray} {c : Nat} (hs : s.size ≤ 1000000) (hS : St cx w L) : Rets Try.prog Qi6 [.string s, .int .u8 c] w fun u w' => u = .bool (Q1d s c) ∧ St cx w' L := by
  have hle := St.refl hS
  all_goals refine Qi5 ?_
  all_goals (unfold code_with_lc; refine Q0 ?_; refine Q1 ?_; refine zm ?_; refine zn ?_; refine Q0 ?_; refine Q1 ?_; refine zm ?_; refine s_bytes (e := 5) (by kernel_rfl) (by kernel_rfl) (by kernel_rfl) hS vw ?_; intro v1 w1 hS; obtain ⟨c1, hle2, hS, hk1⟩ := St.freezeL (r := u8R) hS (Q8N _) rfl (by rw [Array.length_toList]; show s.size ≤ 140737488355328; omega); refine zm ?_; refine zR2 (c := Qik hk1 hS) (h := ?_); rintro v1 w1 ⟨rfl, hS⟩; refine zm ?_; refine zn ?_; refine zr ?_; refine zf ?_; exact ⟨_, rfl, rfl, St.weak hS.sp hle2⟩)
theorem has_c {op : Int} (hS : St cx w L) : Rets Try.prog Qjl [.int .i64 op] w fun u w' => u = .string (hasF op) ∧ St cx w' L := by
  by_cases hb : op < 1 ∨ 14 < op
  · have e : hasF op = ⟨#[]⟩ := by unfold hasF; rw [if_pos hb]
    rw [e]
    all_goals refine QdM ?_
    all_goals (unfold code_has_lc; refine Q0 ?_; refine Q1 ?_; refine zm ?_; refine zn ?_; refine Q0 ?_; refine Q0 ?_; refine Q1 ?_; refine zm ?_)
    all_goals (first | (refine Q2G ?_) | (refine Q2H ?_) | (refine Q1h rfl rfl (fun hc => ?_) (fun hc => ?_)))
    all_goals (refine zm ?_; (first | refine s_gn rfl rfl ?_ | (refine s_gy rfl ?_; refine zm ?_)))
    all_goals (first | refine s_gn rfl rfl ?_ | (refine s_gy rfl ?_; refine QZ ?_))
    all_goals ((first | (refine zpt ?_) | (refine zpf ?_)); refine zn ?_)
    all_goals refine Q5 rfl ?_
    all_goals (refine Q0 ?_; refine Q1 ?_; refine zm ?_; refine zn ?_; refine zr ?_; refine zf ?_; refine ⟨_, rfl, ?_, hS.sp⟩; (rfl); done)
  · have hu : (hasTab.map Value.string)[op.toNat]? = some (.string (hasF op)) := by
      rcases op_cases (op := op) (by omega) (by omega) with rfl | rfl | rfl | rfl | rfl | rfl | rfl | rfl | rfl | rfl | rfl | rfl | rfl | rfl <;> rfl
    generalize hasF op = s at hu ⊢
    all_goals refine QdM ?_
    all_goals (unfold code_has_lc; refine Q0 ?_; refine Q1 ?_; refine zm ?_; refine zn ?_; refine Q0 ?_; refine Q0 ?_; refine Q1 ?_; refine zm ?_)
    all_goals (first | (refine Q2G ?_) | (refine Q2H ?_))
    all_goals (refine zm ?_; (first | refine s_gn rfl rfl ?_ | (refine s_gy rfl ?_; refine zm ?_)))
    all_goals (first | refine s_gn rfl rfl ?_ | (refine s_gy rfl ?_; (first | (refine QZ ?_) | (refine Q1g ?_))))
    all_goals ((first | (refine zpt ?_) | (refine zpf ?_)); refine zn ?_)
    all_goals refine Q6 rfl ?_
    all_goals (refine zsk ?_; refine Q0 ?_; refine Q1 ?_; refine Qhp (cs := [_, _, _, _, _, _, _, _, _, _, _, _, _, _, _]) vw vw vw vw vw vw vw vw vw vw vw vw vw vw vw (by rfl) ?_; refine zm ?_; refine s_idxv (n := 15) (e := 9) (by kernel_rfl) (by kernel_rfl) (by kernel_rfl) vw vw (by omega) (by omega) hu ?_; refine zm ?_; refine zn ?_; refine zr ?_; refine zf ?_; refine ⟨_, rfl, ?_, hS.sp⟩; (rfl); done)
theorem QkS (op : Int) : (hasF op).size ≤ 1000000 := by
  by_cases hb : op < 1 ∨ 14 < op
  · unfold hasF; rw [if_pos hb]; decide
  · rcases op_cases (op := op) (by omega) (by omega) with rfl | rfl | rfl | rfl | rfl | rfl | rfl | rfl | rfl | rfl | rfl | rfl | rfl | rfl <;> decide
theorem ins_end {g : Flt} {at' : Int} {n : Nat} {x : Ins} {q : Bool} {c3 : Int} (hq : q = true ↔ (((((((Q1d (hasF x.op) 97 = false ∧ x.a ≠ 0) ∨ (Q1d (hasF x.op) 98 = false ∧ x.b ≠ 0)) ∨ (Q1d (hasF x.op) 99 = false ∧ x.c ≠ 0)) ∨ (Q1d (hasF x.op) 107 = false ∧ x.k ≠ 0)) ∨ (Q1d (hasF x.op) 110 = false ∧ x.n ≠ 0)) ∨ (Q1d (hasF x.op) 103 = false ∧ 0 < x.regs.length)) ∨ (Q1d (hasF x.op) 114 = false ∧ 0 < x.args.length))) (h3 : c3 = Q37 n x) :
    orF (orF (orF g (mkF (if x.op < 1 ∨ 14 < x.op then 3 else 0) at')) (mkF (if q = true then 4 else 0) at')) (mkF c3 at') = orF g (mkF (Q3J n x) at') := by
  rw [Q2d, Q2d]
  congr 2
  subst h3
  unfold Q3J
  by_cases hb : x.op < 1 ∨ 14 < x.op
  · rw [if_pos hb, if_pos hb]; rfl
  · rw [if_neg hb, if_neg hb]
    obtain ⟨h1, h2, h3, h4, h5, h6, h7⟩ := with_all x.op hb
    rw [h1, h2, h3, h4, h5, h6, h7] at hq
    simp only [or_assoc] at hq
    by_cases ho : x.odd
    · rw [if_pos ho, if_pos (hq.2 ho)]; rfl
    · rw [if_neg ho, if_neg fun h => ho (hq.1 h)]; rfl
theorem Q9N {a b : Int} (h : a ≠ 0) : orC a b = a := if_pos h
theorem Q7B (b : Int) : orC 0 b = b := rfl
section
attribute [local irreducible] orF mkF orC Q37 Q3J Q2a Q3K
set_option maxHeartbeats 1000000 in
theorem ins_c {x : Ins} {n : List Fun} {vf : Value} {g : Flt} {at' : Int} {b : Nat} {cs : List Value} (hx : insR.at cx cs x) (hf : funcR.sl cx vf n) (hS : St cx w L) (hi : nth L i = some (jdg b vf g at')) :
    Rets Try.prog Qy [.pointer (some ⟨b, 0, none⟩), .agg ⟨cs⟩] w fun u w' => u = .tuple #[] ∧ St cx w' (L.set i (jdg b vf (orF g (mkF (Q3J n.length x) at')) at')) := by
  have hS := hS.out hi
  obtain ⟨vr, va, rfl, hr, ha⟩ := Q2f hx
  have hlr := hr.len
  have hla := ha.len
  have hln := hf.len
  have hsz := QkS x.op
  all_goals refine Qaq ?_
  all_goals (unfold code_judge_ins_lc; refine Q0 ?_; refine Q1 ?_; refine zb hS ?_; intro p3 w1 hS; refine zn ?_)
  refine zM [0, 3] (fun A ρ' w' => Has ρ' A ∧ Has ρ' [] ∧ St cx w' (blk p3 27 [.int .i64 x.op, .int .i64 x.a, .int .i64 x.b, .int .i64 x.c, .int .i64 x.k, .int .i64 x.n, vr, va] :: jdg b vf (orF g (mkF (if x.op < 1 ∨ 14 < x.op then 3 else 0) at')) at' :: L.eraseIdx i)) ?_ ?_
  · skip
    all_goals (refine Q1 ?_; refine zm ?_; refine Q2 rfl ?_; refine zl hS ?_)
    all_goals (first | (refine Q2G ?_) | (refine Q2H ?_) | (refine Q1h rfl rfl (fun hc => ?_) (fun hc => ?_)))
    all_goals (refine zm ?_; (first | refine s_gn rfl rfl ?_ | (refine s_gy rfl ?_; refine Q2 rfl ?_)); (first | refine s_gn rfl rfl ?_ | (refine s_gy rfl ?_; refine zl hS ?_)))
    all_goals (first | refine s_gn rfl rfl ?_ | (refine s_gy rfl ?_; (first | (refine QZ ?_) | (refine Q1g ?_) | (refine Qg rfl rfl (fun hc => ?_) (fun hc => ?_)))))
    all_goals ((first | (refine zpt ?_) | (refine zpf ?_)); refine zR3 (c := Q1N (by intro _; decide) hS fd) (h := ?_); rintro v1 w1 ⟨rfl, hS⟩; simp only [List.set_cons_zero, List.set_cons_succ, if_true, Bool.false_eq_true, if_false] at hS; refine zn ?_; exact ⟨zh, zh, by first | (rw [if_pos (by omega)]; exact hS.sp) | (rw [if_neg (by omega)]; exact hS.sp)⟩)
  rintro ρ w1 ⟨hA, hρ, hS⟩; obtain ⟨ρ, rfl⟩ := env2 hA hρ
  all_goals (refine Q0 ?_; refine Q1 ?_; refine Q2 rfl ?_; refine zl hS ?_; refine zR1 (c := has_c hS) (h := ?_); rintro v1 w1 ⟨rfl, hS⟩; refine zm ?_; refine zn ?_; generalize hh : hasF x.op = h at *; refine Q0 ?_; refine Q1 ?_)
  refine zKL hS 9 [0, 3, 4] (fun A LL ρ' w' => ∃ (q1 : Bool), Has ρ' A ∧ Has ρ' [(18, .pointer (some ⟨b, 0, none⟩)), (26, .bool q1)] ∧ (q1 = true ↔ (Q1d h 97 = false ∧ x.a ≠ 0)) ∧ St cx w' (LL)) ?_ ?_
  · skip
    all_goals (refine zm ?_; refine zm ?_; refine zR2 (c := QcA hsz hS) (h := ?_); rintro v1 w1 ⟨rfl, hS⟩)
    all_goals (cases ha1 : Q1d h 97)
    all_goals (refine Q2J rfl ?_; refine zm ?_; (first | refine s_gn rfl rfl ?_ | (refine s_gy rfl ?_; refine Q2 rfl ?_)); (first | refine s_gn rfl rfl ?_ | (refine s_gy rfl ?_; refine zl hS ?_)))
    all_goals (first | refine s_gn rfl rfl ?_ | (refine s_gy rfl ?_; (first | (refine Q1F ?_) | (refine Q1G ?_) | (refine QC rfl rfl (fun hc => ?_) (fun hc => ?_)))))
    all_goals ((first | (refine zpt ?_) | (refine zpf ?_)); refine QcX ?_; refine Q3k ?_)
    all_goals (first | (exact ⟨_, zh, zh, by exact ⟨fun _ => ⟨(by first | rfl | assumption), by omega⟩, fun _ => rfl⟩, hS.sp⟩) | (exact ⟨_, zh, zh, by exact ⟨fun h => Bool.noConfusion h, fun h => by obtain ⟨h1, h2⟩ := h; first | (exfalso; omega) | (simp_all; done)⟩, hS.sp⟩))
  rintro ρ w1 ⟨q1, hA, hρ, hq1, hS⟩; obtain ⟨ρ, rfl⟩ := env2 hA hρ
  refine zKL hS 10 [0, 3, 4, 18] (fun A LL ρ' w' => ∃ (q2 : Bool), Has ρ' A ∧ Has ρ' [(36, .bool q2)] ∧ (q2 = true ↔ ((Q1d h 97 = false ∧ x.a ≠ 0) ∨ (Q1d h 98 = false ∧ x.b ≠ 0))) ∧ St cx w' (LL)) ?_ ?_
  · skip
    all_goals (cases q1)
    all_goals (refine zm ?_; (first | refine s_gn rfl rfl ?_ | (refine s_gy rfl ?_; refine zm ?_)); (first | refine s_gn rfl rfl ?_ | (refine s_gy rfl ?_; refine zR2 (c := QcA hsz hS) (h := ?_); rintro v1 w1 ⟨rfl, hS⟩)))
    all_goals (cases ha2 : Q1d h 98)
    all_goals ((first | refine s_gn rfl rfl ?_ | (refine s_gy rfl ?_; refine Q2J rfl ?_)); (first | refine s_gn rfl rfl ?_ | (refine s_gy rfl ?_; refine zm ?_)); (first | refine s_gn rfl rfl ?_ | (refine s_gy rfl ?_; refine Q2 rfl ?_)); (first | refine s_gn rfl rfl ?_ | (refine s_gy rfl ?_; refine zl hS ?_)))
    all_goals (first | refine s_gn rfl rfl ?_ | (refine s_gy rfl ?_; (first | (refine Q1F ?_) | (refine Q1G ?_) | (refine QC rfl rfl (fun hc => ?_) (fun hc => ?_)))))
    all_goals ((first | refine s_gn rfl rfl ?_ | (refine s_gy rfl ?_; (first | (refine zpt ?_) | (refine zpf ?_)))); (first | (refine zpt ?_) | (refine zpf ?_)); refine QcX ?_; refine Q3k ?_)
    all_goals (first | (exact ⟨_, zh, zh, by exact ⟨fun _ => .inl (hq1.1 rfl), fun _ => rfl⟩, hS.sp⟩) | (exact ⟨_, zh, zh, by exact ⟨fun _ => .inr ⟨(by first | rfl | assumption), by omega⟩, fun _ => rfl⟩, hS.sp⟩) | (exact ⟨_, zh, zh, by exact ⟨fun h => Bool.noConfusion h, fun h => h.elim (fun h => hq1.2 h) (fun h => by obtain ⟨h1, h2⟩ := h; first | (exfalso; omega) | (simp_all; done))⟩, hS.sp⟩))
  rintro ρ w1 ⟨q2, hA, hρ, hq2, hS⟩; obtain ⟨ρ, rfl⟩ := env2 hA hρ
  refine zKL hS 10 [0, 3, 4, 18] (fun A LL ρ' w' => ∃ (q3 : Bool), Has ρ' A ∧ Has ρ' [(46, .bool q3)] ∧ (q3 = true ↔ (((Q1d h 97 = false ∧ x.a ≠ 0) ∨ (Q1d h 98 = false ∧ x.b ≠ 0)) ∨ (Q1d h 99 = false ∧ x.c ≠ 0))) ∧ St cx w' (LL)) ?_ ?_
  · skip
    all_goals (cases q2)
    all_goals (refine zm ?_; (first | refine s_gn rfl rfl ?_ | (refine s_gy rfl ?_; refine zm ?_)); (first | refine s_gn rfl rfl ?_ | (refine s_gy rfl ?_; refine zR2 (c := QcA hsz hS) (h := ?_); rintro v1 w1 ⟨rfl, hS⟩)))
    all_goals (cases ha3 : Q1d h 99)
    all_goals ((first | refine s_gn rfl rfl ?_ | (refine s_gy rfl ?_; refine Q2J rfl ?_)); (first | refine s_gn rfl rfl ?_ | (refine s_gy rfl ?_; refine zm ?_)); (first | refine s_gn rfl rfl ?_ | (refine s_gy rfl ?_; refine Q2 rfl ?_)); (first | refine s_gn rfl rfl ?_ | (refine s_gy rfl ?_; refine zl hS ?_)))
    all_goals (first | refine s_gn rfl rfl ?_ | (refine s_gy rfl ?_; (first | (refine Q1F ?_) | (refine Q1G ?_) | (refine QC rfl rfl (fun hc => ?_) (fun hc => ?_)))))
    all_goals ((first | refine s_gn rfl rfl ?_ | (refine s_gy rfl ?_; (first | (refine zpt ?_) | (refine zpf ?_)))); (first | (refine zpt ?_) | (refine zpf ?_)); refine QcX ?_; refine Q3k ?_)
    all_goals (first | (exact ⟨_, zh, zh, by exact ⟨fun _ => .inl (hq2.1 rfl), fun _ => rfl⟩, hS.sp⟩) | (exact ⟨_, zh, zh, by exact ⟨fun _ => .inr ⟨(by first | rfl | assumption), by omega⟩, fun _ => rfl⟩, hS.sp⟩) | (exact ⟨_, zh, zh, by exact ⟨fun h => Bool.noConfusion h, fun h => h.elim (fun h => hq2.2 h) (fun h => by obtain ⟨h1, h2⟩ := h; first | (exfalso; omega) | (simp_all; done))⟩, hS.sp⟩))
  rintro ρ w1 ⟨q3, hA, hρ, hq3, hS⟩; obtain ⟨ρ, rfl⟩ := env2 hA hρ
  refine zKL hS 10 [0, 3, 4, 18] (fun A LL ρ' w' => ∃ (q4 : Bool), Has ρ' A ∧ Has ρ' [(56, .bool q4)] ∧ (q4 = true ↔ ((((Q1d h 97 = false ∧ x.a ≠ 0) ∨ (Q1d h 98 = false ∧ x.b ≠ 0)) ∨ (Q1d h 99 = false ∧ x.c ≠ 0)) ∨ (Q1d h 107 = false ∧ x.k ≠ 0))) ∧ St cx w' (LL)) ?_ ?_
  · skip
    all_goals (cases q3)
    all_goals (refine zm ?_; (first | refine s_gn rfl rfl ?_ | (refine s_gy rfl ?_; refine zm ?_)); (first | refine s_gn rfl rfl ?_ | (refine s_gy rfl ?_; refine zR2 (c := QcA hsz hS) (h := ?_); rintro v1 w1 ⟨rfl, hS⟩)))
    all_goals (cases ha4 : Q1d h 107)
    all_goals ((first | refine s_gn rfl rfl ?_ | (refine s_gy rfl ?_; refine Q2J rfl ?_)); (first | refine s_gn rfl rfl ?_ | (refine s_gy rfl ?_; refine zm ?_)); (first | refine s_gn rfl rfl ?_ | (refine s_gy rfl ?_; refine Q2 rfl ?_)); (first | refine s_gn rfl rfl ?_ | (refine s_gy rfl ?_; refine zl hS ?_)))
    all_goals (first | refine s_gn rfl rfl ?_ | (refine s_gy rfl ?_; (first | (refine Q1F ?_) | (refine Q1G ?_) | (refine QC rfl rfl (fun hc => ?_) (fun hc => ?_)))))
    all_goals ((first | refine s_gn rfl rfl ?_ | (refine s_gy rfl ?_; (first | (refine zpt ?_) | (refine zpf ?_)))); (first | (refine zpt ?_) | (refine zpf ?_)); refine QcX ?_; refine Q3k ?_)
    all_goals (first | (exact ⟨_, zh, zh, by exact ⟨fun _ => .inl (hq3.1 rfl), fun _ => rfl⟩, hS.sp⟩) | (exact ⟨_, zh, zh, by exact ⟨fun _ => .inr ⟨(by first | rfl | assumption), by omega⟩, fun _ => rfl⟩, hS.sp⟩) | (exact ⟨_, zh, zh, by exact ⟨fun h => Bool.noConfusion h, fun h => h.elim (fun h => hq3.2 h) (fun h => by obtain ⟨h1, h2⟩ := h; first | (exfalso; omega) | (simp_all; done))⟩, hS.sp⟩))
  rintro ρ w1 ⟨q4, hA, hρ, hq4, hS⟩; obtain ⟨ρ, rfl⟩ := env2 hA hρ
  refine zKL hS 10 [0, 3, 4, 18] (fun A LL ρ' w' => ∃ (q5 : Bool), Has ρ' A ∧ Has ρ' [(66, .bool q5)] ∧ (q5 = true ↔ (((((Q1d h 97 = false ∧ x.a ≠ 0) ∨ (Q1d h 98 = false ∧ x.b ≠ 0)) ∨ (Q1d h 99 = false ∧ x.c ≠ 0)) ∨ (Q1d h 107 = false ∧ x.k ≠ 0)) ∨ (Q1d h 110 = false ∧ x.n ≠ 0))) ∧ St cx w' (LL)) ?_ ?_
  · skip
    all_goals (cases q4)
    all_goals (refine zm ?_; (first | refine s_gn rfl rfl ?_ | (refine s_gy rfl ?_; refine zm ?_)); (first | refine s_gn rfl rfl ?_ | (refine s_gy rfl ?_; refine zR2 (c := QcA hsz hS) (h := ?_); rintro v1 w1 ⟨rfl, hS⟩)))
    all_goals (cases ha5 : Q1d h 110)
    all_goals ((first | refine s_gn rfl rfl ?_ | (refine s_gy rfl ?_; refine Q2J rfl ?_)); (first | refine s_gn rfl rfl ?_ | (refine s_gy rfl ?_; refine zm ?_)); (first | refine s_gn rfl rfl ?_ | (refine s_gy rfl ?_; refine Q2 rfl ?_)); (first | refine s_gn rfl rfl ?_ | (refine s_gy rfl ?_; refine zl hS ?_)))
    all_goals (first | refine s_gn rfl rfl ?_ | (refine s_gy rfl ?_; (first | (refine Q1F ?_) | (refine Q1G ?_) | (refine QC rfl rfl (fun hc => ?_) (fun hc => ?_)))))
    all_goals ((first | refine s_gn rfl rfl ?_ | (refine s_gy rfl ?_; (first | (refine zpt ?_) | (refine zpf ?_)))); (first | (refine zpt ?_) | (refine zpf ?_)); refine QcX ?_; refine Q3k ?_)
    all_goals (first | (exact ⟨_, zh, zh, by exact ⟨fun _ => .inl (hq4.1 rfl), fun _ => rfl⟩, hS.sp⟩) | (exact ⟨_, zh, zh, by exact ⟨fun _ => .inr ⟨(by first | rfl | assumption), by omega⟩, fun _ => rfl⟩, hS.sp⟩) | (exact ⟨_, zh, zh, by exact ⟨fun h => Bool.noConfusion h, fun h => h.elim (fun h => hq4.2 h) (fun h => by obtain ⟨h1, h2⟩ := h; first | (exfalso; omega) | (simp_all; done))⟩, hS.sp⟩))
  rintro ρ w1 ⟨q5, hA, hρ, hq5, hS⟩; obtain ⟨ρ, rfl⟩ := env2 hA hρ
  refine zKL hS 11 [0, 3, 4, 18] (fun A LL ρ' w' => ∃ (q6 : Bool), Has ρ' A ∧ Has ρ' [(77, .bool q6)] ∧ (q6 = true ↔ ((((((Q1d h 97 = false ∧ x.a ≠ 0) ∨ (Q1d h 98 = false ∧ x.b ≠ 0)) ∨ (Q1d h 99 = false ∧ x.c ≠ 0)) ∨ (Q1d h 107 = false ∧ x.k ≠ 0)) ∨ (Q1d h 110 = false ∧ x.n ≠ 0)) ∨ (Q1d h 103 = false ∧ 0 < x.regs.length))) ∧ St cx w' (LL)) ?_ ?_
  · skip
    all_goals (cases q5)
    all_goals (refine zm ?_; (first | refine s_gn rfl rfl ?_ | (refine s_gy rfl ?_; refine zm ?_)); (first | refine s_gn rfl rfl ?_ | (refine s_gy rfl ?_; refine zR2 (c := QcA hsz hS) (h := ?_); rintro v1 w1 ⟨rfl, hS⟩)))
    all_goals (cases ha6 : Q1d h 103)
    all_goals ((first | refine s_gn rfl rfl ?_ | (refine s_gy rfl ?_; refine Q2J rfl ?_)); (first | refine s_gn rfl rfl ?_ | (refine s_gy rfl ?_; refine zm ?_)); (first | refine s_gn rfl rfl ?_ | (refine s_gy rfl ?_; refine Q2 rfl ?_)); (first | refine s_gn rfl rfl ?_ | (refine s_gy rfl ?_; refine zl hS ?_)); (first | refine s_gn rfl rfl ?_ | (refine s_gy rfl ?_; refine zL ?_)))
    all_goals (first | refine s_gn rfl rfl ?_ | (refine s_gy rfl ?_; (first | (refine QZ ?_) | (refine Q1g ?_) | (refine Qg rfl rfl (fun hc => ?_) (fun hc => ?_)))))
    all_goals ((first | refine s_gn rfl rfl ?_ | (refine s_gy rfl ?_; (first | (refine zpt ?_) | (refine zpf ?_)))); (first | (refine zpt ?_) | (refine zpf ?_)); refine QcX ?_; refine Q3k ?_)
    all_goals (first | (exact ⟨_, zh, zh, by exact ⟨fun _ => .inl (hq5.1 rfl), fun _ => rfl⟩, hS.sp⟩) | (exact ⟨_, zh, zh, by exact ⟨fun _ => .inr ⟨(by first | rfl | assumption), by omega⟩, fun _ => rfl⟩, hS.sp⟩) | (exact ⟨_, zh, zh, by exact ⟨fun h => Bool.noConfusion h, fun h => h.elim (fun h => hq5.2 h) (fun h => by obtain ⟨h1, h2⟩ := h; first | (exfalso; omega) | (simp_all; done))⟩, hS.sp⟩))
  rintro ρ w1 ⟨q6, hA, hρ, hq6, hS⟩; obtain ⟨ρ, rfl⟩ := env2 hA hρ
  refine zKL hS 11 [0, 3, 18] (fun A LL ρ' w' => ∃ (q7 : Bool), Has ρ' A ∧ Has ρ' [(88, .bool q7)] ∧ (q7 = true ↔ (((((((Q1d h 97 = false ∧ x.a ≠ 0) ∨ (Q1d h 98 = false ∧ x.b ≠ 0)) ∨ (Q1d h 99 = false ∧ x.c ≠ 0)) ∨ (Q1d h 107 = false ∧ x.k ≠ 0)) ∨ (Q1d h 110 = false ∧ x.n ≠ 0)) ∨ (Q1d h 103 = false ∧ 0 < x.regs.length)) ∨ (Q1d h 114 = false ∧ 0 < x.args.length))) ∧ St cx w' (LL)) ?_ ?_
  · skip
    all_goals (cases q6)
    all_goals (refine zm ?_; (first | refine s_gn rfl rfl ?_ | (refine s_gy rfl ?_; refine zm ?_)); (first | refine s_gn rfl rfl ?_ | (refine s_gy rfl ?_; refine zR2 (c := QcA hsz hS) (h := ?_); rintro v1 w1 ⟨rfl, hS⟩)))
    all_goals (cases ha7 : Q1d h 114)
    all_goals ((first | refine s_gn rfl rfl ?_ | (refine s_gy rfl ?_; refine Q2J rfl ?_)); (first | refine s_gn rfl rfl ?_ | (refine s_gy rfl ?_; refine zm ?_)); (first | refine s_gn rfl rfl ?_ | (refine s_gy rfl ?_; refine Q2 rfl ?_)); (first | refine s_gn rfl rfl ?_ | (refine s_gy rfl ?_; refine zl hS ?_)); (first | refine s_gn rfl rfl ?_ | (refine s_gy rfl ?_; refine zL ?_)))
    all_goals (first | refine s_gn rfl rfl ?_ | (refine s_gy rfl ?_; (first | (refine QZ ?_) | (refine Q1g ?_) | (refine Qg rfl rfl (fun hc => ?_) (fun hc => ?_)))))
    all_goals ((first | refine s_gn rfl rfl ?_ | (refine s_gy rfl ?_; (first | (refine zpt ?_) | (refine zpf ?_)))); (first | (refine zpt ?_) | (refine zpf ?_)); refine QcX ?_; refine Q3k ?_)
    all_goals (first | (exact ⟨_, zh, zh, by exact ⟨fun _ => .inl (hq6.1 rfl), fun _ => rfl⟩, hS.sp⟩) | (exact ⟨_, zh, zh, by exact ⟨fun _ => .inr ⟨(by first | rfl | assumption), by omega⟩, fun _ => rfl⟩, hS.sp⟩) | (exact ⟨_, zh, zh, by exact ⟨fun h => Bool.noConfusion h, fun h => h.elim (fun h => hq6.2 h) (fun h => by obtain ⟨h1, h2⟩ := h; first | (exfalso; omega) | (simp_all; done))⟩, hS.sp⟩))
  rintro ρ w1 ⟨q7, hA, hρ, hq7, hS⟩; obtain ⟨ρ, rfl⟩ := env2 hA hρ
  all_goals (refine zR3 (c := Q1N (by intro _; decide) hS fd) (h := ?_); rintro v1 w1 ⟨rfl, hS⟩; simp only [List.set_cons_zero, List.set_cons_succ, if_true, Bool.false_eq_true, if_false] at hS; refine zn ?_; refine Q0 ?_; clear hq1 hq2 hq3 hq4 hq5 hq6; have hq := hq7; clear hq7; refine Q1 ?_; refine Q2 rfl ?_; refine zl hS ?_; refine zn ?_; refine Qa ?_; refine Q0 ?_; refine Q1 ?_)
  all_goals (first | (refine Q10 ?_) | (refine Q1p ?_) | (refine Qk rfl rfl (fun hc => ?_) (fun hc => ?_)))
  all_goals (refine zm ?_; refine zn ?_)
  all_goals
    first
    | (refine Q5 rfl ?_ -- Qy c0
       all_goals (refine Q1 ?_; refine zm ?_; refine Q2 rfl ?_; refine zl hS ?_)
       all_goals (first | (refine Q2G ?_) | (refine Q2H ?_) | (refine Q1h rfl rfl (fun hc => ?_) (fun hc => ?_)))
       all_goals (refine zm ?_; (first | refine s_gn rfl rfl ?_ | (refine s_gy rfl ?_; refine Q2 rfl ?_)); (first | refine s_gn rfl rfl ?_ | (refine s_gy rfl ?_; refine zl hS ?_)))
       all_goals (first | refine s_gn rfl rfl ?_ | (refine s_gy rfl ?_; (first | (refine QZ ?_) | (refine Q1g ?_) | (refine Qg rfl rfl (fun hc => ?_) (fun hc => ?_)))))
       all_goals ((first | (refine zpt ?_) | (refine zpf ?_)); refine zR3 (c := Q1N (by intro _; decide) hS fd) (h := ?_); rintro v1 w1 ⟨rfl, hS⟩; simp only [List.set_cons_zero, List.set_cons_succ, if_true, Bool.false_eq_true, if_false] at hS)
       all_goals refine zn ?_)
    | (refine Q6 rfl ?_ -- Qy c0
       all_goals (refine Q0 ?_; refine Q1 ?_)
       all_goals (first | (refine Q10 ?_) | (refine Q1p ?_) | (refine Qk rfl rfl (fun hc => ?_) (fun hc => ?_)))
       all_goals (refine zm ?_; refine zn ?_)
       all_goals
         first
         | (refine Q5 rfl ?_ -- Qy c1
            all_goals (refine Q1 ?_; refine zm ?_; refine Q2 rfl ?_; refine zl hS ?_; refine zL ?_)
            all_goals (first | (refine QZ ?_) | (refine Q1g ?_) | (refine Qg rfl rfl (fun hc => ?_) (fun hc => ?_)))
            all_goals (refine zR3 (c := Q1N (by intro _; decide) hS fd) (h := ?_); rintro v1 w1 ⟨rfl, hS⟩; simp only [List.set_cons_zero, List.set_cons_succ, if_true, Bool.false_eq_true, if_false] at hS)
            all_goals refine zn ?_)
         | (refine Q6 rfl ?_ -- Qy c1
            all_goals (refine Q0 ?_; refine Q0 ?_; refine Q1 ?_)
            all_goals (first | (refine Q10 ?_) | (refine Q1p ?_) | (refine Qk rfl rfl (fun hc => ?_) (fun hc => ?_)))
            all_goals (refine zm ?_; refine zn ?_)
            all_goals
              first
              | (refine Q5 rfl ?_ -- Qy c2
                 all_goals refine zsk ?_)
              | (refine Q6 rfl ?_ -- Qy c2
                 all_goals (refine Q1 ?_)
                 all_goals (first | (refine Q10 ?_) | (refine Q1p ?_) | (refine Qk rfl rfl (fun hc => ?_) (fun hc => ?_)))
                 all_goals (refine zm ?_)
                 all_goals refine zn ?_)
            all_goals
              first
              | (refine Q5 rfl ?_ -- Qy c3
                 all_goals (refine Q1 ?_; refine zm ?_; refine Q2 rfl ?_; refine zl hS ?_)
                 all_goals (first | (refine Q2G ?_) | (refine Q2H ?_) | (refine Q1h rfl rfl (fun hc => ?_) (fun hc => ?_)))
                 all_goals (refine zm ?_; (first | refine s_gn rfl rfl ?_ | (refine s_gy rfl ?_; refine Q2 rfl ?_)); (first | refine s_gn rfl rfl ?_ | (refine s_gy rfl ?_; refine zl hS ?_)))
                 all_goals (first | refine s_gn rfl rfl ?_ | (refine s_gy rfl ?_; (first | (refine Qhe ?_) | (refine Qhf ?_) | (refine Q5k rfl rfl (fun hc => ?_) (fun hc => ?_)))))
                 all_goals ((first | (refine zpt ?_) | (refine zpf ?_)); refine zR3 (c := Q1N (by intro _; decide) hS fd) (h := ?_); rintro v1 w1 ⟨rfl, hS⟩; simp only [List.set_cons_zero, List.set_cons_succ, if_true, Bool.false_eq_true, if_false] at hS)
                 all_goals refine zn ?_)
              | (refine Q6 rfl ?_ -- Qy c3
                 all_goals (refine Q0 ?_; refine Q1 ?_)
                 all_goals (first | (refine Q10 ?_) | (refine Q1p ?_) | (refine Qk rfl rfl (fun hc => ?_) (fun hc => ?_)))
                 all_goals (refine zm ?_; refine zn ?_)
                 all_goals
                   first
                   | (refine Q5 rfl ?_ -- Qy c4
                      all_goals (refine Q0 ?_; refine zD [(0, none), (1, none), (2, none), (3, none), (4, none), (5, none), (6, none), (7, none), (8, none), (9, none), (10, none), (11, none), (12, none), (13, none), (14, none), (15, some none)] ?_; have hS := hS.drew; refine zm ?_; refine Q2 rfl ?_; refine zl hS ?_)
                      all_goals (first | (refine Q2G ?_) | (refine Q2H ?_) | (refine Q1h rfl rfl (fun hc => ?_) (fun hc => ?_)))
                      all_goals (refine zm ?_; (first | refine s_gn rfl rfl ?_ | (refine s_gy rfl ?_; refine Q2 rfl ?_)); (first | refine s_gn rfl rfl ?_ | (refine s_gy rfl ?_; refine zl hS ?_)); (first | refine s_gn rfl rfl ?_ | (refine s_gy rfl ?_; refine zm ?_)); (first | refine s_gn rfl rfl ?_ | (refine s_gy rfl ?_; refine Qq rfl ?_)); (first | refine s_gn rfl rfl ?_ | (refine s_gy rfl ?_; refine Q2 rfl ?_)); (first | refine s_gn rfl rfl ?_ | (refine s_gy rfl ?_; refine Q2 rfl ?_)); (first | refine s_gn rfl rfl ?_ | (refine s_gy rfl ?_; refine zl hS ?_)); (first | refine s_gn rfl rfl ?_ | (refine s_gy rfl ?_; refine zL ?_)))
                      all_goals (first | refine s_gn rfl rfl ?_ | (refine s_gy rfl ?_; (first | (refine Qhe ?_) | (refine Qhf ?_) | (refine Q5k rfl rfl (fun hc => ?_) (fun hc => ?_)))))
                      all_goals ((first | (refine zpt ?_) | (refine zpf ?_)); refine zR3 (c := Q1N (by intro _; decide) hS fd) (h := ?_); rintro v1 w1 ⟨rfl, hS⟩; simp only [List.set_cons_zero, List.set_cons_succ, if_true, Bool.false_eq_true, if_false] at hS; refine zn ?_; refine Q1 ?_; refine zm ?_; refine Q2 rfl ?_; refine zl hS ?_; refine zL ?_)
                      all_goals (first | (refine QZ ?_) | (refine Q1g ?_) | (refine Qg rfl rfl (fun hc => ?_) (fun hc => ?_)))
                      all_goals (refine zm ?_; (first | refine s_gn rfl rfl ?_ | (refine s_gy rfl ?_; refine Q2 rfl ?_)); (first | refine s_gn rfl rfl ?_ | (refine s_gy rfl ?_; refine zl hS ?_)); (first | refine s_gn rfl rfl ?_ | (refine s_gy rfl ?_; refine zL ?_)))
                      all_goals (first | refine s_gn rfl rfl ?_ | (refine s_gy rfl ?_; (first | (refine QZ ?_) | (refine Q1g ?_) | (refine Qg rfl rfl (fun hc => ?_) (fun hc => ?_)))))
                      all_goals ((first | (refine zpt ?_) | (refine zpf ?_)); refine zR3 (c := Q1N (by intro _; decide) hS fd) (h := ?_); rintro v1 w1 ⟨rfl, hS⟩; simp only [List.set_cons_zero, List.set_cons_succ, if_true, Bool.false_eq_true, if_false] at hS)
                      all_goals refine zn ?_)
                   | (refine Q6 rfl ?_ -- Qy c4
                      all_goals refine zsk ?_))))
  all_goals (refine Q2x ?_; refine ⟨_, rfl, rfl, ?_⟩; subst hh; rw [← ins_end (c3 := Q37 n.length x) hq rfl]; clear hq hx hr ha hf hsz; have hS := hS.drop; refine St.back ?_ hi; first | (rw [show Q37 n.length x = 0 from (by unfold Q37; (repeat (first | rw [if_pos (by omega)] | rw [if_neg (by omega)])))]; first | (rw [mkF_0, QjC rfl]; exact hS) | exact hS | (rw [Q2d, Q7B] at hS; exact hS)) | (rw [show Q37 n.length x = 1 from (by unfold Q37; (repeat (first | rw [if_pos (by omega)] | rw [if_neg (by omega)])))]; first | exact hS | (rw [Q2d, Q9N (by decide)] at hS; exact hS)) | (rw [show Q37 n.length x = 2 from (by unfold Q37; (repeat (first | rw [if_pos (by omega)] | rw [if_neg (by omega)])))]; first | exact hS | (rw [Q2d, Q7B] at hS; exact hS)) | (trace_state; fail "end"))
theorem to_c {x : Fun} {t : To} {is : Bool} {vf : Value} {g : Flt} {at' : Int} {b : Nat} {cs ds : List Value} (hx : funcR.at cx cs x) (ht : toR.at cx ds t) (hS : St cx w L) (hi : nth L i = some (jdg b vf g at')) :
    Rets Try.prog Q9j [.pointer (some ⟨b, 0, none⟩), .agg ⟨cs⟩, .agg ⟨ds⟩, .bool is] w fun u w' => u = .tuple #[] ∧ St cx w' (L.set i (jdg b vf (orF g (mkF (Q2a x.blocks.length t is) at')) at')) := by
  have hS := hS.out hi
  obtain ⟨vp, vr, vb, rfl, hp, hr, hb⟩ := Q1H hx
  obtain ⟨v1, v2, rfl, h1, h2⟩ := Q7y ht
  have hlb := hb.len
  have hl1 := h1.len
  have hl2 := h2.len
  cases is with
  | false =>
    all_goals refine Q4I ?_
    all_goals (unfold code_judge_to_lc; refine Q0 ?_; refine Q1 ?_; refine zb hS ?_; intro p5 w1 hS; refine zb hS ?_; intro p6 w1 hS; refine zn ?_; refine Q0 ?_; refine Q0 ?_; refine Q1 ?_; refine zm ?_; refine Q2J rfl ?_; refine zn ?_)
    all_goals refine Q5 rfl ?_
    all_goals (refine Q0 ?_; refine Q1 ?_; refine zm ?_; refine Q2 rfl ?_; refine zl hS ?_)
    all_goals (first | (refine Q1F ?_) | (refine Q1G ?_) | (refine QC rfl rfl (fun hc => ?_) (fun hc => ?_)))
    all_goals (refine zm ?_; (first | refine s_gn rfl rfl ?_ | (refine s_gy rfl ?_; refine Q2 rfl ?_)); (first | refine s_gn rfl rfl ?_ | (refine s_gy rfl ?_; refine zl hS ?_)); (first | refine s_gn rfl rfl ?_ | (refine s_gy rfl ?_; refine zL ?_)))
    all_goals (first | refine s_gn rfl rfl ?_ | (refine s_gy rfl ?_; (first | (refine QZ ?_) | (refine Q1g ?_) | (refine Qg rfl rfl (fun hc => ?_) (fun hc => ?_)))))
    all_goals ((first | (refine zpt ?_) | (refine zpf ?_)); refine zm ?_; (first | refine s_gn rfl rfl ?_ | (refine s_gy rfl ?_; refine Q2 rfl ?_)); (first | refine s_gn rfl rfl ?_ | (refine s_gy rfl ?_; refine zl hS ?_)); (first | refine s_gn rfl rfl ?_ | (refine s_gy rfl ?_; refine zL ?_)))
    all_goals (first | refine s_gn rfl rfl ?_ | (refine s_gy rfl ?_; (first | (refine QZ ?_) | (refine Q1g ?_) | (refine Qg rfl rfl (fun hc => ?_) (fun hc => ?_)))))
    all_goals ((first | (refine zpt ?_) | (refine zpf ?_)); refine zR3 (c := Q1N (by intro _; decide) hS fd) (h := ?_); rintro v1 w1 ⟨rfl, hS⟩; simp only [List.set_cons_zero, List.set_cons_succ, if_true, Bool.false_eq_true, if_false] at hS; refine zn ?_; refine zr ?_; refine q_ret0 ?_; refine ⟨_, rfl, rfl, ?_⟩; have hS := hS.drop.drop; refine St.back ?_ hi; first | (rw [show Q2a x.blocks.length t false = 4 from (by unfold Q2a; rw [if_pos rfl, if_pos (by omega)])]; exact hS) | (rw [show Q2a x.blocks.length t false = 0 from (by unfold Q2a; rw [if_pos rfl, if_neg (by omega)])]; exact hS))
  | true =>
    all_goals refine Q4I ?_
    all_goals (unfold code_judge_to_lc; refine Q0 ?_; refine Q1 ?_; refine zb hS ?_; intro p5 w1 hS; refine zb hS ?_; intro p6 w1 hS; refine zn ?_; refine Q0 ?_; refine Q0 ?_; refine Q1 ?_; refine zm ?_; refine Q2J rfl ?_; refine zn ?_)
    all_goals refine Q6 rfl ?_
    all_goals (refine zsk ?_; refine Q0 ?_; refine Q1 ?_; refine zm ?_; refine Q2 rfl ?_; refine zl hS ?_)
    all_goals (first | (refine Q2G ?_) | (refine Q2H ?_) | (refine Q1h rfl rfl (fun hc => ?_) (fun hc => ?_)))
    all_goals (refine zm ?_; (first | refine s_gn rfl rfl ?_ | (refine s_gy rfl ?_; refine Q2 rfl ?_)); (first | refine s_gn rfl rfl ?_ | (refine s_gy rfl ?_; refine zl hS ?_)); (first | refine s_gn rfl rfl ?_ | (refine s_gy rfl ?_; refine Q2 rfl ?_)); (first | refine s_gn rfl rfl ?_ | (refine s_gy rfl ?_; refine zl hS ?_)); (first | refine s_gn rfl rfl ?_ | (refine s_gy rfl ?_; refine zL ?_)))
    all_goals (first | refine s_gn rfl rfl ?_ | (refine s_gy rfl ?_; (first | (refine Qhe ?_) | (refine Qhf ?_) | (refine Q5k rfl rfl (fun hc => ?_) (fun hc => ?_)))))
    all_goals ((first | (refine zpt ?_) | (refine zpf ?_)); refine zR3 (c := Q1N (by intro _; decide) hS fd) (h := ?_); rintro v1 w1 ⟨rfl, hS⟩; simp only [List.set_cons_zero, List.set_cons_succ, if_true, Bool.false_eq_true, if_false] at hS; refine zn ?_; refine Q1 ?_; refine zm ?_; refine Q2 rfl ?_; refine zl hS ?_; refine zL ?_)
    all_goals (first | (refine QZ ?_) | (refine Q1g ?_) | (refine Qg rfl rfl (fun hc => ?_) (fun hc => ?_)))
    all_goals (refine zm ?_; (first | refine s_gn rfl rfl ?_ | (refine s_gy rfl ?_; refine Q2 rfl ?_)); (first | refine s_gn rfl rfl ?_ | (refine s_gy rfl ?_; refine zl hS ?_)); (first | refine s_gn rfl rfl ?_ | (refine s_gy rfl ?_; refine zL ?_)))
    all_goals (first | refine s_gn rfl rfl ?_ | (refine s_gy rfl ?_; (first | (refine QZ ?_) | (refine Q1g ?_) | (refine Qg rfl rfl (fun hc => ?_) (fun hc => ?_)))))
    all_goals ((first | (refine zpt ?_) | (refine zpf ?_)); refine zR3 (c := Q1N (by intro _; decide) hS fd) (h := ?_); rintro v1 w1 ⟨rfl, hS⟩; simp only [List.set_cons_zero, List.set_cons_succ, if_true, Bool.false_eq_true, if_false] at hS; refine zn ?_; refine Q2x ?_; refine ⟨_, rfl, rfl, ?_⟩; have hS := hS.drop.drop; rw [Q2d] at hS; refine St.back ?_ hi; first | (rw [show Q2a x.blocks.length t true = 1 from (by unfold Q2a; rw [if_neg Bool.noConfusion, if_pos (by omega)])]; rw [Q9N (by decide)] at hS; exact hS) | (rw [show Q2a x.blocks.length t true = 2 from (by unfold Q2a; rw [if_neg Bool.noConfusion, if_neg (by omega), if_pos (by omega)])]; rw [Q7B] at hS; exact hS) | (rw [show Q2a x.blocks.length t true = 0 from (by unfold Q2a; rw [if_neg Bool.noConfusion, if_neg (by omega), if_neg (by omega)])]; rw [Q7B] at hS; exact hS))
theorem end_sum {g : Flt} {at' : Int} {n : Nat} {e : Tail} : orF (orF (orF (orF (orF g (mkF (if e.op < 1 ∨ 3 < e.op then 3 else 0) at')) (mkF (if e.op ≠ 2 ∧ e.a ≠ 0 ∨ e.op ≠ 3 ∧ 0 < e.args.length then 4 else 0) at')) (mkF (if 8 < e.args.length then 2 else 0) at')) (mkF (Q2a n e.yes (decide (e.op ≠ 3))) at')) (mkF (Q2a n e.no (decide (e.op = 2))) at') = orF g (mkF (Q3K n e) at') := by
  rw [Q2d, Q2d, Q2d, Q2d]
  congr 2
  unfold Q3K
  split
  · simp only [Q9N (show (3 : Int) ≠ 0 by decide)]
  · rw [Q7B]
    split
    · simp only [Q9N (show (4 : Int) ≠ 0 by decide)]
    · rw [Q7B]
      split
      · simp only [Q9N (show (2 : Int) ≠ 0 by decide)]
      · rw [Q7B]
theorem end_c {x : Fun} {e : Tail} {vf : Value} {g : Flt} {at' : Int} {b : Nat} {cs ds : List Value} (hx : funcR.at cx cs x) (he : endR.at cx ds e) (hS : St cx w L) (hi : nth L i = some (jdg b vf g at')) :
    Rets Try.prog Q7t [.pointer (some ⟨b, 0, none⟩), .agg ⟨cs⟩, .agg ⟨ds⟩] w fun u w' => u = .tuple #[] ∧ St cx w' (L.set i (jdg b vf (orF g (mkF (Q3K x.blocks.length e) at')) at')) := by
  have hS := hS.out hi
  obtain ⟨vp, vr, vb, rfl, hp, hr, hb⟩ := Q1H hx
  obtain ⟨v1, v2, v3, v4, v5, rfl, h1, h2, h3, h4, h5⟩ := Qgk he
  have hl5 := h5.len
  all_goals refine Qax ?_
  all_goals (unfold code_judge_end_lc; refine Q0 ?_; refine Q1 ?_; refine zb hS ?_; intro p4 w1 hS; refine zb hS ?_; intro p5 w1 hS; refine zn ?_)
  refine zM [0, 4, 5] (fun A ρ' w' => Has ρ' A ∧ Has ρ' [] ∧ St cx w' (blk p5 35 [.int .i64 e.op, .int .i64 e.a, .int .i64 e.yes.block, v1, v2, .int .i64 e.no.block, v3, v4, v5] :: blk p4 31 [.int .i64 x.regs, vp, vr, vb] :: jdg b vf (orF g (mkF (if e.op < 1 ∨ 3 < e.op then 3 else 0) at')) at' :: L.eraseIdx i)) ?_ ?_
  · skip
    all_goals (refine Q1 ?_; refine zm ?_; refine Q2 rfl ?_; refine zl hS ?_)
    all_goals (first | (refine Q2G ?_) | (refine Q2H ?_) | (refine Q1h rfl rfl (fun hc => ?_) (fun hc => ?_)))
    all_goals (refine zm ?_; (first | refine s_gn rfl rfl ?_ | (refine s_gy rfl ?_; refine Q2 rfl ?_)); (first | refine s_gn rfl rfl ?_ | (refine s_gy rfl ?_; refine zl hS ?_)))
    all_goals (first | refine s_gn rfl rfl ?_ | (refine s_gy rfl ?_; (first | (refine QZ ?_) | (refine Q1g ?_) | (refine Qg rfl rfl (fun hc => ?_) (fun hc => ?_)))))
    all_goals ((first | (refine zpt ?_) | (refine zpf ?_)); refine zR3 (c := Q1N (by intro _; decide) hS fd) (h := ?_); rintro v1 w1 ⟨rfl, hS⟩; simp only [List.set_cons_zero, List.set_cons_succ, if_true, Bool.false_eq_true, if_false] at hS; refine zn ?_; exact ⟨zh, zh, by first | (rw [if_pos (by omega)]; exact hS.sp) | (rw [if_neg (by omega)]; exact hS.sp)⟩)
  rintro ρ w1 ⟨hA, hρ, hS⟩; obtain ⟨ρ, rfl⟩ := env2 hA hρ
  refine zM [0, 4, 5] (fun A ρ' w' => Has ρ' A ∧ Has ρ' [] ∧ St cx w' (blk p5 35 [.int .i64 e.op, .int .i64 e.a, .int .i64 e.yes.block, v1, v2, .int .i64 e.no.block, v3, v4, v5] :: blk p4 31 [.int .i64 x.regs, vp, vr, vb] :: jdg b vf (orF (orF g (mkF (if e.op < 1 ∨ 3 < e.op then 3 else 0) at')) (mkF (if e.op ≠ 2 ∧ e.a ≠ 0 ∨ e.op ≠ 3 ∧ 0 < e.args.length then 4 else 0) at')) at' :: L.eraseIdx i)) ?_ ?_
  · skip
    all_goals (refine Q1 ?_; refine zm ?_; refine Q2 rfl ?_; refine zl hS ?_)
    all_goals (first | (refine Q1F ?_) | (refine Q1G ?_) | (refine QC rfl rfl (fun hc => ?_) (fun hc => ?_)))
    all_goals (refine zm ?_; (first | refine s_gn rfl rfl ?_ | (refine s_gy rfl ?_; refine Q2 rfl ?_)); (first | refine s_gn rfl rfl ?_ | (refine s_gy rfl ?_; refine zl hS ?_)))
    all_goals (first | refine s_gn rfl rfl ?_ | (refine s_gy rfl ?_; (first | (refine Q1F ?_) | (refine Q1G ?_) | (refine QC rfl rfl (fun hc => ?_) (fun hc => ?_)))))
    all_goals ((first | (refine zpt ?_) | (refine zpf ?_)); refine zm ?_; (first | refine s_gn rfl rfl ?_ | (refine s_gy rfl ?_; refine Q2 rfl ?_)); (first | refine s_gn rfl rfl ?_ | (refine s_gy rfl ?_; refine zl hS ?_)))
    all_goals (first | refine s_gn rfl rfl ?_ | (refine s_gy rfl ?_; (first | (refine Q1F ?_) | (refine Q1G ?_) | (refine QC rfl rfl (fun hc => ?_) (fun hc => ?_)))))
    all_goals ((first | refine s_gn rfl rfl ?_ | (refine s_gy rfl ?_; refine zm ?_)); (first | refine s_gn rfl rfl ?_ | (refine s_gy rfl ?_; refine Q2 rfl ?_)); (first | refine s_gn rfl rfl ?_ | (refine s_gy rfl ?_; refine zl hS ?_)); (first | refine s_gn rfl rfl ?_ | (refine s_gy rfl ?_; refine zL ?_)))
    all_goals (first | refine s_gn rfl rfl ?_ | (refine s_gy rfl ?_; (first | (refine QZ ?_) | (refine Q1g ?_) | (refine Qg rfl rfl (fun hc => ?_) (fun hc => ?_)))))
    all_goals ((first | refine s_gn rfl rfl ?_ | (refine s_gy rfl ?_; (first | (refine zpt ?_) | (refine zpf ?_)))); (first | (refine zpt ?_) | (refine zpf ?_)); refine zR3 (c := Q1N (by intro _; decide) hS fd) (h := ?_); rintro v1 w1 ⟨rfl, hS⟩; simp only [List.set_cons_zero, List.set_cons_succ, if_true, Bool.false_eq_true, if_false] at hS; refine zn ?_; exact ⟨zh, zh, by first | (rw [if_pos (c := e.op ≠ 2 ∧ e.a ≠ 0 ∨ e.op ≠ 3 ∧ 0 < e.args.length) (by omega)]; exact hS.sp) | (rw [if_neg (c := e.op ≠ 2 ∧ e.a ≠ 0 ∨ e.op ≠ 3 ∧ 0 < e.args.length) (by omega)]; exact hS.sp)⟩)
  rintro ρ w1 ⟨hA, hρ, hS⟩; obtain ⟨ρ, rfl⟩ := env2 hA hρ
  refine zM [0, 4, 5] (fun A ρ' w' => Has ρ' A ∧ Has ρ' [] ∧ St cx w' (blk p5 35 [.int .i64 e.op, .int .i64 e.a, .int .i64 e.yes.block, v1, v2, .int .i64 e.no.block, v3, v4, v5] :: blk p4 31 [.int .i64 x.regs, vp, vr, vb] :: jdg b vf (orF (orF (orF g (mkF (if e.op < 1 ∨ 3 < e.op then 3 else 0) at')) (mkF (if e.op ≠ 2 ∧ e.a ≠ 0 ∨ e.op ≠ 3 ∧ 0 < e.args.length then 4 else 0) at')) (mkF (if 8 < e.args.length then 2 else 0) at')) at' :: L.eraseIdx i)) ?_ ?_
  · skip
    all_goals (refine Q1 ?_; refine zm ?_; refine Q2 rfl ?_; refine zl hS ?_; refine zL ?_)
    all_goals (first | (refine QZ ?_) | (refine Q1g ?_) | (refine Qg rfl rfl (fun hc => ?_) (fun hc => ?_)))
    all_goals (refine zR3 (c := Q1N (by intro _; decide) hS fd) (h := ?_); rintro v1 w1 ⟨rfl, hS⟩; simp only [List.set_cons_zero, List.set_cons_succ, if_true, Bool.false_eq_true, if_false] at hS; refine zn ?_; exact ⟨zh, zh, by first | (rw [if_pos (c := 8 < e.args.length) (by omega)]; exact hS.sp) | (rw [if_neg (c := 8 < e.args.length) (by omega)]; exact hS.sp)⟩)
  rintro ρ w1 ⟨hA, hρ, hS⟩; obtain ⟨ρ, rfl⟩ := env2 hA hρ
  all_goals (refine Q0 ?_; refine Q1 ?_; refine zm ?_; refine zv hS ?_; refine Q2 rfl ?_; refine zv hS ?_; refine Q2 rfl ?_; refine zl hS ?_; refine Q7z rfl rfl ?_; refine zR4 (c := to_c (t := e.yes) hx ⟨_, _, rfl, h1, h2⟩ hS fd) (h := ?_); rintro v1 w1 ⟨rfl, hS⟩; have hS := hS.ns; refine zn ?_; refine Q1 ?_; refine zm ?_; refine zv hS ?_; refine Q2 rfl ?_; refine zv hS ?_; refine Q2 rfl ?_; refine zl hS ?_; refine Qg7 rfl rfl ?_; refine zR4 (c := to_c (t := e.no) hx ⟨_, _, rfl, h3, h4⟩ hS fd) (h := ?_); rintro v1 w1 ⟨rfl, hS⟩; have hS := hS.ns; refine zn ?_; refine Q2x ?_; refine ⟨_, rfl, rfl, ?_⟩; rw [end_sum] at hS; exact St.back hS.drop.drop hi)
end
end Go.Proofs.Ytanlkfeogoganaa
namespace Go.Proofs.Ytanlkfeogoganaa
open Go.Lir
set_option maxHeartbeats 1000000
attribute [local irreducible] LC.wp Q3 Qz QM retQ Q1x LO.wp Qf Calls
set_option linter.unusedSimpArgs false
set_option linter.unusedVariables false
variable {cx : Cx} {w : World} {L : List Res}
theorem QkG (f : Nat) (hf : f ≤ 1000000) (hS : St cx w L) : Rets Try.prog QdO [.int .i64 f] w fun u w' => u = .int .i64 (Q3e f) ∧ St cx w' L := by
  unfold Q3e
  all_goals refine QeN ?_
  all_goals (unfold code_FuncAt_lc; refine Q0 ?_; refine Q1 ?_; refine zm ?_; refine zn ?_; refine Q0 ?_; refine Q1 ?_; refine zm ?_; refine zmu ?_; refine zad ?_; refine zm ?_; refine zn ?_; refine zr ?_; refine zf ?_; refine ⟨_, rfl, ?_, hS.sp⟩; (rfl); done)
theorem QjB (f b : Nat) (hf : f ≤ 1000000) (hb : b ≤ 1000000) (hS : St cx w L) : Rets Try.prog Qb7 [.int .i64 f, .int .i64 b] w fun u w' => u = .int .i64 (Q3N f b) ∧ St cx w' L := by
  unfold Q3N
  all_goals refine QdU ?_
  all_goals (unfold code_BlockAt_lc; refine Q0 ?_; refine Q1 ?_; refine zm ?_; refine zn ?_; refine Q0 ?_; refine Q1 ?_; refine zm ?_; refine zmu ?_; refine zm ?_; refine zmu ?_; refine zad ?_; refine zad ?_; refine zm ?_; refine zn ?_; refine zr ?_; refine zf ?_; refine ⟨_, rfl, ?_, hS.sp⟩; (rfl); done)
theorem pEndAt_c (f b : Nat) (hf : f ≤ 1000000) (hb : b ≤ 1000000) (hS : St cx w L) : Rets Try.prog QfI [.int .i64 f, .int .i64 b] w fun u w' => u = .int .i64 (QiV f b) ∧ St cx w' L := by
  unfold QiV
  all_goals refine QgC ?_
  all_goals (unfold code_EndAt_lc; refine Q0 ?_; refine Q1 ?_; refine zm ?_; refine zn ?_; refine Q0 ?_; refine Q1 ?_; refine zm ?_; refine zmu ?_; refine zm ?_; refine zmu ?_; refine zad ?_; refine zad ?_; refine zm ?_; refine zn ?_; refine zr ?_; refine zf ?_; refine ⟨_, rfl, ?_, hS.sp⟩; (rfl); done)
theorem pInsAt_c (f b i : Nat) (hf : f ≤ 1000000) (hb : b ≤ 1000000) (hi : i ≤ 1000000) (hS : St cx w L) : Rets Try.prog QfH [.int .i64 f, .int .i64 b, .int .i64 i] w fun u w' => u = .int .i64 (Qlc f b i) ∧ St cx w' L := by
  unfold Qlc
  all_goals refine Qgz ?_
  all_goals (unfold code_InsAt_lc; refine Q0 ?_; refine Q1 ?_; refine zm ?_; refine zn ?_; refine Q0 ?_; refine Q1 ?_; refine zm ?_; refine zmu ?_; refine zm ?_; refine zmu ?_; refine zad ?_; refine zm ?_; refine zad ?_; refine zm ?_; refine zn ?_; refine zr ?_; refine zf ?_; refine ⟨_, rfl, ?_, hS.sp⟩; (rfl); done)
end Go.Proofs.Ytanlkfeogoganaa
namespace Go.Proofs.Ytanlkfeogoganaa
open Go.Lir
set_option maxHeartbeats 1000000
attribute [local irreducible] LC.wp Q3 Qz QM retQ Q1x LO.wp Qf Calls
set_option linter.unusedSimpArgs false
set_option linter.unusedVariables false
attribute [local irreducible] orF mkF orC Q37 Q3J Q2a Q3K QO Q2l Q4h Q3e Q3N QiV Qlc
variable {cx : Cx} {w : World} {L : List Res} {i : Nat}
theorem fault_if (c : Int) : (if decide (c ≠ 0) = true then c else 0) = c := by by_cases h : c = 0 <;> simp [h]
theorem Qiw {l : List Ty} {regs : Int} {v vf : Value} {g : Flt} {at' : Int} {b : Nat} (hl : tyR.sl cx v l) (hS : St cx w L) (hi : nth L i = some (jdg b vf g at')) :
    Rets Try.prog Q6j [.pointer (some ⟨b, 0, none⟩), v, .int .i64 regs] w fun u w' => u = .tuple #[] ∧ St cx w' (L.set i (jdg b vf (orF g (mkF (QO l regs) at')) at')) := by
  have hS := hS.out hi
  have hlen := hl.len
  have e0 : orF g (mkF (QO l regs) at') = orF g (mkF (orC (if 8 < l.length then 2 else 0) (Q47 regs l)) at') := by
    congr 2
    unfold QO
    split
    · rw [Q9N (by decide)]
    · rw [Q7B]
  rw [e0]
  all_goals refine Q9r ?_
  all_goals (unfold code_judge_list_lc)
  refine zM [0, 1, 2] (fun A ρ' w' => Has ρ' A ∧ Has ρ' [] ∧ St cx w' (jdg b vf (orF g (mkF (if 8 < l.length then 2 else 0) at')) at' :: L.eraseIdx i)) ?_ ?_
  · skip
    all_goals (refine Q1 ?_; refine zm ?_; refine zm ?_; refine zL ?_)
    all_goals (first | (refine QZ ?_) | (refine Q1g ?_) | (refine Qg rfl rfl (fun hc => ?_) (fun hc => ?_)))
    all_goals (refine zR3 (c := Q1N (by intro _; decide) hS fd) (h := ?_); rintro v1 w1 ⟨rfl, hS⟩; simp only [List.set_cons_zero, List.set_cons_succ, if_true, Bool.false_eq_true, if_false] at hS; refine zn ?_; exact ⟨zh, zh, by first | (rw [if_pos (by omega)]; exact hS.sp) | (rw [if_neg (by omega)]; exact hS.sp)⟩)
  rintro ρ w1 ⟨hA, hρ, hS⟩; obtain ⟨ρ, rfl⟩ := env2 hA hρ
  all_goals (refine Q0 ?_; refine Q1 ?_; refine zm ?_; refine zL ?_; refine zm ?_; refine zn ?_; refine Qa ?_)
  refine zo [0, 2, 14, 15] (fun A ρ' w' => ∃ (j : Nat) (h : Flt), Has ρ' A ∧ Has ρ' [(16, .int .i64 j)] ∧ (j ≤ l.length) ∧ (orF g (mkF (orC (if 8 < l.length then 2 else 0) (Q47 regs l)) at') = orF h (mkF (Q47 regs (l.drop j)) at')) ∧ St cx w' (jdg b vf h at' :: L.eraseIdx i)) (fun ρ' _ => (l.length - iv (ρ' 16)).toNat) ?_ ?_
  · exact ⟨0, _, zh, zh, (by omega), by rw [List.drop_zero, Q2d], hS.sp⟩
  rintro ρ w1 ⟨j, h, hA, hρ, hj, hd, hS⟩; obtain ⟨ρ, rfl⟩ := env2 hA hρ
  unfold Q3t
  all_goals (refine Q0 ?_; refine Q1 ?_; refine Qu rfl rfl ?_; refine zn ?_; refine Q0 ?_)
  refine Ql rfl (fun hc => ?_) (fun hc => ?_)
  · skip
    all_goals (refine zsk ?_; refine Q0 ?_; refine Qa ?_; refine Q0 ?_; refine Q1 ?_; refine zi ?_; intro b1 o1 cs1 x1 hat1 hx1 he1; obtain ⟨vl1, rfl, hl1⟩ := Q1q he1; (first | (refine zv hS ?_) | (refine zvk hS ?_)); refine Qb hS ?_; intro p7 w1 hS; refine zsn hS ?_; intro w1 hS; have hS := hS.ns; refine zn ?_; refine Q0 ?_; refine Q1 ?_; refine zv hS ?_; refine zm ?_; refine zR2 (c := tcheck_c (by assumption) hS) (h := ?_); rintro v1 w1 ⟨rfl, hS⟩; refine zm ?_; refine zn ?_; refine Q1 ?_; refine zm ?_; refine zm ?_; refine Q7z rfl rfl ?_; refine zm ?_; refine zR3 (c := Q1N (by intro h; exact of_decide_eq_true h) hS fd) (h := ?_); rintro v1 w1 ⟨rfl, hS⟩; simp only [List.set_cons_zero, List.set_cons_succ, fault_if] at hS; refine zn ?_; refine Q1 ?_; refine zad ?_; refine zm ?_; refine zn ?_; exact ⟨⟨j + 1, _, zh, zh, (by omega), by rw [hd, Q7 hx1, Q47, ← Q2d], hS.sp⟩, Qh (by omega)⟩)
  · skip
    all_goals (refine zex ?_; refine Q2x ?_; refine ⟨_, rfl, rfl, ?_⟩; rw [hd, List.drop_of_length_le (by omega), Q47, mkF_0, QjC rfl]; exact St.back hS hi)
def fltV (g : Flt) : Value := .agg ⟨[.int .i64 g.1, .int .i64 g.2]⟩
theorem kindne_c {t : Ty} {cs : List Value} (ht : tyR.at cx cs t) (hS : St cx w L) : Rets Try.prog Q3u [.agg ⟨cs⟩] w fun u w' => u = .bool (decide (t.kind ≠ 1)) ∧ St cx w' L := by
  obtain ⟨v, rfl, hl⟩ := Q1q ht
  all_goals refine QdR ?_
  all_goals (unfold code_Check_1_lc; refine Q0 ?_; refine Q1 ?_; refine zb hS ?_; intro p1 w1 hS; refine zm ?_; refine zn ?_; refine Q0 ?_; refine Q1 ?_; refine Q2 rfl ?_; refine zl hS ?_; refine Q7z rfl rfl ?_; refine zm ?_; refine zn ?_; refine zr ?_; refine zf ?_; refine ⟨_, rfl, ?_, hS.sp⟩; (rfl); done)
theorem pcont_c {l : List Ty} {v : Value} (hl : tyR.sl cx v l) (hS : St cx w L) : Rets Try.prog Q1f [v, .func (.func Q3u) #[] #[]] w fun u w' => ∃ q, u = .bool q ∧ (q = true ↔ ∃ t ∈ l, t.kind ≠ 1) ∧ St cx w' L := by
  have hlen := hl.len
  have hidx : ∀ {w : World} {L : List Res}, St cx w L → Rets Try.prog Qs [v, .func (.func Q3u) #[] #[]] w fun u w' => ∃ r : Int, u = .int .i64 r ∧ (0 ≤ r ↔ ∃ t ∈ l, t.kind ≠ 1) ∧ St cx w' L := by
    intro w L hS
    all_goals refine Q1W ?_
    all_goals (unfold slices_IndexFunc_api_Type_api_Type_lc; refine Q0 ?_; refine Q1 ?_; refine zm ?_; refine zn ?_; refine Q0 ?_; refine Q0 ?_; refine Q1 ?_; refine zm ?_; refine zL ?_; refine zm ?_; refine zn ?_; refine Qa ?_)
    refine zoL hS [0, 1, 7] (fun A LL ρ' w' => ∃ (j : Nat), Has ρ' A ∧ Has ρ' [(8, .int .i64 j)] ∧ (j ≤ l.length) ∧ (∀ t ∈ l.take j, t.kind = 1) ∧ St cx w' (LL)) (fun ρ' _ => (l.length - iv (ρ' 8)).toNat) ?_ ?_
    · exact ⟨0, zh, zh, (by omega), by simp, hS.sp⟩
    rintro ρ w1 ⟨j, hA, hρ, hj, hd, hS⟩; obtain ⟨ρ, rfl⟩ := env2 hA hρ
    unfold Q1e
    all_goals (refine Q0 ?_; refine Q1 ?_; refine Qu rfl rfl ?_; refine zn ?_; refine Q0 ?_)
    refine Ql rfl (fun hc => ?_) (fun hc => ?_)
    · skip
      all_goals (refine zsk ?_; refine Q0 ?_; refine Qa ?_; refine Q0 ?_; refine Q1 ?_; refine zm ?_; refine zm ?_; refine zn ?_; refine Q0 ?_; refine Q1 ?_; refine zm ?_; refine zm ?_; refine zm ?_; refine zi ?_; intro b1 o1 cs1 x1 hat1 hx1 he1; obtain ⟨vl1, rfl, hl1⟩ := Q1q he1; (first | (refine zv hS ?_) | (refine zvk hS ?_)))
      all_goals (refine Qka rfl (by kernel_rfl) (by rfl) (kindne_c he1 hS) ?_; rintro v1 w1 ⟨rfl, hS⟩; (cases hdec : decide (x1.kind ≠ 1)); have hg := of_decide_eq_false hdec; rotate_left; have hg := of_decide_eq_true hdec; all_goals skip)
      all_goals (refine zn ?_)
      all_goals
        first
        | (refine Q5 rfl ?_ -- Qs c1
           all_goals (refine Q0 ?_; refine Q1 ?_; refine zm ?_; refine zm ?_; refine zn ?_; refine zr ?_; refine zf ?_)
           all_goals (exact ⟨_, rfl, j, rfl, ⟨fun _ => ⟨x1, List.mem_of_getElem? hx1, hg⟩, fun _ => by omega⟩, hS.sp⟩))
        | (refine Q6 rfl ?_ -- Qs c1
           all_goals refine zsk ?_)
      all_goals (refine Q1 ?_; refine zad ?_; refine zm ?_; refine zn ?_; exact ⟨⟨j + 1, zh, zh, (by omega), Qcz hd hx1 (Classical.not_not.1 hg), hS.sp⟩, Qh (by omega)⟩)
    · skip
      all_goals (refine zex ?_; refine Q0 ?_; refine Q1 ?_; refine zm ?_; refine zn ?_; refine zr ?_; refine zf ?_)
      all_goals (first | (exact ⟨_, rfl, j, rfl, ⟨fun _ => ⟨x1, List.mem_of_getElem? hx1, hg⟩, fun _ => by omega⟩, hS.sp⟩) | (exact ⟨_, rfl, -1, rfl, ⟨fun h => by omega, fun ⟨t, ht, hk⟩ => absurd (Qcy hd (by omega) t ht) hk⟩, hS.sp⟩))
  all_goals refine Q1E ?_
  all_goals (unfold slices_ContainsFunc_api_Type_api_Type_lc; refine Q0 ?_; refine Q1 ?_; refine zm ?_; refine zn ?_; refine Q0 ?_; refine Q1 ?_; refine zm ?_; refine zm ?_; refine zR2 (c := hidx hS) (h := ?_); rintro v1 w1 ⟨r, rfl, hr, hS⟩)
  all_goals (first | (refine Qhe ?_) | (refine Qhf ?_) | (refine Q5k rfl rfl (fun hc => ?_) (fun hc => ?_)))
  all_goals (refine zm ?_; refine zn ?_; refine zr ?_; refine zf ?_)
  all_goals (first | (exact ⟨_, rfl, _, rfl, ⟨fun _ => hr.1 (by omega), fun _ => rfl⟩, hS.sp⟩) | (exact ⟨_, rfl, _, rfl, ⟨fun h => Bool.noConfusion h, fun h => by have := hr.2 h; omega⟩, hS.sp⟩))
theorem Qlb {g : Flt} {a : Int} {x : Fun} {b : Nat} {y : Block} {q : Bool} (hq : q = true ↔ (b = 0 ∧ (y.regs ≠ x.regs ∨ y.params ≠ x.params))) :
    orF (orF (orF (orF g (mkF (if y.regs < x.regs ∨ 16 < y.regs then 1 else 0) a)) (mkF (QO y.params y.regs) a)) (mkF (if q = true then 9 else 0) a)) (mkF (if 40 < y.code.length then 2 else 0) a) = orF g (mkF (Q2l x b y) a) := by
  rw [Q2d, Q2d, Q2d]
  congr 2
  unfold Q2l
  by_cases h0 : y.regs < x.regs ∨ 16 < y.regs
  · rw [if_pos h0, if_pos h0]; simp only [Q9N (show (1 : Int) ≠ 0 by decide)]
  · rw [if_neg h0, if_neg h0, Q7B]
    by_cases h : QO y.params y.regs ≠ 0
    · rw [if_pos h]; simp only [Q9N h]
    · rw [if_neg h, Classical.not_not.1 h, Q7B]
      by_cases hb : b = 0 ∧ (y.regs ≠ x.regs ∨ y.params ≠ x.params)
      · rw [if_pos hb, if_pos (hq.2 hb)]; simp only [Q9N (show (9 : Int) ≠ 0 by decide)]
      · rw [if_neg hb, if_neg (fun h => hb (hq.1 h)), Q7B]
theorem pblock_c {fs : List Fun} {f b : Nat} {x : Fun} {y : Block} {vf : Value} {g : Flt} {a : Int} {p : Nat} (hxf : fs[f]? = some x) (hyb : x.blocks[b]? = some y) (hf0 : f ≤ 1000000) (hb0 : b ≤ 1000000) (hlc : y.code.length ≤ 100000) (hf : funcR.sl cx vf fs) (hS : St cx w L) (hi : nth L i = some (jdg p vf g a)) :
    Rets Try.prog Q21 [.pointer (some ⟨p, 0, none⟩), .int .i64 f, .int .i64 b] w fun u w' => u = .tuple #[] ∧ ∃ a', St cx w' (L.set i (jdg p vf (orF g (Q44 fs.length f x b y)) a')) := by
  have hflt := (List.getElem?_eq_some_iff.1 hxf).1
  have hblt := (List.getElem?_eq_some_iff.1 hyb).1
  have hS := hS.out hi
  all_goals refine Q8K ?_
  all_goals (unfold code_judge_block_lc; refine Q0 ?_; refine Q1 ?_; refine zm ?_; refine Qq rfl ?_; refine Q2 rfl ?_; refine Q2 rfl ?_; refine zl hS ?_; refine zm ?_; refine zi ?_; intro b1 o1 cs1 x1 hat1 hx1 he1; obtain ⟨vp1, vr1, vb1, rfl, hp1, hr1, hb1⟩ := Q1H he1; (first | (refine zv hS ?_) | (refine zvk hS ?_)); refine Qb hS ?_; intro p6 w1 hS; refine zsn hS ?_; intro w1 hS; have hS := hS.ns; refine zn ?_; have e1 : x = x1 := Option.some.inj (hxf.symm.trans hx1); subst e1; refine Q0 ?_; refine Q1 ?_; refine Q2 rfl ?_; refine zl hS ?_; refine zm ?_; refine zi ?_; intro b2 o2 cs2 x2 hat2 hx2 he2; obtain ⟨vp2, vc2, ve21, ve22, ve23, ve24, ve25, rfl, hp2, hc2, he21, he22, he23, he24, he25⟩ := Q1y he2; (first | (refine zv hS ?_) | (refine zvk hS ?_)); refine Qb hS ?_; intro p7 w1 hS; refine zsn hS ?_; intro w1 hS; have hS := hS.ns; refine zn ?_; have e2 : y = x2 := Option.some.inj (hyb.symm.trans hx2); subst e2)
  refine zM [0, 1, 2, 6, 7] (fun A ρ' w' => Has ρ' A ∧ Has ρ' [] ∧ St cx w' (blk p7 77 [.int .i64 y.regs, vp2, vc2, .int .i64 y.fin.op, .int .i64 y.fin.a, .int .i64 y.fin.yes.block, ve21, ve22, .int .i64 y.fin.no.block, ve23, ve24, ve25] :: blk p6 31 [.int .i64 x.regs, vp1, vr1, vb1] :: jdg p vf g (Q3N f b) :: L.eraseIdx i)) ?_ ?_
  · skip
    all_goals (refine Q1 ?_; refine zm ?_; refine zm ?_; refine zm ?_; refine zR2 (c := QjB f b hf0 hb0 hS) (h := ?_); rintro v1 w1 ⟨rfl, hS⟩; refine Qq rfl ?_; refine Q2 rfl ?_; refine zst hS ?_; intro w1 hS; have hS := hS.ns; refine zn ?_; exact ⟨zh, zh, hS.sp⟩)
  rintro ρ w1 ⟨hA, hρ, hS⟩; obtain ⟨ρ, rfl⟩ := env2 hA hρ
  refine zM [0, 1, 2, 6, 7] (fun A ρ' w' => Has ρ' A ∧ Has ρ' [] ∧ St cx w' (blk p7 77 [.int .i64 y.regs, vp2, vc2, .int .i64 y.fin.op, .int .i64 y.fin.a, .int .i64 y.fin.yes.block, ve21, ve22, .int .i64 y.fin.no.block, ve23, ve24, ve25] :: blk p6 31 [.int .i64 x.regs, vp1, vr1, vb1] :: jdg p vf (orF g (mkF (if y.regs < x.regs ∨ 16 < y.regs then 1 else 0) (Q3N f b))) (Q3N f b) :: L.eraseIdx i)) ?_ ?_
  · skip
    all_goals (refine Q1 ?_; refine zm ?_; refine Q2 rfl ?_; refine zl hS ?_; refine Q2 rfl ?_; refine zl hS ?_)
    all_goals (first | (refine Q2G ?_) | (refine Q2H ?_) | (refine Q1h rfl rfl (fun hc => ?_) (fun hc => ?_)))
    all_goals (refine zm ?_; (first | refine s_gn rfl rfl ?_ | (refine s_gy rfl ?_; refine Q2 rfl ?_)); (first | refine s_gn rfl rfl ?_ | (refine s_gy rfl ?_; refine zl hS ?_)))
    all_goals (first | refine s_gn rfl rfl ?_ | (refine s_gy rfl ?_; (first | (refine QZ ?_) | (refine Q1g ?_) | (refine Qg rfl rfl (fun hc => ?_) (fun hc => ?_)))))
    all_goals ((first | (refine zpt ?_) | (refine zpf ?_)); refine zR3 (c := Q1N (g := _) (by intro _; decide) hS fd) (h := ?_); rintro v1 w1 ⟨rfl, hS⟩; simp only [List.set_cons_zero, List.set_cons_succ, if_true, Bool.false_eq_true, if_false] at hS; refine zn ?_; exact ⟨zh, zh, by first | (rw [if_pos (by omega)]; exact hS.sp) | (rw [if_neg (by omega)]; exact hS.sp)⟩)
  rintro ρ w1 ⟨hA, hρ, hS⟩; obtain ⟨ρ, rfl⟩ := env2 hA hρ
  all_goals (refine Q0 ?_; refine Q1 ?_; refine zm ?_; refine Q2 rfl ?_; refine zl hS ?_; refine Q2 rfl ?_; refine zl hS ?_; refine zR3 (c := Qiw hp2 hS fd) (h := ?_); rintro v1 w1 ⟨rfl, hS⟩; have hS := hS.ns; refine zn ?_; refine Q0 ?_; refine Q1 ?_)
  refine zKL hS 18 [0, 1, 2, 6, 7] (fun A LL ρ' w' => ∃ (q : Bool), Has ρ' A ∧ Has ρ' [(46, .pointer (some ⟨p, 0, none⟩)), (63, .bool q)] ∧ (q = true ↔ (b = 0 ∧ (y.regs ≠ x.regs ∨ y.params ≠ x.params))) ∧ St cx w' (LL)) ?_ ?_
  · skip
    all_goals (refine zm ?_; refine zm ?_)
    all_goals (first | (refine Q10 ?_) | (refine Q1p ?_) | (refine Qk rfl rfl (fun hc => ?_) (fun hc => ?_)))
    all_goals (refine zm ?_; (first | refine s_gn rfl rfl ?_ | (refine s_gy rfl ?_; refine Q2 rfl ?_)); (first | refine s_gn rfl rfl ?_ | (refine s_gy rfl ?_; refine zl hS ?_)); (first | refine s_gn rfl rfl ?_ | (refine s_gy rfl ?_; refine Q2 rfl ?_)); (first | refine s_gn rfl rfl ?_ | (refine s_gy rfl ?_; refine zl hS ?_)))
    all_goals (first | refine s_gn rfl rfl ?_ | (refine s_gy rfl ?_; (first | (refine Q1F ?_) | (refine Q1G ?_) | (refine QC rfl rfl (fun hc => ?_) (fun hc => ?_)))))
    all_goals ((first | refine s_gn rfl rfl ?_ | (refine s_gy rfl ?_; refine zm ?_)); (first | refine s_gn rfl rfl ?_ | (refine s_gy rfl ?_; refine Q2 rfl ?_)); (first | refine s_gn rfl rfl ?_ | (refine s_gy rfl ?_; refine zl hS ?_)); (first | refine s_gn rfl rfl ?_ | (refine s_gy rfl ?_; refine Q2 rfl ?_)); (first | refine s_gn rfl rfl ?_ | (refine s_gy rfl ?_; refine zl hS ?_)))
    all_goals (first | refine s_gn rfl rfl ?_ | (refine s_gy rfl ?_; refine zR3 (c := eqfT_c (by kernel_rfl) (fun a _ b _ {_ _ _ _} h1 h2 h3 => psame_c a b h1 h2 h3) hp2 hp1 hS) (h := ?_); rintro v1 w1 ⟨rfl, hS⟩; (cases hdec : decide (y.params = x.params)); have hg := of_decide_eq_false hdec; rotate_left; have hg := of_decide_eq_true hdec; all_goals skip))
    all_goals ((first | refine s_gn rfl rfl ?_ | (refine s_gy rfl ?_; refine Q2J rfl ?_)); (first | refine s_gn rfl rfl ?_ | (refine s_gy rfl ?_; (first | (refine zpt ?_) | (refine zpf ?_)))); (first | (refine zpt ?_) | (refine zpf ?_)); refine QcX ?_; refine Q3k ?_)
    all_goals (first | (exact ⟨_, zh, zh, by exact ⟨fun _ => ⟨by omega, .inl (by assumption)⟩, fun _ => rfl⟩, hS.sp⟩) | (exact ⟨_, zh, zh, by exact ⟨fun _ => ⟨by omega, .inr (by assumption)⟩, fun _ => rfl⟩, hS.sp⟩) | (exact ⟨_, zh, zh, by exact ⟨fun h => Bool.noConfusion h, fun h => absurd h.1 (by omega)⟩, hS.sp⟩) | (exact ⟨_, zh, zh, by exact ⟨fun h => Bool.noConfusion h, fun h => h.2.elim (fun h => absurd h (by assumption)) (fun h => absurd (by assumption) h)⟩, hS.sp⟩))
  rintro ρ w1 ⟨q, hA, hρ, hq, hS⟩; obtain ⟨ρ, rfl⟩ := env2 hA hρ
  all_goals (refine zR3 (c := Q1N (g := _) (by intro _; decide) hS fd) (h := ?_); rintro v1 w1 ⟨rfl, hS⟩; simp only [List.set_cons_zero, List.set_cons_succ, if_true, Bool.false_eq_true, if_false] at hS; refine zn ?_)
  refine zM [0, 1, 2, 6, 7] (fun A ρ' w' => Has ρ' A ∧ Has ρ' [] ∧ St cx w' (blk p7 77 [.int .i64 y.regs, vp2, vc2, .int .i64 y.fin.op, .int .i64 y.fin.a, .int .i64 y.fin.yes.block, ve21, ve22, .int .i64 y.fin.no.block, ve23, ve24, ve25] :: blk p6 31 [.int .i64 x.regs, vp1, vr1, vb1] :: jdg p vf (orF g (mkF (Q2l x b y) (Q3N f b))) (Q3N f b) :: L.eraseIdx i)) ?_ ?_
  · skip
    all_goals (refine Q1 ?_; refine zm ?_; refine Q2 rfl ?_; refine zl hS ?_; refine zL ?_)
    all_goals (first | (refine QZ ?_) | (refine Q1g ?_) | (refine Qg rfl rfl (fun hc => ?_) (fun hc => ?_)))
    all_goals (refine zR3 (c := Q1N (g := _) (by intro _; decide) hS fd) (h := ?_); rintro v1 w1 ⟨rfl, hS⟩; simp only [List.set_cons_zero, List.set_cons_succ, if_true, Bool.false_eq_true, if_false] at hS; refine zn ?_; exact ⟨zh, zh, by rw [← Qlb hq]; first | (rw [if_pos (c := 40 < y.code.length) (by omega)]; exact hS.sp) | (rw [if_neg (c := 40 < y.code.length) (by omega)]; exact hS.sp)⟩)
  rintro ρ w1 ⟨hA, hρ, hS⟩; obtain ⟨ρ, rfl⟩ := env2 hA hρ
  all_goals (refine Q0 ?_; refine Q0 ?_; refine Q1 ?_; refine zm ?_; refine zn ?_; refine Qa ?_)
  refine zo [0, 1, 2, 6, 7] (fun A ρ' w' => ∃ (j : Nat) (h : Flt) (at2 : Int), Has ρ' A ∧ Has ρ' [(8, .int .i64 j)] ∧ (j ≤ y.code.length) ∧ (orF (orF g (mkF (Q2l x b y) (Q3N f b))) (Q2F fs.length f b 0 y.code) = orF h (Q2F fs.length f b j (y.code.drop j))) ∧ St cx w' (blk p7 77 [.int .i64 y.regs, vp2, vc2, .int .i64 y.fin.op, .int .i64 y.fin.a, .int .i64 y.fin.yes.block, ve21, ve22, .int .i64 y.fin.no.block, ve23, ve24, ve25] :: blk p6 31 [.int .i64 x.regs, vp1, vr1, vb1] :: jdg p vf h at2 :: L.eraseIdx i)) (fun ρ' _ => (y.code.length - iv (ρ' 8)).toNat) ?_ ?_
  · exact ⟨0, _, _, zh, zh, (by omega), by rw [List.drop_zero], hS.sp⟩
  rintro ρ w1 ⟨j, h, at2, hA, hρ, hj, hd, hS⟩; obtain ⟨ρ, rfl⟩ := env2 hA hρ
  unfold Q3d
  all_goals (refine Q0 ?_; refine Q0 ?_; refine Q1 ?_; refine zm ?_; refine Q2 rfl ?_; refine zl hS ?_; refine zL ?_)
  all_goals (first | (refine Q2G ?_) | (refine Q2H ?_) | (refine Q1h rfl rfl (fun hc => ?_) (fun hc => ?_)))
  all_goals (refine zm ?_; (first | refine s_gn rfl rfl ?_ | (refine s_gy rfl ?_; refine zm ?_)); (first | refine s_gn rfl rfl ?_ | (refine s_gy rfl ?_; refine Qq rfl ?_)); (first | refine s_gn rfl rfl ?_ | (refine s_gy rfl ?_; refine Q2 rfl ?_)); (first | refine s_gn rfl rfl ?_ | (refine s_gy rfl ?_; (first | refine Q2 rfl ?_ | refine Q2o rfl ?_))); (first | refine s_gn rfl rfl ?_ | (refine s_gy rfl ?_; refine zl hS ?_)))
  all_goals (first | refine s_gn rfl rfl ?_ | (refine s_gy rfl ?_; (first | (refine Q10 ?_) | (refine Q1p ?_) | (refine Qk rfl rfl (fun hc => ?_) (fun hc => ?_)))))
  all_goals ((first | (refine zpt ?_) | (refine zpf ?_)); refine zn ?_)
  all_goals
    first
    | (refine Q5 rfl ?_ -- Q21 c0
       all_goals (refine zsk ?_; refine Q0 ?_; refine Qa ?_; refine Q0 ?_; refine Q1 ?_; refine zm ?_; refine zm ?_; refine zm ?_; refine zm ?_; refine zR3 (c := pInsAt_c f b j hf0 hb0 (by omega) hS) (h := ?_); rintro v1 w1 ⟨rfl, hS⟩; refine Qq rfl ?_; refine Q2 rfl ?_; refine zst hS ?_; intro w1 hS; have hS := hS.ns; refine zn ?_; have hS : St cx _ (blk p7 77 [.int .i64 y.regs, vp2, vc2, .int .i64 y.fin.op, .int .i64 y.fin.a, .int .i64 y.fin.yes.block, ve21, ve22, .int .i64 y.fin.no.block, ve23, ve24, ve25] :: blk p6 31 [.int .i64 x.regs, vp1, vr1, vb1] :: jdg p vf h (Qlc f b j) :: L.eraseIdx i) := hS; refine Q1 ?_; refine zm ?_; refine Q2 rfl ?_; refine zl hS ?_; refine zm ?_; refine zi ?_; intro b3 o3 cs3 x3 hat3 hx3 he3; obtain ⟨vr3, va3, rfl, hr3, ha3⟩ := Q2f he3; (first | (refine zv hS ?_) | (refine zvk hS ?_)); refine zR2 (c := ins_c he3 hf hS fd) (h := ?_); rintro v1 w1 ⟨rfl, hS⟩; have hS := hS.ns; refine zn ?_; refine Q1 ?_; refine zm ?_; refine zad ?_; refine zm ?_; refine zn ?_)
       all_goals (exact ⟨⟨j + 1, _, _, zh, zh, (by omega), by rw [hd, Q7 hx3, Q2F, Q35], hS.sp⟩, Qh (by omega)⟩))
    | (refine Q6 rfl ?_ -- Q21 c0
       all_goals (refine zex ?_; (first | (rw [List.drop_of_length_le (by omega), Q2F, QjC (b := (0, 0)) rfl] at hd) | (rw [orF_l (a := h) (by assumption)] at hd)); refine Q0 ?_; refine Q1 ?_; refine zm ?_; refine zm ?_; refine zm ?_; refine zR2 (c := pEndAt_c f b hf0 hb0 hS) (h := ?_); rintro v1 w1 ⟨rfl, hS⟩; refine Qq rfl ?_; refine Q2 rfl ?_; refine zst hS ?_; intro w1 hS; have hS := hS.ns; refine zn ?_; have hS : St cx _ (blk p7 77 [.int .i64 y.regs, vp2, vc2, .int .i64 y.fin.op, .int .i64 y.fin.a, .int .i64 y.fin.yes.block, ve21, ve22, .int .i64 y.fin.no.block, ve23, ve24, ve25] :: blk p6 31 [.int .i64 x.regs, vp1, vr1, vb1] :: jdg p vf h (QiV f b) :: L.eraseIdx i) := hS; refine Q1 ?_; refine zm ?_; refine zv hS ?_; refine Q2 rfl ?_; refine zv hS ?_; refine zR3 (c := end_c (e := y.fin) he1 ⟨_, _, _, _, _, rfl, he21, he22, he23, he24, he25⟩ hS fd) (h := ?_); rintro v1 w1 ⟨rfl, hS⟩; have hS := hS.ns; refine zn ?_)
       all_goals (refine Q2x ?_; refine ⟨_, rfl, rfl, QiV f b, ?_⟩; have hS := hS.drop.drop; rw [show orF g (Q44 fs.length f x b y) = orF h (mkF (Q3K x.blocks.length y.fin) (QiV f b)) from (by unfold Q44; rw [← Q35, ← Q35, hd])]; exact St.back hS hi))
theorem QkU {g : Flt} {a : Int} {x : Fun} {f : Nat} {q : Bool} (hq : q = true ↔ (f = 0 ∧ (0 < x.regs ∨ 0 < x.params.length ∨ ∃ t ∈ x.results, t.kind ≠ 1))) :
    orF (orF (orF (orF (orF g (mkF (if x.regs < 0 ∨ 6 < x.regs then 1 else 0) a)) (mkF (QO x.params x.regs) a)) (mkF (QO x.results x.regs) a)) (mkF (if x.blocks.length < 1 ∨ 12 < x.blocks.length then 2 else 0) a)) (mkF (if q = true then 18 else 0) a) = orF g (mkF (Q4h f x) a) := by
  rw [Q2d, Q2d, Q2d, Q2d]
  congr 2
  unfold Q4h
  by_cases h0 : x.regs < 0 ∨ 6 < x.regs
  · rw [if_pos h0, if_pos h0]; simp only [Q9N (show (1 : Int) ≠ 0 by decide)]
  · rw [if_neg h0, if_neg h0, Q7B]
    by_cases h : QO x.params x.regs ≠ 0
    · rw [if_pos h]; simp only [Q9N h]
    · rw [if_neg h, Classical.not_not.1 h, Q7B]
      by_cases h1 : QO x.results x.regs ≠ 0
      · rw [if_pos h1]; simp only [Q9N h1]
      · rw [if_neg h1, Classical.not_not.1 h1, Q7B]
        by_cases h2 : x.blocks.length < 1 ∨ 12 < x.blocks.length
        · rw [if_pos h2, if_pos h2]; simp only [Q9N (show (2 : Int) ≠ 0 by decide)]
        · rw [if_neg h2, if_neg h2, Q7B]
          by_cases hb : f = 0 ∧ (0 < x.regs ∨ 0 < x.params.length ∨ ∃ t ∈ x.results, t.kind ≠ 1)
          · rw [if_pos hb, if_pos (hq.2 hb)]
          · rw [if_neg hb, if_neg (fun h => hb (hq.1 h))]
theorem Qjc {m : Module} (hsh : m.Short) {cs : List Value} (hm : modR.at cx cs m) (hS : St cx w L) :
    Rets Try.prog Q2Y [.agg ⟨cs⟩] w fun u w' => u = fltV m.fault ∧ St cx w' L := by
  obtain ⟨vf, rfl, hf⟩ := Q3o hm
  have hsl := hsh.1
  have hsf := hsh.2
  obtain ⟨a0, n0, rfl⟩ := Rep.SR.shape hf
  generalize hvf : Value.slice a0 m.funcs.length n0 = vf at *
  all_goals refine QgN ?_
  all_goals (unfold code_Check_lc; refine Q0 ?_; refine Q1 ?_; refine zb hS ?_; intro p1 w1 hS; refine Qb hS ?_; intro p2 w1 hS; refine zn ?_; refine Q0 ?_; refine Q1 ?_; refine zv hS ?_; refine Qj7 (cs := [vf, .int .i64 0, .int .i64 0, .int .i64 (-1)]) vw vw (by subst hvf; rfl) ?_; refine zb hS ?_; intro p9 w1 hS; refine zm ?_; refine zn ?_)
  refine zM [1, 2, 3] (fun A ρ' w' => Has ρ' A ∧ Has ρ' [] ∧ St cx w' (jdg p9 vf (mkF (if m.funcs.length < 1 ∨ 8 < m.funcs.length then 2 else 0) (-1)) (-1) :: blk p2 47 [.int .i64 0, .int .i64 0] :: blk p1 24 [vf] :: L)) ?_ ?_
  · skip
    all_goals (have hS : St cx _ (jdg p9 vf (0, 0) (-1) :: blk p2 47 [.int .i64 0, .int .i64 0] :: blk p1 24 [vf] :: L) := hS; refine Q1 ?_; refine zm ?_; refine Q2 rfl ?_; refine zl hS ?_; refine zL ?_)
    all_goals (first | (refine Q10 ?_) | (refine Q1p ?_) | (refine Qk rfl rfl (fun hc => ?_) (fun hc => ?_)))
    all_goals (refine zm ?_; (first | refine s_gn rfl rfl ?_ | (refine s_gy rfl ?_; refine Q2 rfl ?_)); (first | refine s_gn rfl rfl ?_ | (refine s_gy rfl ?_; refine zl hS ?_)); (first | refine s_gn rfl rfl ?_ | (refine s_gy rfl ?_; refine zL ?_)))
    all_goals (first | refine s_gn rfl rfl ?_ | (refine s_gy rfl ?_; (first | (refine QZ ?_) | (refine Q1g ?_) | (refine Qg rfl rfl (fun hc => ?_) (fun hc => ?_)))))
    all_goals ((first | (refine zpt ?_) | (refine zpf ?_)); refine zR3 (c := Q1N (g := _) (by intro _; decide) hS fd) (h := ?_); rintro v1 w1 ⟨rfl, hS⟩; simp only [List.set_cons_zero, List.set_cons_succ, if_true, Bool.false_eq_true, if_false] at hS; refine zn ?_; exact ⟨zh, zh, by rw [orF_0 (mkF_z _ _)] at hS; first | (rw [if_pos (by omega)]; exact hS.sp) | (rw [if_neg (by omega)]; exact hS.sp)⟩)
  rintro ρ w1 ⟨hA, hρ, hS⟩; obtain ⟨ρ, rfl⟩ := env2 hA hρ
  all_goals (refine Q0 ?_; refine Q0 ?_; refine Q1 ?_; refine zm ?_; refine zn ?_; refine Qa ?_)
  refine zo [1, 2, 3] (fun A ρ' w' => ∃ (f : Nat) (h : Flt) (a : Int), Has ρ' A ∧ Has ρ' [(4, .int .i64 f)] ∧ (f ≤ m.funcs.length) ∧ (m.fault = orF h (Q38 m.funcs.length f (m.funcs.drop f))) ∧ St cx w' (jdg p9 vf h a :: blk p2 47 [.int .i64 0, .int .i64 0] :: blk p1 24 [vf] :: L)) (fun ρ' _ => (m.funcs.length - iv (ρ' 4)).toNat) ?_ ?_
  · exact ⟨0, _, _, zh, zh, (by omega), by rw [List.drop_zero]; rfl, hS.sp⟩
  rintro ρ w1 ⟨f, h, a, hA, hρ, hj, hd, hS⟩; obtain ⟨ρ, rfl⟩ := env2 hA hρ
  unfold Q9C
  all_goals (refine Q0 ?_; refine Q0 ?_; refine Q1 ?_; refine zm ?_; refine Q2 rfl ?_; refine zl hS ?_; refine zL ?_)
  all_goals (first | (refine Q2G ?_) | (refine Q2H ?_) | (refine Q1h rfl rfl (fun hc => ?_) (fun hc => ?_)))
  all_goals (refine zm ?_; (first | refine s_gn rfl rfl ?_ | (refine s_gy rfl ?_; refine zm ?_)); (first | refine s_gn rfl rfl ?_ | (refine s_gy rfl ?_; refine Qq rfl ?_)); (first | refine s_gn rfl rfl ?_ | (refine s_gy rfl ?_; refine Q2 rfl ?_)); (first | refine s_gn rfl rfl ?_ | (refine s_gy rfl ?_; (first | refine Q2 rfl ?_ | refine Q2o rfl ?_))); (first | refine s_gn rfl rfl ?_ | (refine s_gy rfl ?_; refine zl hS ?_)))
  all_goals (first | refine s_gn rfl rfl ?_ | (refine s_gy rfl ?_; (first | (refine Q10 ?_) | (refine Q1p ?_) | (refine Qk rfl rfl (fun hc => ?_) (fun hc => ?_)))))
  all_goals ((first | (refine zpt ?_) | (refine zpf ?_)); refine zn ?_)
  all_goals
    first
    | (refine Q5 rfl ?_ -- Q2Y c0
       all_goals (refine zsk ?_; refine Q0 ?_; refine Qa ?_; refine Q0 ?_; refine Q1 ?_; refine Q2 rfl ?_; refine zl hS ?_; refine zm ?_; refine zi ?_; intro b1 o1 cs1 x1 hat1 hx1 he1; obtain ⟨vp1, vr1, vb1, rfl, hp1, hr1, hb1⟩ := Q1H he1; (first | (refine zv hS ?_) | (refine zvk hS ?_)); refine Qb hS ?_; intro p5 w1 hS; refine zsn hS ?_; intro w1 hS; have hS := hS.ns; refine zn ?_; have hsx := hsf x1 (List.mem_of_getElem? hx1); have hlb := hsx.2.2.1; have hlp := hp1.len; have hlr := hr1.len; refine Q0 ?_; refine Q1 ?_; refine zm ?_; refine zm ?_; refine zR1 (c := QkG f (by omega) hS) (h := ?_); rintro v1 w1 ⟨rfl, hS⟩; refine Qq rfl ?_; refine Q2 rfl ?_; refine zst hS ?_; intro w1 hS; have hS := hS.ns; refine zn ?_)
       refine zM [1, 2, 3, 4, 5] (fun A ρ' w' => Has ρ' A ∧ Has ρ' [] ∧ St cx w' (blk p5 31 [.int .i64 x1.regs, vp1, vr1, vb1] :: jdg p9 vf (orF h (mkF (if x1.regs < 0 ∨ 6 < x1.regs then 1 else 0) (Q3e f))) (Q3e f) :: blk p2 47 [.int .i64 0, .int .i64 0] :: blk p1 24 [vf] :: L)) ?_ ?_
       · skip
         all_goals (have hS : St cx _ (blk p5 31 [.int .i64 x1.regs, vp1, vr1, vb1] :: jdg p9 vf h (Q3e f) :: blk p2 47 [.int .i64 0, .int .i64 0] :: blk p1 24 [vf] :: L) := hS; refine Q1 ?_; refine zm ?_; refine Q2 rfl ?_; refine zl hS ?_)
         all_goals (first | (refine Q2G ?_) | (refine Q2H ?_) | (refine Q1h rfl rfl (fun hc => ?_) (fun hc => ?_)))
         all_goals (refine zm ?_; (first | refine s_gn rfl rfl ?_ | (refine s_gy rfl ?_; refine Q2 rfl ?_)); (first | refine s_gn rfl rfl ?_ | (refine s_gy rfl ?_; refine zl hS ?_)))
         all_goals (first | refine s_gn rfl rfl ?_ | (refine s_gy rfl ?_; (first | (refine QZ ?_) | (refine Q1g ?_) | (refine Qg rfl rfl (fun hc => ?_) (fun hc => ?_)))))
         all_goals ((first | (refine zpt ?_) | (refine zpf ?_)); refine zR3 (c := Q1N (g := _) (by intro _; decide) hS fd) (h := ?_); rintro v1 w1 ⟨rfl, hS⟩; simp only [List.set_cons_zero, List.set_cons_succ, if_true, Bool.false_eq_true, if_false] at hS; refine zn ?_; exact ⟨zh, zh, by first | (rw [if_pos (by omega)]; exact hS.sp) | (rw [if_neg (by omega)]; exact hS.sp)⟩)
       rintro ρ w1 ⟨hA, hρ, hS⟩; obtain ⟨ρ, rfl⟩ := env2 hA hρ
       all_goals (refine Q0 ?_; refine Q1 ?_; refine zm ?_; refine Q2 rfl ?_; refine zl hS ?_; refine Q2 rfl ?_; refine zl hS ?_; refine zR3 (c := Qiw hp1 hS fd) (h := ?_); rintro v1 w1 ⟨rfl, hS⟩; have hS := hS.ns; refine zn ?_; refine Q0 ?_; refine Q1 ?_; refine zm ?_; refine Q2 rfl ?_; refine zl hS ?_; refine Q2 rfl ?_; refine zl hS ?_; refine zR3 (c := Qiw hr1 hS fd) (h := ?_); rintro v1 w1 ⟨rfl, hS⟩; have hS := hS.ns; refine zn ?_)
       refine zM [1, 2, 3, 4, 5] (fun A ρ' w' => Has ρ' A ∧ Has ρ' [] ∧ St cx w' (blk p5 31 [.int .i64 x1.regs, vp1, vr1, vb1] :: jdg p9 vf (orF (orF (orF (orF h (mkF (if x1.regs < 0 ∨ 6 < x1.regs then 1 else 0) (Q3e f))) (mkF (QO x1.params x1.regs) (Q3e f))) (mkF (QO x1.results x1.regs) (Q3e f))) (mkF (if x1.blocks.length < 1 ∨ 12 < x1.blocks.length then 2 else 0) (Q3e f))) (Q3e f) :: blk p2 47 [.int .i64 0, .int .i64 0] :: blk p1 24 [vf] :: L)) ?_ ?_
       · skip
         all_goals (refine Q1 ?_; refine zm ?_; refine Q2 rfl ?_; refine zl hS ?_; refine zL ?_)
         all_goals (first | (refine Q10 ?_) | (refine Q1p ?_) | (refine Qk rfl rfl (fun hc => ?_) (fun hc => ?_)))
         all_goals (refine zm ?_; (first | refine s_gn rfl rfl ?_ | (refine s_gy rfl ?_; refine Q2 rfl ?_)); (first | refine s_gn rfl rfl ?_ | (refine s_gy rfl ?_; refine zl hS ?_)); (first | refine s_gn rfl rfl ?_ | (refine s_gy rfl ?_; refine zL ?_)))
         all_goals (first | refine s_gn rfl rfl ?_ | (refine s_gy rfl ?_; (first | (refine QZ ?_) | (refine Q1g ?_) | (refine Qg rfl rfl (fun hc => ?_) (fun hc => ?_)))))
         all_goals ((first | (refine zpt ?_) | (refine zpf ?_)); refine zR3 (c := Q1N (g := _) (by intro _; decide) hS fd) (h := ?_); rintro v1 w1 ⟨rfl, hS⟩; simp only [List.set_cons_zero, List.set_cons_succ, if_true, Bool.false_eq_true, if_false] at hS; refine zn ?_; exact ⟨zh, zh, by first | (rw [if_pos (c := x1.blocks.length < 1 ∨ 12 < x1.blocks.length) (by omega)]; exact hS.sp) | (rw [if_neg (c := x1.blocks.length < 1 ∨ 12 < x1.blocks.length) (by omega)]; exact hS.sp)⟩)
       rintro ρ w1 ⟨hA, hρ, hS⟩; obtain ⟨ρ, rfl⟩ := env2 hA hρ
       refine zM [1, 2, 3, 4, 5] (fun A ρ' w' => Has ρ' A ∧ Has ρ' [] ∧ St cx w' (blk p5 31 [.int .i64 x1.regs, vp1, vr1, vb1] :: jdg p9 vf (orF h (mkF (Q4h f x1) (Q3e f))) (Q3e f) :: blk p2 47 [.int .i64 0, .int .i64 0] :: blk p1 24 [vf] :: L)) ?_ ?_
       · skip
         all_goals (refine Q1 ?_)
         refine zKL hS 19 [1, 2, 3, 4, 5] (fun A LL ρ' w' => ∃ (q : Bool), Has ρ' A ∧ Has ρ' [(81, .pointer (some ⟨p9, 0, none⟩)), (99, .bool q)] ∧ (q = true ↔ (f = 0 ∧ (0 < x1.regs ∨ 0 < x1.params.length ∨ ∃ t ∈ x1.results, t.kind ≠ 1))) ∧ St cx w' (LL)) ?_ ?_
         · skip
           all_goals (refine zm ?_; refine zm ?_)
           all_goals (first | (refine Q10 ?_) | (refine Q1p ?_) | (refine Qk rfl rfl (fun hc => ?_) (fun hc => ?_)))
           all_goals (refine zm ?_; (first | refine s_gn rfl rfl ?_ | (refine s_gy rfl ?_; refine Q2 rfl ?_)); (first | refine s_gn rfl rfl ?_ | (refine s_gy rfl ?_; refine zl hS ?_)))
           all_goals (first | refine s_gn rfl rfl ?_ | (refine s_gy rfl ?_; (first | (refine QZ ?_) | (refine Q1g ?_) | (refine Qg rfl rfl (fun hc => ?_) (fun hc => ?_)))))
           all_goals ((first | refine s_gn rfl rfl ?_ | (refine s_gy rfl ?_; refine zm ?_)); (first | refine s_gn rfl rfl ?_ | (refine s_gy rfl ?_; refine Q2 rfl ?_)); (first | refine s_gn rfl rfl ?_ | (refine s_gy rfl ?_; refine zl hS ?_)); (first | refine s_gn rfl rfl ?_ | (refine s_gy rfl ?_; refine zL ?_)))
           all_goals (first | refine s_gn rfl rfl ?_ | (refine s_gy rfl ?_; (first | (refine QZ ?_) | (refine Q1g ?_) | (refine Qg rfl rfl (fun hc => ?_) (fun hc => ?_)))))
           all_goals ((first | refine s_gn rfl rfl ?_ | (refine s_gy rfl ?_; (first | (refine zpt ?_) | (refine zpf ?_)))); (first | refine s_gn rfl rfl ?_ | (refine s_gy rfl ?_; refine zm ?_)); (first | refine s_gn rfl rfl ?_ | (refine s_gy rfl ?_; refine Q2 rfl ?_)); (first | refine s_gn rfl rfl ?_ | (refine s_gy rfl ?_; refine zl hS ?_)))
           all_goals ((first | (refine s_gn rfl rfl ?_) | (refine s_gy rfl ?_; refine zR2 (c := pcont_c hr1 hS) (h := ?_); rintro v1 w1 ⟨qc, rfl, hqc, hS⟩; cases qc)))
           all_goals ((first | refine s_gn rfl rfl ?_ | (refine s_gy rfl ?_; (first | (refine zpt ?_) | (refine zpf ?_)))); (first | (refine zpt ?_) | (refine zpf ?_)); refine QcX ?_; refine Q3k ?_)
           all_goals (first | (exact ⟨_, zh, zh, by exact ⟨fun _ => ⟨by omega, .inl (by omega)⟩, fun _ => rfl⟩, hS.sp⟩) | (exact ⟨_, zh, zh, by exact ⟨fun _ => ⟨by omega, .inr (.inl (by omega))⟩, fun _ => rfl⟩, hS.sp⟩) | (exact ⟨_, zh, zh, by exact ⟨fun _ => ⟨by omega, .inr (.inr (hqc.1 rfl))⟩, fun _ => rfl⟩, hS.sp⟩) | (exact ⟨_, zh, zh, by exact ⟨fun h => Bool.noConfusion h, fun h => absurd h.1 (by omega)⟩, hS.sp⟩) | (exact ⟨_, zh, zh, by exact ⟨fun h => Bool.noConfusion h, fun h => h.2.elim (fun h => by omega) (fun h => h.elim (fun h => by omega) (fun h => Bool.noConfusion (hqc.2 h)))⟩, hS.sp⟩))
         rintro ρ w1 ⟨q, hA, hρ, hq, hS⟩; obtain ⟨ρ, rfl⟩ := env2 hA hρ
         all_goals (refine zR3 (c := Q1N (g := _) (by intro _; decide) hS fd) (h := ?_); rintro v1 w1 ⟨rfl, hS⟩; simp only [List.set_cons_zero, List.set_cons_succ, if_true, Bool.false_eq_true, if_false] at hS; refine zn ?_; exact ⟨zh, zh, by rw [← QkU hq]; exact hS.sp⟩)
       rintro ρ w1 ⟨hA, hρ, hS⟩; obtain ⟨ρ, rfl⟩ := env2 hA hρ
       all_goals (refine Q0 ?_; refine Q1 ?_; refine zm ?_; refine zn ?_; refine Qa ?_)
       refine zo [1, 2, 3, 4, 5] (fun A ρ' w' => ∃ (b : Nat) (h2 : Flt) (a2 : Int), Has ρ' A ∧ Has ρ' [(6, .int .i64 b)] ∧ (b ≤ x1.blocks.length) ∧ (orF (orF h (mkF (Q4h f x1) (Q3e f))) (Q1J m.funcs.length f x1 0 x1.blocks) = orF h2 (Q1J m.funcs.length f x1 b (x1.blocks.drop b))) ∧ St cx w' (blk p5 31 [.int .i64 x1.regs, vp1, vr1, vb1] :: jdg p9 vf h2 a2 :: blk p2 47 [.int .i64 0, .int .i64 0] :: blk p1 24 [vf] :: L)) (fun ρ' _ => (x1.blocks.length - iv (ρ' 6)).toNat) ?_ ?_
       · exact ⟨0, _, _, zh, zh, (by omega), by rw [List.drop_zero], hS.sp⟩
       rintro ρ w1 ⟨b, h2, a2, hA, hρ, hb, hd2, hS⟩; obtain ⟨ρ, rfl⟩ := env2 hA hρ
       unfold Q7u
       all_goals (refine Q0 ?_; refine Q0 ?_; refine Q1 ?_; refine zm ?_; refine Q2 rfl ?_; refine zl hS ?_; refine zL ?_)
       all_goals (first | (refine Q2G ?_) | (refine Q2H ?_) | (refine Q1h rfl rfl (fun hc => ?_) (fun hc => ?_)))
       all_goals (refine zm ?_; (first | refine s_gn rfl rfl ?_ | (refine s_gy rfl ?_; refine zm ?_)); (first | refine s_gn rfl rfl ?_ | (refine s_gy rfl ?_; refine Qq rfl ?_)); (first | refine s_gn rfl rfl ?_ | (refine s_gy rfl ?_; refine Q2 rfl ?_)); (first | refine s_gn rfl rfl ?_ | (refine s_gy rfl ?_; (first | refine Q2 rfl ?_ | refine Q2o rfl ?_))); (first | refine s_gn rfl rfl ?_ | (refine s_gy rfl ?_; refine zl hS ?_)))
       all_goals (first | refine s_gn rfl rfl ?_ | (refine s_gy rfl ?_; (first | (refine Q10 ?_) | (refine Q1p ?_) | (refine Qk rfl rfl (fun hc => ?_) (fun hc => ?_)))))
       all_goals ((first | (refine zpt ?_) | (refine zpf ?_)); refine zn ?_)
       all_goals
         first
         | (refine Q5 rfl ?_ -- Q2Y c1
            all_goals (refine zsk ?_; refine Q0 ?_; refine Qa ?_; obtain ⟨y, hy⟩ : ∃ y, x1.blocks[b]? = some y := ⟨_, List.getElem?_eq_getElem (by omega)⟩; have hsy := hsx.2.2.2 y (List.mem_of_getElem? hy); refine Q1 ?_; refine zm ?_; refine zm ?_; refine zm ?_; refine zR3 (c := pblock_c hx1 hy (by omega) (by omega) hsy.2.1 hf hS fd) (h := ?_); rintro v1 w1 ⟨rfl, a3, hS⟩; have hS := hS.ns; refine zn ?_; refine Q1 ?_; refine zm ?_; refine zad ?_; refine zm ?_; refine zn ?_)
            all_goals (exact ⟨⟨b + 1, _, _, zh, zh, (by omega), by rw [hd2, Q7 hy, Q1J, Q35], hS.sp⟩, Qh (by omega)⟩))
         | (refine Q6 rfl ?_ -- Q2Y c1
            all_goals (refine zex ?_; (first | (rw [List.drop_of_length_le (by omega), Q1J, QjC (b := (0, 0)) rfl] at hd2) | (rw [orF_l (a := h2) (by assumption)] at hd2)); refine Q1 ?_; refine zm ?_; refine zad ?_; refine zm ?_; refine zn ?_)
            all_goals (exact ⟨⟨f + 1, h2, a2, zh, zh, (by omega), by rw [hd, Q7 hx1, Q38, ← Q35, show orF h (Qcu m.funcs.length f x1) = h2 from (by unfold Qcu; rw [← Q35, hd2])], hS.sp⟩, Qh (by omega)⟩)))
    | (refine Q6 rfl ?_ -- Q2Y c0
       all_goals (refine zex ?_; (first | (rw [List.drop_of_length_le (by omega), Q38, QjC (b := (0, 0)) rfl] at hd) | (rw [orF_l (a := h) (by assumption)] at hd)); refine Q0 ?_; refine Q1 ?_; refine zm ?_; refine Qq rfl ?_; refine Q2 rfl ?_; refine zv hS ?_; refine zsn hS ?_; intro w1 hS; have hS := hS.ns; refine zn ?_; refine zr ?_; refine Qb2 vw (Qn (n := 2) (by kernel_rfl) (by kernel_rfl) (hS.blkAt fd) (by rfl) (by rfl)) ?_)
       all_goals (refine ⟨_, rfl, ?_, hS.sp⟩; rw [hd]; rfl; done))
end Go.Proofs.Ytanlkfeogoganaa
namespace Go.Proofs.Ytanlkfeogoganaa
open Go.Lir
set_option maxHeartbeats 1000000
attribute [local irreducible] LC.wp Q3 Qz QM retQ Q1x LO.wp Qf Calls
set_option linter.unusedSimpArgs false
set_option linter.unusedVariables false
attribute [local irreducible] bitI IntKind.wrap Q3g rdLong rdMany QA mmap Q2q Q2g Module.fault Lir.decode sumB
variable {cx : Cx} {w : World} {L : List Res}
theorem Qgq {bs : List UInt8} {v : Value} (hv : u8R.sl cx v bs) (hS : St cx w L) : Rets Try.prog Q1j [v] w fun u w' =>
    (∃ e, Lir.decode bs = .error e ∧ u = .tuple #[.agg ⟨[vn]⟩, fltV e] ∧ St cx w' L) ∨ (∃ m c' vf, Lir.decode bs = .ok m ∧ u = .tuple #[.agg ⟨[vf]⟩, fltV (0, 0)] ∧ cx.Le c' ∧ modR.at c' [vf] m ∧ St c' w' L) := by
  have hle := St.refl hS
  have hvl := hv.len
  have ho := Rep.SR.oneC hv
  all_goals refine QdL ?_
  all_goals (unfold codec_Decode_ld; refine d_seq ?_; refine d_pl ?_; refine Q1 ?_; refine Qb hS ?_; intro p2 w1 hS; refine Qb hS ?_; intro p3 w1 hS; refine zn ?_; refine d_seq ?_; refine d_sp ?_; refine Qkb ?_; refine zn ?_; refine ⟨_, _, rfl, ?_⟩; refine zn ?_; refine d_pl ?_; refine Q0 ?_; refine Q1 ?_; refine zm ?_; refine zL ?_; refine zsu ?_; refine zm ?_; refine zn ?_; refine Q0 ?_; refine Q0 ?_; refine Q1 ?_; refine zm ?_)
  all_goals (first | (refine Q2G ?_) | (refine Q2H ?_) | (refine Q1h rfl rfl (fun hc => ?_) (fun hc => ?_)))
  all_goals (refine zn ?_)
  all_goals
    first
    | (refine Q6 rfl ?_ -- Q1j c0
       all_goals refine zsk ?_)
    | (refine Q5 rfl ?_ -- Q1j c0
       all_goals (refine Q0 ?_; refine Q1 ?_; refine zv hS ?_; refine zm ?_; refine zL ?_; refine zb2 [_, _] ?_; refine zsn hS ?_; intro w1 hS; have hS := hS.ns; refine zsn hS ?_; intro w1 hS; have hS := hS.ns; refine zn ?_; refine zr ?_)
       all_goals (refine Qd5 ?_; refine Q2y (by intro h; cases h) (by kernel_rfl) (Q39 hS.sp) ?_; rintro u1 w1 ⟨rfl, hS⟩; refine Q28 ?_)
       all_goals (refine Q5o vw (Qn (n := 1) (by kernel_rfl) (by kernel_rfl) (hS.blkAt fd) (by rfl) (by rfl)) vw (Qn (n := 2) (by kernel_rfl) (by kernel_rfl) (hS.blkAt fd) (by rfl) (by rfl)) ?_)
       all_goals (exact ⟨_, rfl, .inl ⟨_, Q2B (by omega), rfl, hS.sp⟩⟩))
  all_goals (refine Q0 ?_; refine Q0 ?_; obtain ⟨N, hN⟩ : ∃ N, bs.length = N + 4 := ⟨bs.length - 4, by omega⟩; rw [show ((bs.length : Int) - 4) = (N : Int) by omega]; refine Q1 ?_; refine zm ?_; refine zL ?_)
  all_goals (first | (refine QZ ?_) | (refine Q1g ?_) | (refine Qg rfl rfl (fun hc => ?_) (fun hc => ?_)))
  all_goals (refine zn ?_)
  all_goals
    first
    | (refine Q6 rfl ?_ -- Q1j c1
       all_goals refine zsk ?_)
    | (refine Q5 rfl ?_ -- Q1j c1
       all_goals (refine Q0 ?_; refine Q1 ?_; refine zv hS ?_; refine zb2 [_, _] ?_; refine zsn hS ?_; intro w1 hS; have hS := hS.ns; refine zsn hS ?_; intro w1 hS; have hS := hS.ns; refine zn ?_; refine zr ?_)
       all_goals (refine Qd5 ?_; refine Q2y (by intro h; cases h) (by kernel_rfl) (Q39 hS.sp) ?_; rintro u1 w1 ⟨rfl, hS⟩; refine Q28 ?_)
       all_goals (refine Q5o vw (Qn (n := 1) (by kernel_rfl) (by kernel_rfl) (hS.blkAt fd) (by rfl) (by rfl)) vw (Qn (n := 2) (by kernel_rfl) (by kernel_rfl) (hS.blkAt fd) (by rfl) (by rfl)) ?_)
       all_goals ((first | exact ⟨_, rfl, .inl ⟨_, Q2B (by omega), rfl, hS.sp⟩⟩ | exact ⟨_, rfl, .inl ⟨_, Q6v (by omega) (by omega), rfl, hS.sp⟩⟩)))
  all_goals (refine Q0 ?_; refine Q0 ?_; refine Q1 ?_; refine zm ?_; refine Qk7 vw hv rfl rfl (h' := 3) ⟨_, rfl⟩ rfl (by omega) (by omega) ?_; intro v4 hs4; rw [List.drop_zero] at hs4; refine Qg5 (e := 5) (by kernel_rfl) (by kernel_rfl) (by kernel_rfl) hS rfl hs4 ?_; refine s_sneql rfl (b := [67, 72, 1]) rfl ?_; refine zn ?_)
  refine Ql rfl (fun hc => ?_) (fun hc => ?_)
  · skip
    all_goals (refine Q0 ?_; have hh := hc; refine Q1 ?_; refine zv hS ?_; refine zb2 [_, _] ?_; refine zsn hS ?_; intro w1 hS; have hS := hS.ns; refine zsn hS ?_; intro w1 hS; have hS := hS.ns; refine zn ?_; refine zr ?_)
    all_goals (refine Qd5 ?_; refine Q2y (by intro h; cases h) (by kernel_rfl) (Q39 hS.sp) ?_; rintro u1 w1 ⟨rfl, hS⟩; refine Q28 ?_)
    all_goals (refine Q5o vw (Qn (n := 1) (by kernel_rfl) (by kernel_rfl) (hS.blkAt fd) (by rfl) (by rfl)) vw (Qn (n := 2) (by kernel_rfl) (by kernel_rfl) (hS.blkAt fd) (by rfl) (by rfl)) ?_; (first | exact ⟨_, rfl, .inl ⟨_, Q2B (by omega), rfl, hS.sp⟩⟩ | exact ⟨_, rfl, .inl ⟨_, Q6v (by omega) (by omega), rfl, hS.sp⟩⟩ | exact ⟨_, rfl, .inl ⟨_, Q94 (by omega) (by omega) hh, rfl, hS.sp⟩⟩))
  · skip
    all_goals (refine zsk ?_; refine Q0 ?_; have hh := hc; refine zD [(0, none), (1, none), (2, none), (3, none), (4, none), (5, none), (6, none), (7, none), (8, none), (9, none), (10, none), (11, none), (12, none), (13, none), (14, none), (15, none), (16, none), (17, none), (18, none), (19, none), (20, none), (21, none), (22, none), (23, none), (24, none), (25, none), (26, none), (27, none), (28, none), (29, some none)] ?_; have hS := hS.drew; refine zm ?_; refine zm ?_; refine zi ?_; intro b1 o1 cs1 x1 hat1 hx1 he1; (first | (obtain rfl := Q1M he1) | (obtain rfl := Q5f he1)); (first | (refine zl hS ?_) | (refine zlk hS ?_)); refine Q3l rfl ?_; rw [Qj5]; have hb1 := x1.toNat_lt; refine zm ?_; refine zm ?_; refine zad ?_; refine zi ?_; intro b2 o2 cs2 x2 hat2 hx2 he2; (first | (obtain rfl := Q1M he2) | (obtain rfl := Q5f he2)); (first | (refine zl hS ?_) | (refine zlk hS ?_)); refine Q3l rfl ?_; rw [Qj5]; have hb2 := x2.toNat_lt; refine Qk9 rfl rfl (by decide) ?_; refine s_or rfl rfl ?_; rw [Qgd (z := 8) (k := 8) rfl (by decide) (by omega) (by omega)]; refine zm ?_; refine zm ?_; refine zad ?_; refine zi ?_; intro b3 o3 cs3 x3 hat3 hx3 he3; (first | (obtain rfl := Q1M he3) | (obtain rfl := Q5f he3)); (first | (refine zl hS ?_) | (refine zlk hS ?_)))
    all_goals (refine Q3l rfl ?_; rw [Qj5]; have hb3 := x3.toNat_lt; refine Qk9 rfl rfl (by decide) ?_; refine s_or rfl rfl ?_; rw [Qgd (z := 16) (k := 16) rfl (by decide) (by omega) (by omega)]; refine zm ?_; refine zm ?_; refine zad ?_; refine zi ?_; intro b4 o4 cs4 x4 hat4 hx4 he4; (first | (obtain rfl := Q1M he4) | (obtain rfl := Q5f he4)); (first | (refine zl hS ?_) | (refine zlk hS ?_)); refine Q3l rfl ?_; rw [Qj5]; have hb4 := x4.toNat_lt; refine Qk9 rfl rfl (by decide) ?_; refine s_or rfl rfl ?_; rw [Qgd (z := 24) (k := 24) rfl (by decide) (by omega) (by omega)]; refine zm ?_; refine zn ?_; refine Q0 ?_; refine Q0 ?_; refine Q1 ?_; refine zm ?_; refine zm ?_; refine Qk7 vw hv rfl rfl (h' := N) ⟨_, rfl⟩ rfl (by omega) (by omega) ?_; intro v5 hs5; rw [List.drop_zero] at hs5; refine zR1 (c := sum_c hs5 hS) (h := ?_); rintro v1 w1 ⟨rfl, hS⟩; refine zm ?_; refine Q7z rfl rfl ?_; refine zn ?_)
    refine Ql rfl (fun hc => ?_) (fun hc => ?_)
    · skip
      all_goals (refine Q0 ?_; have hs : sumB (Q2g (bs.take N)) ≠ bs.drop N := (by rw [drop4 hN hx1 hx2 hx3 hx4]; intro h0; have h1 := sumB_eq.1 h0; omega); refine Q1 ?_; refine zv hS ?_; refine zm ?_; refine zb2 [_, _] ?_; refine zsn hS ?_; intro w1 hS; have hS := hS.ns; refine zsn hS ?_; intro w1 hS; have hS := hS.ns; refine zn ?_; refine zr ?_)
      all_goals (refine Qd5 ?_; refine Q2y (by intro h; cases h) (by kernel_rfl) (Q39 hS.sp) ?_; rintro u1 w1 ⟨rfl, hS⟩; refine Q28 ?_)
      all_goals (refine Q5o vw (Qn (n := 1) (by kernel_rfl) (by kernel_rfl) (hS.blkAt fd) (by rfl) (by rfl)) vw (Qn (n := 2) (by kernel_rfl) (by kernel_rfl) (hS.blkAt fd) (by rfl) (by rfl)) ?_; (first | exact ⟨_, rfl, .inl ⟨_, Q2B (by omega), rfl, hS.sp⟩⟩ | exact ⟨_, rfl, .inl ⟨_, Q6v (by omega) (by omega), rfl, hS.sp⟩⟩ | exact ⟨_, rfl, .inl ⟨_, Q94 (by omega) (by omega) hh, rfl, hS.sp⟩⟩ | exact ⟨_, rfl, .inl ⟨_, Qgr hN (by omega) (by omega) hh hs, rfl, hS.sp⟩⟩))
    · skip
      all_goals (refine zsk ?_; refine Q0 ?_; have hs : ¬ sumB (Q2g (bs.take N)) ≠ bs.drop N := (by rw [drop4 hN hx1 hx2 hx3 hx4]; intro h0; exact h0 (sumB_eq.2 (by omega))); have hl6 : (bs.take N).length = N := (by simp [hN]); refine Q1 ?_; refine zm ?_; refine zm ?_; refine Qk7 vw hv rfl rfl (h' := N) ⟨_, rfl⟩ rfl (by omega) (by omega) ?_; intro v6 hs6; rw [List.drop_zero] at hs6; obtain ⟨a6, n6, rfl⟩ := Rep.SR.shape hs6; refine zb2 [_, _] ?_; refine zb hS ?_; intro p71 w1 hS; refine zm ?_; refine zn ?_; refine Q0 ?_; refine Q1 ?_; refine zm ?_; refine zm ?_; refine s_mkb (u := [.pointer (some ⟨p71, 0, none⟩)]) rfl ?_)
      all_goals (have hS : St cx _ (blk p71 120 [.slice a6 (bs.take N).length n6, .int .i64 ((3 : Nat) : Int)] :: blk p2 24 [vn] :: blk p3 47 [vi 0, vi 0] :: L) := hS.sp; refine Q1A rfl (Qhu (cx := cx) ⟨[_], [], rfl, rfl⟩ (by kernel_rfl) (by omega) (Qko (by omega) hs6) hs6 (by omega) hS) (by rintro v9 w9 ⟨e, at2, e2, rfl, hS⟩; rw [hl6] at e2; (repeat (first | refine Qv ?_ | refine Qw ?_ | refine fun _ => ?_)); refine q_panD ?_; refine Q2y (by intro h; cases h) (by kernel_rfl) (Ql2 hS.sp) ?_; rintro u' w' ⟨rfl, hS⟩; refine Q28 ?_; refine Q5o vw (Qn (n := 1) (by kernel_rfl) (by kernel_rfl) (hS.blkAt fd) (by rfl) (by rfl)) vw (Qn (n := 2) (by kernel_rfl) (by kernel_rfl) (hS.blkAt fd) (by rfl) (by rfl)) ?_; exact ⟨_, rfl, .inl ⟨e, dec_e hN (by omega) (by omega) hh hs e2, rfl, hS.sp⟩⟩) ?_; rintro v7 w7 ⟨l, at1, c1, e1, h4, h5, hle1, hl1, hS⟩; rw [hl6] at e1; have ho7 := Rep.SR.oneC hl1; have hm := Qb4 (by omega) e1; have hx' : modR.at c1 [v7] ⟨l⟩ := ⟨_, rfl, hl1⟩)
      all_goals (refine Q2 rfl ?_; refine zst hS ?_; intro w1 hS; have hS := hS.ns; refine zn ?_; refine Q0 ?_; refine Q0 ?_; refine Q1 ?_; refine zm ?_; refine Qq rfl ?_; refine Q2 rfl ?_; refine zl hS ?_; refine zm ?_)
      all_goals (first | (refine Q2G ?_) | (refine Q2H ?_) | (refine Q1h rfl rfl (fun hc => ?_) (fun hc => ?_)))
      all_goals (refine zn ?_)
      all_goals
        first
        | (refine Q5 rfl ?_ -- Q1j c4
           all_goals (refine Q0 ?_; refine zC [(0, none), (1, none), (2, none), (3, none), (4, none), (5, none), (6, some (some [4])), (7, some none)] ?_; have hS := hS.drew; refine s_cq ?_; refine zb0 [_] ?_; refine zt ?_; refine s_cq ?_; refine zm ?_; refine zt ?_; refine s_cq ?_; refine Qq rfl ?_; refine zt ?_; refine s_cq ?_; refine Q2 rfl ?_; refine zt ?_; refine s_cq ?_; refine zl hS ?_; refine zt ?_; refine s_cq ?_; refine zb2 [_, _] ?_; refine zt ?_; refine Qho ?_; refine zsn hS ?_; intro w1 hS; have hS := hS.ns; refine zt ?_; refine zy ?_; refine s_cf ?_; refine zsn hS ?_; intro w1 hS; have hS := hS.ns; refine zt ?_; refine zcn ?_; refine zr ?_)
           all_goals (refine Qd5 ?_; refine Q2y (by intro h; cases h) (by kernel_rfl) (Q39 hS.sp) ?_; rintro u1 w1 ⟨rfl, hS⟩; refine Q28 ?_)
           all_goals (refine Q5o vw (Qn (n := 1) (by kernel_rfl) (by kernel_rfl) (hS.blkAt fd) (by rfl) (by rfl)) vw (Qn (n := 2) (by kernel_rfl) (by kernel_rfl) (hS.blkAt fd) (by rfl) (by rfl)) ?_)
           all_goals ((first | exact ⟨_, rfl, .inl ⟨_, Q2B (by omega), rfl, hS.sp⟩⟩ | exact ⟨_, rfl, .inl ⟨_, Q6v (by omega) (by omega), rfl, hS.sp⟩⟩ | exact ⟨_, rfl, .inl ⟨_, Q94 (by omega) (by omega) hh, rfl, hS.sp⟩⟩ | exact ⟨_, rfl, .inl ⟨_, Qgr hN (by omega) (by omega) hh hs, rfl, hS.sp⟩⟩ | exact ⟨_, rfl, .inl ⟨_, Qdj hN (by omega) (by omega) hh hs e1 (by omega), rfl, St.weak hS.sp hle1⟩⟩)))
        | (refine Q6 rfl ?_ -- Q1j c4
           all_goals refine zsk ?_)
      all_goals (refine Q0 ?_; refine Q0 ?_; refine Q1 ?_; refine zv hS ?_; refine zR1 (c := Qjc hm hx' hS) (h := ?_); rintro v1 w1 ⟨rfl, hS⟩; unfold fltV; refine Qb hS ?_; intro p7 w1 hS; refine zsn hS ?_; intro w1 hS; have hS := hS.ns; refine zn ?_; refine Q0 ?_; refine Q1 ?_; refine Q2 rfl ?_; refine zl hS ?_)
      all_goals (first | (refine Q1F ?_) | (refine Q1G ?_) | (refine QC rfl rfl (fun hc => ?_) (fun hc => ?_)))
      all_goals (refine zn ?_)
      all_goals
        first
        | (refine Q5 rfl ?_ -- Q1j c5
           all_goals (refine Q0 ?_; refine Q1 ?_; refine zb0 [_] ?_; refine zm ?_; refine zb2 [_, _] ?_; refine zsn hS ?_; intro w1 hS; have hS := hS.ns; refine zsn hS ?_; intro w1 hS; have hS := hS.ns; refine zn ?_; refine zr ?_)
           all_goals (refine Qd5 ?_; refine Q2y (by intro h; cases h) (by kernel_rfl) (Q39 hS.sp) ?_; rintro u1 w1 ⟨rfl, hS⟩; refine Q28 ?_)
           all_goals (refine Q5o vw (Qn (n := 1) (by kernel_rfl) (by kernel_rfl) (hS.blkAt fd) (by rfl) (by rfl)) vw (Qn (n := 2) (by kernel_rfl) (by kernel_rfl) (hS.blkAt fd) (by rfl) (by rfl)) ?_)
           all_goals ((first | exact ⟨_, rfl, .inl ⟨_, Q2B (by omega), rfl, hS.sp⟩⟩ | exact ⟨_, rfl, .inl ⟨_, Q6v (by omega) (by omega), rfl, hS.sp⟩⟩ | exact ⟨_, rfl, .inl ⟨_, Q94 (by omega) (by omega) hh, rfl, hS.sp⟩⟩ | exact ⟨_, rfl, .inl ⟨_, Qgr hN (by omega) (by omega) hh hs, rfl, hS.sp⟩⟩ | exact ⟨_, rfl, .inl ⟨_, Qdj hN (by omega) (by omega) hh hs e1 (by omega), rfl, St.weak hS.sp hle1⟩⟩ | exact ⟨_, rfl, .inl ⟨_, QhP hN (by omega) (by omega) hh hs e1 (Qgo hN (by omega)) (by omega), rfl, St.weak hS.sp hle1⟩⟩)))
        | (refine Q6 rfl ?_ -- Q1j c5
           all_goals refine zsk ?_)
      all_goals (refine Q0 ?_; refine Q1 ?_; refine zv hS ?_; refine zb0 [_, _] ?_; refine zsn hS ?_; intro w1 hS; have hS := hS.ns; refine zsn hS ?_; intro w1 hS; have hS := hS.ns; refine zn ?_; refine zr ?_)
      all_goals (refine Qd5 ?_; refine Q2y (by intro h; cases h) (by kernel_rfl) (Q39 hS.sp) ?_; rintro u1 w1 ⟨rfl, hS⟩; refine Q28 ?_)
      all_goals (refine Q5o vw (Qn (n := 1) (by kernel_rfl) (by kernel_rfl) (hS.blkAt fd) (by rfl) (by rfl)) vw (Qn (n := 2) (by kernel_rfl) (by kernel_rfl) (hS.blkAt fd) (by rfl) (by rfl)) ?_; (first | exact ⟨_, rfl, .inl ⟨_, Q2B (by omega), rfl, hS.sp⟩⟩ | exact ⟨_, rfl, .inl ⟨_, Q6v (by omega) (by omega), rfl, hS.sp⟩⟩ | exact ⟨_, rfl, .inl ⟨_, Q94 (by omega) (by omega) hh, rfl, hS.sp⟩⟩ | exact ⟨_, rfl, .inl ⟨_, Qgr hN (by omega) (by omega) hh hs, rfl, hS.sp⟩⟩ | exact ⟨_, rfl, .inl ⟨_, Qdj hN (by omega) (by omega) hh hs e1 (by omega), rfl, St.weak hS.sp hle1⟩⟩ | exact ⟨_, rfl, .inl ⟨_, QhP hN (by omega) (by omega) hh hs e1 (Qgo hN (by omega)) (by omega), rfl, St.weak hS.sp hle1⟩⟩ | exact ⟨_, rfl, .inr ⟨_, c1, v7, dec_ok hN (by omega) (by omega) hh hs e1 (Qgo hN (by omega)) (by omega), rfl, hle1, hx', hS.sp⟩⟩))
end Go.Proofs.Ytanlkfeogoganaa
namespace Go.Proofs.Ytanlkfeogoganaa
open Go.Lir
set_option maxHeartbeats 1000000
attribute [local irreducible] LC.wp Q3 Qz QM retQ Q1x LO.wp Qf Calls
set_option linter.unusedSimpArgs false
set_option linter.unusedVariables false
attribute [local irreducible] bitI IntKind.wrap zig leb Qe QN Q7D To.bts
variable {cx : Cx} {w : World} {L : List Res}
theorem wins_c {x : Ins} {wb : Nat} {v : Value} {cs : List Value} {bs : List UInt8} (hv : oneC v = true) (hx : insR.at cx cs x) (hb : bs.length + x.bts.length ≤ 60000000000000)
    (hS : St cx w (blk wb 112 [v] :: sl 5 1 v (bs.map QF) :: L)) :
    Rets Try.prog Qx [.pointer (some ⟨wb, 0, none⟩), .agg ⟨cs⟩] w fun u w' => ∃ v', u = .tuple #[] ∧ oneC v' = true ∧ St cx w' (blk wb 112 [v'] :: sl 5 1 v' ((bs ++ x.bts).map QF) :: L) := by
  obtain ⟨vr, va, rfl, hr, ha⟩ := Q2f hx
  obtain ⟨ar, lr, rfl⟩ := Rep.SR.shape hr
  obtain ⟨aa, la, rfl⟩ := Rep.SR.shape ha
  unfold Ins.bts at hb ⊢
  obtain ⟨h, hh⟩ : ∃ h, Qe x.op = h := ⟨_, rfl⟩
  have hlt := QfE x.op
  rw [hh] at hb hlt ⊢
  simp only [List.length_append] at hb
  rw [← List.append_assoc, ← List.append_assoc, ← List.append_assoc, ← List.append_assoc]
  have h4 : ([x.a, x.b, x.c, x.k] : List Int).length = 4 := rfl
  all_goals refine Q7W ?_
  all_goals (unfold codec_writer_ins_lc; refine Q0 ?_; refine Q1 ?_; refine zb hS ?_; intro p3 w1 hS; refine zn ?_; refine Q0 ?_; refine Q1 ?_; refine Q2 rfl ?_; refine zl hS ?_; refine zR1 (c := Qhi hS) (h := ?_); rintro v1 w1 ⟨rfl, hS⟩; rw [hh]; refine zm ?_; refine zn ?_; refine Q0 ?_; refine Q1 ?_; refine zm ?_; refine Q2 rfl ?_; refine zl hS ?_; refine zB1 hS [_] ?_; intro b1 w1 hS; have hS : St cx _ (blk _ 3 [.int .i64 x.op] :: blk wb 112 [v] :: sl 5 1 v (bs.map QF) :: blk p3 27 [.int .i64 x.op, .int .i64 x.a, .int .i64 x.b, .int .i64 x.c, .int .i64 x.k, .int .i64 x.n, .slice ar x.regs.length lr, .slice aa x.args.length la] :: L) := hS.sp; refine zR2 (c := Q3j (n := x.op) hv (by omega) hS) (h := ?_); rintro v1 w1 ⟨v3, rfl, hv3, hS⟩; refine zn ?_; refine Q0 ?_; refine Q0 ?_; refine Q1 ?_; refine Q2 rfl ?_; refine zl hS ?_; refine Q2 rfl ?_; refine zl hS ?_; refine Q2 rfl ?_; refine zl hS ?_; refine Q2 rfl ?_)
  all_goals (refine zl hS ?_; refine zB4 hS [_, _, _, _] ?_; intro b1 w1 hS; obtain ⟨c1, hle1, hS, hf⟩ := St.freezeL (r := intR) (es := 1) (l := [x.a, x.b, x.c, x.k]) (css := [[_], [_], [_], [_]]) (hS.slOf (es := 1) (css := [[_], [_], [_], [_]]) rfl (by simp) rfl) (((((Rep.LR.nil _ _ _).push rfl).push rfl).push rfl).push rfl) rfl (by omega); have hr := Rep.SR.up hr hle1; have ha := Rep.SR.up ha hle1; refine zL ?_; refine zm ?_; refine zn ?_; refine Qa ?_)
  refine zo [0, 3, 4, 23, 24] (fun A ρ' w' => ∃ (j : Nat) (vb : Value) (acc : List UInt8), Has ρ' A ∧ Has ρ' [(25, .int .i64 j)] ∧ (j ≤ 4) ∧ (oneC vb = true) ∧ (acc ++ Q7A h j (([x.a, x.b, x.c, x.k] : List Int).drop j) = bs ++ QN x.op ++ Q7A h 0 [x.a, x.b, x.c, x.k]) ∧ St c1 w' (blk wb 112 [vb] :: sl 5 1 vb (acc.map QF) :: blk p3 27 [.int .i64 x.op, .int .i64 x.a, .int .i64 x.b, .int .i64 x.c, .int .i64 x.k, .int .i64 x.n, .slice ar x.regs.length lr, .slice aa x.args.length la] :: L)) (fun ρ' _ => (4 - iv (ρ' 25)).toNat) ?_ ?_
  · exact ⟨0, v3, _, zh, zh, (by omega), by assumption, by rw [List.drop_zero], hS.sp⟩
  rintro ρ w1 ⟨j, vb, acc, hA, hρ, hj, hvb, hd, hS⟩; obtain ⟨ρ, rfl⟩ := env2 hA hρ
  unfold Q3b
  all_goals (refine Q0 ?_; refine Q1 ?_; refine Qu rfl rfl ?_; refine zn ?_; refine Q0 ?_)
  refine Ql rfl (fun hc => ?_) (fun hc => ?_)
  · skip
    all_goals (refine zsk ?_; refine Q0 ?_; refine Qa ?_; refine Q0 ?_; refine Q1 ?_; refine zm ?_; refine zi ?_; intro b1 o1 cs1 x1 hat1 hx1 he1; obtain rfl := Q1M he1; (first | (refine zl hS ?_) | (refine zlk hS ?_)); refine zm ?_; refine zm ?_; refine zn ?_; have hal := congrArg List.length hd; rw [Q9M hx1] at hal; simp only [List.length_append] at hal; refine Q0 ?_; refine Q1 ?_; refine zm ?_; refine zm ?_; refine QeI rfl rfl (by omega) ?_; refine Q9K rfl rfl ?_; rw [bit_at hlt (by omega)]; obtain ⟨q, hq⟩ : ∃ q, h / 2 ^ j % 2 = q := ⟨_, rfl⟩; rw [hq] at hal ⊢)
    all_goals (first | (refine Q10 ?_) | (refine Q1p ?_) | (refine Qk rfl rfl (fun hc => ?_) (fun hc => ?_)))
    all_goals (refine zn ?_)
    all_goals
      first
      | (refine Q5 rfl ?_ -- Qx c1
         all_goals (refine Q1 ?_; refine zm ?_; refine zm ?_; refine zB1 hS [_] ?_; intro b1 w1 hS; rw [if_pos (show q = 1 by omega)] at hal; have hS : St c1 _ (blk _ 3 [.int .i64 x1] :: blk wb 112 [vb] :: sl 5 1 vb (acc.map QF) :: blk p3 27 [.int .i64 x.op, .int .i64 x.a, .int .i64 x.b, .int .i64 x.c, .int .i64 x.k, .int .i64 x.n, .slice ar x.regs.length lr, .slice aa x.args.length la] :: L) := hS.sp; refine zR2 (c := Q3j (n := x1) hvb (by omega) hS) (h := ?_); rintro v1 w1 ⟨v4, rfl, hv4, hS⟩)
         all_goals refine zn ?_)
      | (refine Q6 rfl ?_ -- Qx c1
         all_goals refine zsk ?_)
    all_goals (refine Q1 ?_; refine zad ?_; refine zm ?_; refine zn ?_; (first | (exact ⟨⟨j + 1, v4, acc ++ QN x1, zh, zh, (by omega), by assumption, by rw [← hd, Q9M hx1, hq, if_pos (show q = 1 by omega), List.append_assoc], hS.sp⟩, Qh (by omega)⟩) | (exact ⟨⟨j + 1, vb, acc, zh, zh, (by omega), by assumption, by rw [← hd, Q9M hx1, hq, if_neg (show ¬ q = 1 by omega), List.nil_append], hS.sp⟩, Qh (by omega)⟩)))
  · skip
    all_goals (refine zex ?_; rw [List.drop_of_length_le (by omega), Q7A, List.append_nil] at hd; subst hd)
    refine zM [0, 3, 4] (fun A ρ' w' => ∃ (vc : Value), Has ρ' A ∧ Has ρ' [] ∧ (oneC vc = true) ∧ St c1 w' (blk wb 112 [vc] :: sl 5 1 vc ((bs ++ QN x.op ++ Q7A h 0 [x.a, x.b, x.c, x.k] ++ (if h / 64 % 2 = 1 then QN x.n else [])).map QF) :: blk p3 27 [.int .i64 x.op, .int .i64 x.a, .int .i64 x.b, .int .i64 x.c, .int .i64 x.k, .int .i64 x.n, .slice ar x.regs.length lr, .slice aa x.args.length la] :: L)) ?_ ?_
    · skip
      all_goals (refine Q0 ?_; refine Q1 ?_; refine zm ?_; refine Q9K rfl rfl ?_; rw [and64 hlt])
      all_goals (first | (refine Q1F ?_) | (refine Q1G ?_) | (refine QC rfl rfl (fun hc => ?_) (fun hc => ?_)))
      all_goals (refine zn ?_)
      all_goals
        first
        | (refine Q5 rfl ?_ -- Qx c2
           all_goals (refine Q1 ?_; refine zm ?_; refine Q2 rfl ?_; refine zl hS ?_; refine zB1 hS [_] ?_; intro b1 w1 hS; rw [if_pos (show h / 64 % 2 = 1 by omega)] at hb; have hS : St c1 _ (blk _ 2 [.int .i64 x.n] :: blk wb 112 [vb] :: sl 5 1 vb ((bs ++ QN x.op ++ Q7A h 0 [x.a, x.b, x.c, x.k]).map QF) :: blk p3 27 [.int .i64 x.op, .int .i64 x.a, .int .i64 x.b, .int .i64 x.c, .int .i64 x.k, .int .i64 x.n, .slice ar x.regs.length lr, .slice aa x.args.length la] :: L) := hS.sp; obtain ⟨c2, hle2, hS, hf9⟩ := St.freeze1 (r := intR) (x := x.n) hS rfl; refine zR2 (c := QjS (l := [x.n]) hvb hf9 (by rw [Q2X]; simp only [List.length_append]; omega) hS) (h := ?_); rintro v1 w1 ⟨v5, rfl, hv5, hS⟩; rw [Q2X] at hS; have hS := St.weak hS hle2)
           all_goals refine zn ?_)
        | (refine Q6 rfl ?_ -- Qx c2
           all_goals refine zsk ?_)
      all_goals ((first | (exact ⟨_, zh, zh, by assumption, by rw [if_pos (show h / 64 % 2 = 1 by omega)]; exact hS.sp⟩) | (exact ⟨_, zh, zh, by assumption, by rw [if_neg (show ¬ h / 64 % 2 = 1 by omega), List.append_nil]; exact hS.sp⟩)))
    rintro ρ w1 ⟨vc, hA, hρ, hvc, hS⟩; obtain ⟨ρ, rfl⟩ := env2 hA hρ
    refine zM [0, 3, 4] (fun A ρ' w' => ∃ (vd : Value), Has ρ' A ∧ Has ρ' [] ∧ (oneC vd = true) ∧ St c1 w' (blk wb 112 [vd] :: sl 5 1 vd ((bs ++ QN x.op ++ Q7A h 0 [x.a, x.b, x.c, x.k] ++ (if h / 64 % 2 = 1 then QN x.n else []) ++ (if h / 16 % 2 = 1 then Q7D x.regs else [])).map QF) :: blk p3 27 [.int .i64 x.op, .int .i64 x.a, .int .i64 x.b, .int .i64 x.c, .int .i64 x.k, .int .i64 x.n, .slice ar x.regs.length lr, .slice aa x.args.length la] :: L)) ?_ ?_
    · skip
      all_goals (refine Q0 ?_; refine Q1 ?_; refine zm ?_; refine Q9K rfl rfl ?_; rw [and16 hlt])
      all_goals (first | (refine Q1F ?_) | (refine Q1G ?_) | (refine QC rfl rfl (fun hc => ?_) (fun hc => ?_)))
      all_goals (refine zn ?_)
      all_goals
        first
        | (refine Q5 rfl ?_ -- Qx c3
           all_goals (refine Q1 ?_; refine zm ?_; refine Q2 rfl ?_; refine zl hS ?_; rw [if_pos (show h / 16 % 2 = 1 by omega)] at hb; refine zR2 (c := QcB hvc hr (by simp only [List.length_append]; omega) hS) (h := ?_); rintro v1 w1 ⟨v6, rfl, hv6, hS⟩)
           all_goals refine zn ?_)
        | (refine Q6 rfl ?_ -- Qx c3
           all_goals refine zsk ?_)
      all_goals ((first | (exact ⟨_, zh, zh, by assumption, by rw [if_pos (show h / 16 % 2 = 1 by omega)]; exact hS.sp⟩) | (exact ⟨_, zh, zh, by assumption, by rw [if_neg (show ¬ h / 16 % 2 = 1 by omega), List.append_nil]; exact hS.sp⟩)))
    rintro ρ w1 ⟨vd, hA, hρ, hvd, hS⟩; obtain ⟨ρ, rfl⟩ := env2 hA hρ
    all_goals (refine Q0 ?_; refine Q1 ?_; refine zm ?_; refine Q9K rfl rfl ?_; rw [and32 hlt])
    all_goals (first | (refine Q1F ?_) | (refine Q1G ?_) | (refine QC rfl rfl (fun hc => ?_) (fun hc => ?_)))
    all_goals (refine zn ?_)
    all_goals
      first
      | (refine Q5 rfl ?_ -- Qx c4
         all_goals (refine Q1 ?_; refine zm ?_; refine Q2 rfl ?_; refine zl hS ?_; rw [if_pos (show h / 32 % 2 = 1 by omega)] at hb; refine zR2 (c := QcB hvd ha (by simp only [List.length_append]; omega) hS) (h := ?_); rintro v1 w1 ⟨v7, rfl, hv7, hS⟩)
         all_goals refine zn ?_)
      | (refine Q6 rfl ?_ -- Qx c4
         all_goals refine zsk ?_)
    all_goals (refine Q2x ?_; rcases Decidable.em (h / 32 % 2 = 1) with h9 | h9; (rw [if_pos h9]; first | (exact ⟨_, rfl, _, rfl, hv7, St.weak hS.sp hle1⟩) | (exfalso; omega)); rw [if_neg h9, List.append_nil]; first | (exact ⟨_, rfl, _, rfl, hvd, St.weak hS.sp hle1⟩) | (exfalso; omega))
theorem wend_c {x : Tail} {wb : Nat} {v : Value} {cs : List Value} {bs : List UInt8} (hv : oneC v = true) (hx : endR.at cx cs x) (hb : bs.length + x.bts.length ≤ 60000000000000)
    (hS : St cx w (blk wb 112 [v] :: sl 5 1 v (bs.map QF) :: L)) :
    Rets Try.prog QP [.pointer (some ⟨wb, 0, none⟩), .agg ⟨cs⟩] w fun u w' => ∃ v', u = .tuple #[] ∧ oneC v' = true ∧ St cx w' (blk wb 112 [v'] :: sl 5 1 v' ((bs ++ x.bts).map QF) :: L) := by
  obtain ⟨v1, v2, v3, v4, v5, rfl, h1, h2, h3, h4, h5⟩ := Qgk hx
  obtain ⟨a1, n1, rfl⟩ := Rep.SR.shape h1
  obtain ⟨a2, n2, rfl⟩ := Rep.SR.shape h2
  obtain ⟨a3, n3, rfl⟩ := Rep.SR.shape h3
  obtain ⟨a4, n4, rfl⟩ := Rep.SR.shape h4
  obtain ⟨a5, n5, rfl⟩ := Rep.SR.shape h5
  have hy : toR.at cx [.int .i64 x.yes.block, .slice a1 x.yes.regs.length n1, .slice a2 x.yes.args.length n2] x.yes := ⟨_, _, rfl, h1, h2⟩
  have hn : toR.at cx [.int .i64 x.no.block, .slice a3 x.no.regs.length n3, .slice a4 x.no.args.length n4] x.no := ⟨_, _, rfl, h3, h4⟩
  unfold Tail.bts at hb ⊢
  rw [List.length_append] at hb
  rw [← List.append_assoc]
  all_goals refine Q87 ?_
  all_goals (unfold codec_writer_end_lc; refine Q0 ?_; refine Q1 ?_; refine zb hS ?_; intro p3 w1 hS; refine zn ?_; refine Q0 ?_; refine Q1 ?_; refine zm ?_; refine Q2 rfl ?_; refine zl hS ?_; refine zB1 hS [_] ?_; intro b1 w1 hS; have hS : St cx _ (blk _ 3 [.int .i64 x.op] :: blk wb 112 [v] :: sl 5 1 v (bs.map QF) :: blk p3 35 [.int .i64 x.op, .int .i64 x.a, .int .i64 x.yes.block, .slice a1 x.yes.regs.length n1, .slice a2 x.yes.args.length n2, .int .i64 x.no.block, .slice a3 x.no.regs.length n3, .slice a4 x.no.args.length n4, .slice a5 x.args.length n5] :: L) := hS.sp; refine zR2 (c := Q3j (n := x.op) hv (by omega) hS) (h := ?_); rintro v1 w1 ⟨u1, rfl, hu1, hS⟩; refine zn ?_; refine Q0 ?_; refine Q1 ?_; refine Q2 rfl ?_; refine zl hS ?_; refine zn ?_; refine Qa ?_; refine Q0 ?_; refine Q1 ?_)
  all_goals (first | (refine Q10 ?_) | (refine Q1p ?_) | (refine Qk rfl rfl (fun hc => ?_) (fun hc => ?_)))
  all_goals (refine zm ?_; refine zn ?_)
  all_goals
    first
    | (refine Q5 rfl ?_ -- QP c0
       all_goals (refine Q1 ?_; refine zm ?_; refine Q2 rfl ?_; refine zv hS ?_; rw [if_pos (show x.op = 1 by omega)] at hb; refine zR2 (c := wto_c (x := x.yes) (cs := [_, _, _]) hu1 hy (by simp only [List.length_append]; omega) hS) (h := ?_); rintro v1 w1 ⟨u2, rfl, hu2, hS⟩)
       all_goals refine zn ?_)
    | (refine Q6 rfl ?_ -- QP c0
       all_goals (refine Q0 ?_; refine Q1 ?_)
       all_goals (first | (refine Q10 ?_) | (refine Q1p ?_) | (refine Qk rfl rfl (fun hc => ?_) (fun hc => ?_)))
       all_goals (refine zm ?_; refine zn ?_)
       all_goals
         first
         | (refine Q5 rfl ?_ -- QP c1
            all_goals (refine Q0 ?_; refine Q1 ?_; refine zm ?_; refine Q2 rfl ?_; refine zl hS ?_; refine zB1 hS [_] ?_; intro b1 w1 hS; rw [if_neg (show ¬ x.op = 1 by omega), if_pos (show x.op = 2 by omega)] at hb; simp only [List.length_append] at hb; have hS : St cx _ (blk _ 3 [.int .i64 x.a] :: blk wb 112 [u1] :: sl 5 1 u1 ((bs ++ QN x.op).map QF) :: blk p3 35 [.int .i64 x.op, .int .i64 x.a, .int .i64 x.yes.block, .slice a1 x.yes.regs.length n1, .slice a2 x.yes.args.length n2, .int .i64 x.no.block, .slice a3 x.no.regs.length n3, .slice a4 x.no.args.length n4, .slice a5 x.args.length n5] :: L) := hS.sp; refine zR2 (c := Q3j (n := x.a) hu1 (by simp only [List.length_append]; omega) hS) (h := ?_); rintro v1 w1 ⟨u3, rfl, hu3, hS⟩; refine zn ?_; refine Q0 ?_; refine Q1 ?_; refine zm ?_; refine Q2 rfl ?_; refine zv hS ?_; refine zR2 (c := wto_c (x := x.yes) (cs := [_, _, _]) hu3 hy (by simp only [List.length_append]; omega) hS) (h := ?_); rintro v1 w1 ⟨u4, rfl, hu4, hS⟩; refine zn ?_; refine Q1 ?_; refine zm ?_; refine Q2 rfl ?_; refine zv hS ?_; refine zR2 (c := wto_c (x := x.no) (cs := [_, _, _]) hu4 hn (by simp only [List.length_append]; omega) hS) (h := ?_); rintro v1 w1 ⟨u5, rfl, hu5, hS⟩)
            all_goals refine zn ?_)
         | (refine Q6 rfl ?_ -- QP c1
            all_goals (refine Q0 ?_; refine Q1 ?_)
            all_goals (first | (refine Q10 ?_) | (refine Q1p ?_) | (refine Qk rfl rfl (fun hc => ?_) (fun hc => ?_)))
            all_goals (refine zm ?_; refine zn ?_)
            all_goals
              first
              | (refine Q5 rfl ?_ -- QP c2
                 all_goals (refine Q1 ?_; refine zm ?_; refine Q2 rfl ?_; refine zl hS ?_; rw [if_neg (show ¬ x.op = 1 by omega), if_neg (show ¬ x.op = 2 by omega), if_pos (show x.op = 3 by omega)] at hb; refine zR2 (c := QcB hu1 h5 (by simp only [List.length_append]; omega) hS) (h := ?_); rintro v1 w1 ⟨u6, rfl, hu6, hS⟩)
                 all_goals refine zn ?_)
              | (refine Q6 rfl ?_ -- QP c2
                 all_goals refine zsk ?_)))
  all_goals (refine Q2x ?_; rcases Decidable.em (x.op = 1) with h9 | h9; (rw [if_pos h9]; first | (exact ⟨_, rfl, u2, rfl, hu2, hS.sp⟩) | (exfalso; omega)); rcases Decidable.em (x.op = 2) with h8 | h8; (rw [if_neg h9, if_pos h8, ← List.append_assoc, ← List.append_assoc]; first | (exact ⟨_, rfl, u5, rfl, hu5, hS.sp⟩) | (exfalso; omega)); rcases Decidable.em (x.op = 3) with h7 | h7; (rw [if_neg h9, if_neg h8, if_pos h7]; first | (exact ⟨_, rfl, u6, rfl, hu6, hS.sp⟩) | (exfalso; omega)); rw [if_neg h9, if_neg h8, if_neg h7, List.append_nil]; first | (exact ⟨_, rfl, u1, rfl, hu1, hS.sp⟩) | (exfalso; omega))
end Go.Proofs.Ytanlkfeogoganaa
namespace Go.Lir
section
variable {P : Program} {l : List GO} {Q : QT} {ρ : Env} {w : World} {c : Cx} {L : List Res}
theorem Qfx {d src e Ty T b n m : Nat} {x : Operand} {cs : List Value} (hs : P.underlying src = some (.slice e)) (he : P.underlying e = some (.int .u8)) (hS : St c w (blk b T cs :: L)) (hx : ρ.ev x = .slice (some ⟨b, 0, none⟩) n m)
    (h : ∀ w', St c w' (blk b T cs :: L) → Q3 P l Q (upd ρ d (.slice (some ⟨b, 0, none⟩) n m)) w') : Q3 P (⟨none, .raw ⟨some d, .convert src src x, Ty, "", #[], none⟩⟩ :: l) Q ρ w := by
  obtain ⟨F, ⟨⟨⟨lo, hi⟩, hb, hfz, hle⟩, hF⟩, hst⟩ := hS.step0
  have hsh : w.shape? b = some (T, cs.length) := by simp [World.shape?, hb]
  refine QH (v := .slice (some ⟨b, 0, none⟩) n m) (w' := w.freeze ⟨b, cs.length, none⟩ 1) ?_ (h _ ?_)
  · simp only [execOp, hx, Sem.run_bind]
    simp [convert, Q8 P src _ w hs, Q8 P e _ w he, markStringish, hsh]
  · simp only at hfz hle
    refine hst _ F _ ⟨⟨if lo == hi then (cs.length, cs.length + 1) else (min lo cs.length, max hi (cs.length + 1)), ?_, ?_, ?_⟩, hF⟩ (Step.same ⟨rfl, rfl, rfl, ?_, ?_⟩)
    · simp [World.freeze, Array.getElem?_modify, hb]
    · intro i h1 h2
      by_cases he2 : lo = hi
      · rw [if_pos (by simpa using he2)] at h1
        exact h1
      · have := hfz lo (Nat.le_refl _) (by omega)
        rw [if_neg (by simpa using he2)] at h1
        simp only at h1; omega
    · by_cases he2 : lo = hi
      · rw [if_pos (by simpa using he2)]; simp
      · rw [if_neg (by simpa using he2)]; simp only; omega
    · simp [World.freeze]
    · intro q hq hn
      simp only [World.freeze, if_neg (show ¬ (1 : Nat) = 0 by decide), Array.getElem?_modify]
      rw [if_neg (fun h => hn ((hF q).2 h.symm))]
end
end Go.Lir
namespace Go.Lir
theorem St.lent {c : Cx} {w : World} {L : List Res} {r : Res} (h : St c w (r :: L)) : ∃ c' F, c.Le c' ∧ St c' w L ∧ r.A c'.H0 F ∧ (∀ b, F b → c'.K b) ∧ ∀ {w' : World} {L' : List Res}, St c' w' L' → St c w' (r :: L') := by
  obtain ⟨ok, F, ⟨F1, F2, h1, h2, h3, h4⟩, hd⟩ := h
  have hle : c.Le ⟨c.base, fun b => c.K b ∨ F1 b, w.heap⟩ := ⟨rfl, fun b hb => ⟨.inl hb, ok.same b hb⟩, ok.size, ok.lt⟩
  refine ⟨⟨c.base, fun b => c.K b ∨ F1 b, w.heap⟩, F1, hle, ⟨⟨ok.os, ok.tape, ok.output, Nat.le_refl _, fun b hb => hb.elim (fun hb => Nat.lt_of_lt_of_le (ok.lt b hb) ok.size) (r.lt h1 b), fun b _ => rfl⟩, F2, h2, ?_⟩, h1, fun b hb => .inr hb, ?_⟩
  · rintro b hb (hk | hk)
    · exact hd b ((h4 b).2 (.inr hb)) hk
    · exact h3 b hk hb
  · intro w' L' hS
    have hw := hS.weak hle
    obtain ⟨ok', F', hF', hd'⟩ := hS
    refine ⟨hw.1, fun b => F1 b ∨ F' b, ⟨F1, F', r.loc h1 fun b hb _ => ok'.same b (.inr hb), hF', fun b hb hb' => hd' b hb' (.inr hb), fun b => Iff.rfl⟩, ?_⟩
    rintro b (hb | hb) hk
    · exact hd b ((h4 b).2 (.inl hb)) hk
    · exact hd' b hb (.inl hk)
theorem St.lend {α : Type} {r : Rep α} {c : Cx} {w : World} {L : List Res} {T : TypeId} {es : Nat} {v : Value} {css : List (List Value)} {l : List α} (h : St c w (sl T es v css :: L)) (hl : r.ls c css l) (hes : r.es = es) (hm : l.length ≤ 140737488355328) :
    ∃ c', c.Le c' ∧ St c' w L ∧ r.sl c' v l ∧ ∀ {w' : World} {L' : List Res}, St c' w' L' → St c w' (sl T es v css :: L') := by
  subst hes
  obtain ⟨c', F, h1, h2, h3, h4, h5⟩ := h.lent
  exact ⟨c', h1, h2, ⟨css, SlR.mono (Sl.toR h3) fun b _ hb => h4 b hb, hl.up h1, hm⟩, h5⟩
end Go.Lir
namespace Go.Proofs.Ytanlkfeogoganaa
open Go.Lir
set_option maxHeartbeats 1000000
attribute [local irreducible] LC.wp Q3 Qz QM retQ Q1x LO.wp Qf Calls
set_option linter.unusedSimpArgs false
set_option linter.unusedVariables false
attribute [local irreducible] bitI IntKind.wrap zig leb Qe QN Q7D tysB To.bts Ins.bts Tail.bts Module.fault Q2g
variable {cx : Cx} {w : World} {L : List Res}
theorem Qjj {m : Module} {cs : List Value} (hB : m.body.length ≤ 10000000000) (hsm : m.Short) (hx : modR.at cx cs m) (hS : St cx w L) : Rets Try.prog Q1u [.agg ⟨cs⟩] w fun u w' =>
    (m.fault.1 ≠ 0 ∧ u = .tuple #[.slice none 0 0, fltV m.fault] ∧ St cx w' L) ∨ (m.fault.1 = 0 ∧ 20000 < m.body.length + 4 ∧ u = .tuple #[.slice none 0 0, fltV (2, -1)] ∧ St cx w' L) ∨
    (m.fault.1 = 0 ∧ m.body.length + 4 ≤ 20000 ∧ ∃ v, u = .tuple #[v, fltV (0, 0)] ∧ oneC v = true ∧ St cx w' (sl 5 1 v (m.enc.map QF) :: L)) := by
  have hx' := hx
  obtain ⟨vf, rfl, hf⟩ := Q3o hx
  have hlf := hf.len
  have hn0 := QJ m.funcs.length
  all_goals refine Qdz ?_
  all_goals (unfold codec_Encode_lc; refine Q0 ?_; refine Q1 ?_; refine zb hS ?_; intro p1 w1 hS; refine zm ?_; refine Qb hS ?_; intro p3 w1 hS; refine zn ?_; refine Q0 ?_; refine Q0 ?_; refine Q1 ?_; refine zv hS ?_; refine zR1 (c := Qjc hsm hx' hS) (h := ?_); rintro v1 w1 ⟨rfl, hS⟩; unfold fltV; refine Qb hS ?_; intro p4 w1 hS; refine zsn hS ?_; intro w1 hS; have hS := hS.ns; refine zn ?_; refine Q0 ?_; refine Q1 ?_; refine Q2 rfl ?_; refine zl hS ?_)
  all_goals (first | (refine Q1F ?_) | (refine Q1G ?_) | (refine QC rfl rfl (fun hc => ?_) (fun hc => ?_)))
  all_goals (refine zn ?_)
  all_goals
    first
    | (refine Q5 rfl ?_ -- Q1u c0
       all_goals (refine Q0 ?_; refine zD [(0, none), (1, none), (2, some none)] ?_; have hS := hS.drew; refine zv hS ?_; refine zm ?_; refine zsn hS ?_; intro w1 hS; have hS := hS.ns; refine zn ?_; refine zr ?_; refine Qiv vw vw (Qn (n := 2) (by kernel_rfl) (by kernel_rfl) (hS.blkAt fd) (by rfl) (by rfl)) ?_)
       all_goals (exact ⟨_, rfl, .inl ⟨by assumption, rfl, hS.sp⟩⟩))
    | (refine Q6 rfl ?_ -- Q1u c0
       all_goals refine zsk ?_)
  all_goals (refine Q0 ?_; have hF : m.fault.1 = 0 := (by omega); refine Q1 ?_; refine zB3 hS [_, _, _] ?_; intro b1 w1 hS; refine Qfx (e := 5) (by kernel_rfl) (by kernel_rfl) hS vw ?_; intro w9 hS; refine zb1 [_] ?_; refine zb hS ?_; intro p22 w1 hS; refine zm ?_; refine zn ?_; have hS : St cx _ (blk b1 5 [.int .u8 67, .int .u8 72, .int .u8 1] :: blk p22 112 [.slice (some ⟨b1, 0, none⟩) 3 3] :: blk p3 47 [.int .i64 0, .int .i64 0] :: blk p1 24 [vf] :: L) := hS.sp; have hS := St.slOf (es := 1) (n := 3) (css := ([67, 72, 1] : List UInt8).map QF) hS rfl (by simp [QF]) rfl; refine Q0 ?_; refine Q1 ?_; refine zm ?_; refine Q2 rfl ?_; refine zl hS ?_; refine zL ?_; refine zB1 hS [_] ?_; intro b1 w1 hS; have hS : St cx _ (blk b1 3 [.int .i64 m.funcs.length] :: blk p22 112 [_] :: sl 5 1 _ (([67, 72, 1] : List UInt8).map QF) :: blk p3 47 [.int .i64 0, .int .i64 0] :: blk p1 24 [vf] :: L) := hS.sp; refine zR2 (c := Q3j (n := m.funcs.length) rfl (by simp; omega) hS) (h := ?_); rintro v1 w1 ⟨v3, rfl, hv3, hS⟩; refine zn ?_; refine Q0 ?_; refine Q0 ?_; refine Q1 ?_; refine Q2 rfl ?_; refine zl hS ?_)
  all_goals (refine zL ?_; refine zm ?_; refine zn ?_; refine Qa ?_)
  refine zo [3, 5, 30, 31] (fun A ρ' w' => ∃ (q : Nat) (vb : Value) (acc : List UInt8), Has ρ' A ∧ Has ρ' [(32, .int .i64 q)] ∧ (q ≤ m.funcs.length) ∧ (oneC vb = true) ∧ (acc ++ (m.funcs.drop q).flatMap Fun.bts = m.body) ∧ St cx w' (blk p22 112 [vb] :: sl 5 1 vb (acc.map QF) :: blk p3 47 [.int .i64 0, .int .i64 0] :: L)) (fun ρ' _ => (m.funcs.length - iv (ρ' 32)).toNat) ?_ ?_
  · exact ⟨0, v3, [67, 72, 1] ++ QN m.funcs.length, zh, zh, (by omega), hv3, by unfold Module.body; rw [List.drop_zero], hS.sp⟩
  rintro ρ w1 ⟨q, vb, acc, hA, hρ, hq, hvb, hd, hS⟩; obtain ⟨ρ, rfl⟩ := env2 hA hρ
  unfold Q6i
  all_goals (refine Q0 ?_; refine Q1 ?_; refine Qu rfl rfl ?_; refine zn ?_; refine Q0 ?_)
  refine Ql rfl (fun hc => ?_) (fun hc => ?_)
  · skip
    all_goals (refine zsk ?_; refine Q0 ?_; refine Qa ?_; refine Q0 ?_; refine Q1 ?_; refine zi ?_; intro b1 o1 cs1 x1 hat1 hx1 he1; obtain ⟨vp1, vr1, vb1, rfl, hp1, hr1, hb1⟩ := Q1H he1; (first | (refine zv hS ?_) | (refine zvk hS ?_)); refine Qb hS ?_; intro p7 w1 hS; refine zsn hS ?_; intro w1 hS; have hS := hS.ns; refine zn ?_; rw [Q7 hx1, List.flatMap_cons] at hd; obtain ⟨R1, hR1⟩ : ∃ R, (m.funcs.drop (q + 1)).flatMap Fun.bts = R := ⟨_, rfl⟩; rw [hR1] at hd; unfold Fun.bts at hd; have hal := congrArg List.length hd; simp only [List.length_append] at hal; refine Q0 ?_; refine Q1 ?_; refine zm ?_; refine Q2 rfl ?_; refine zl hS ?_; refine zB1 hS [_] ?_; intro b1 w1 hS; have hS : St cx _ (blk b1 3 [.int .i64 x1.regs] :: blk p22 112 [vb] :: sl 5 1 vb (acc.map QF) :: blk p7 31 [.int .i64 x1.regs, vp1, vr1, vb1] :: blk p3 47 [.int .i64 0, .int .i64 0] :: L) := hS.sp; refine zR2 (c := Q3j (n := x1.regs) hvb (by omega) hS) (h := ?_); rintro v1 w1 ⟨v4, rfl, hv4, hS⟩; refine zn ?_; refine Q0 ?_; refine Q1 ?_; refine zm ?_; refine Q2 rfl ?_; refine zl hS ?_)
    all_goals (refine zR2 (c := QfL hv4 hp1 (by simp only [List.length_append]; omega) hS) (h := ?_); rintro v1 w1 ⟨v5, rfl, hv5, hS⟩; refine zn ?_; refine Q0 ?_; refine Q1 ?_; refine zm ?_; refine Q2 rfl ?_; refine zl hS ?_; refine zR2 (c := QfL hv5 hr1 (by simp only [List.length_append]; omega) hS) (h := ?_); rintro v1 w1 ⟨v6, rfl, hv6, hS⟩; refine zn ?_; refine Q0 ?_; refine Q1 ?_; refine zm ?_; refine Q2 rfl ?_; refine zl hS ?_; refine zL ?_; refine zB1 hS [_] ?_; intro b1 w1 hS; have hS : St cx _ (blk b1 3 [.int .i64 x1.blocks.length] :: blk p22 112 [v6] :: sl 5 1 v6 ((acc ++ QN x1.regs ++ tysB x1.params ++ tysB x1.results).map QF) :: blk p7 31 [.int .i64 x1.regs, vp1, vr1, vb1] :: blk p3 47 [.int .i64 0, .int .i64 0] :: L) := hS.sp; refine zR2 (c := Q3j (n := x1.blocks.length) hv6 (by simp only [List.length_append]; omega) hS) (h := ?_); rintro v1 w1 ⟨v7, rfl, hv7, hS⟩; refine zn ?_; refine Q0 ?_; have hbl := hb1.len; refine Q1 ?_; refine Q2 rfl ?_; refine zl hS ?_; refine zL ?_)
    all_goals (refine zm ?_; refine zn ?_; refine Qa ?_)
    refine zo [3, 5, 30, 31, 32, 56, 57] (fun A ρ' w' => ∃ (b : Nat) (vc : Value) (acc1 : List UInt8), Has ρ' A ∧ Has ρ' [(58, .int .i64 b)] ∧ (b ≤ x1.blocks.length) ∧ (oneC vc = true) ∧ (acc1 ++ ((x1.blocks.drop b).flatMap Block.bts ++ R1) = m.body) ∧ St cx w' (blk p22 112 [vc] :: sl 5 1 vc (acc1.map QF) :: blk p3 47 [.int .i64 0, .int .i64 0] :: L)) (fun ρ' _ => (x1.blocks.length - iv (ρ' 58)).toNat) ?_ ?_
    · exact ⟨0, v7, acc ++ QN x1.regs ++ tysB x1.params ++ tysB x1.results ++ QN x1.blocks.length, zh, zh, (by omega), hv7, by rw [List.drop_zero, ← hd]; simp only [List.append_assoc], hS.sp⟩
    rintro ρ w1 ⟨b, vc, acc1, hA, hρ, hb, hvc, hd1, hS⟩; obtain ⟨ρ, rfl⟩ := env2 hA hρ
    unfold Q4H
    all_goals (refine Q0 ?_; refine Q1 ?_; refine Qu rfl rfl ?_; refine zn ?_; refine Q0 ?_)
    refine Ql rfl (fun hc => ?_) (fun hc => ?_)
    · skip
      all_goals (refine zsk ?_; refine Q0 ?_; refine Qa ?_; refine Q0 ?_; refine Q1 ?_; refine zi ?_; intro b2 o2 cs2 x2 hat2 hx2 he2; obtain ⟨vp2, vc2, ve21, ve22, ve23, ve24, ve25, rfl, hp2, hc2, he21, he22, he23, he24, he25⟩ := Q1y he2; (first | (refine zv hS ?_) | (refine zvk hS ?_)); refine Qb hS ?_; intro p9 w1 hS; refine zsn hS ?_; intro w1 hS; have hS := hS.ns; refine zn ?_; rw [Q7 hx2, List.flatMap_cons] at hd1; obtain ⟨R2, hR2⟩ : ∃ R, (x1.blocks.drop (b + 1)).flatMap Block.bts = R := ⟨_, rfl⟩; rw [hR2] at hd1; unfold Block.bts at hd1; have hal1 := congrArg List.length hd1; simp only [List.length_append] at hal1; refine Q0 ?_; refine Q1 ?_; refine zm ?_; refine Q2 rfl ?_; refine zl hS ?_; refine zB1 hS [_] ?_; intro b1 w1 hS; have hS : St cx _ (blk b1 3 [.int .i64 x2.regs] :: blk p22 112 [vc] :: sl 5 1 vc (acc1.map QF) :: blk p9 77 [.int .i64 x2.regs, vp2, vc2, .int .i64 x2.fin.op, .int .i64 x2.fin.a, .int .i64 x2.fin.yes.block, ve21, ve22, .int .i64 x2.fin.no.block, ve23, ve24, ve25] :: blk p3 47 [.int .i64 0, .int .i64 0] :: L) := hS.sp; refine zR2 (c := Q3j (n := x2.regs) hvc (by omega) hS) (h := ?_); rintro v1 w1 ⟨v8, rfl, hv8, hS⟩)
      all_goals (refine zn ?_; refine Q0 ?_; refine Q1 ?_; refine zm ?_; refine Q2 rfl ?_; refine zl hS ?_; refine zR2 (c := QfL hv8 hp2 (by simp only [List.length_append]; omega) hS) (h := ?_); rintro v1 w1 ⟨v9, rfl, hv9, hS⟩; refine zn ?_; refine Q0 ?_; refine Q1 ?_; refine zm ?_; refine Q2 rfl ?_; refine zl hS ?_; refine zL ?_; refine zB1 hS [_] ?_; intro b1 w1 hS; have hS : St cx _ (blk b1 3 [.int .i64 x2.code.length] :: blk p22 112 [v9] :: sl 5 1 v9 ((acc1 ++ QN x2.regs ++ tysB x2.params).map QF) :: blk p9 77 [.int .i64 x2.regs, vp2, vc2, .int .i64 x2.fin.op, .int .i64 x2.fin.a, .int .i64 x2.fin.yes.block, ve21, ve22, .int .i64 x2.fin.no.block, ve23, ve24, ve25] :: blk p3 47 [.int .i64 0, .int .i64 0] :: L) := hS.sp; refine zR2 (c := Q3j (n := x2.code.length) hv9 (by simp only [List.length_append]; omega) hS) (h := ?_); rintro v1 w1 ⟨v10, rfl, hv10, hS⟩; refine zn ?_; refine Q0 ?_; refine Q0 ?_; have hcl := hc2.len; refine Q1 ?_; refine Q2 rfl ?_; refine zl hS ?_; refine zL ?_)
      all_goals (refine zm ?_; refine zn ?_; refine Qa ?_)
      refine zo [3, 5, 9, 30, 31, 32, 56, 57, 58, 78, 79] (fun A ρ' w' => ∃ (i : Nat) (vd : Value) (acc2 : List UInt8), Has ρ' A ∧ Has ρ' [(80, .int .i64 i)] ∧ (i ≤ x2.code.length) ∧ (oneC vd = true) ∧ (acc2 ++ ((x2.code.drop i).flatMap Ins.bts ++ (x2.fin.bts ++ (R2 ++ R1))) = m.body) ∧ St cx w' (blk p22 112 [vd] :: sl 5 1 vd (acc2.map QF) :: blk p9 77 [.int .i64 x2.regs, vp2, vc2, .int .i64 x2.fin.op, .int .i64 x2.fin.a, .int .i64 x2.fin.yes.block, ve21, ve22, .int .i64 x2.fin.no.block, ve23, ve24, ve25] :: blk p3 47 [.int .i64 0, .int .i64 0] :: L)) (fun ρ' _ => (x2.code.length - iv (ρ' 80)).toNat) ?_ ?_
      · exact ⟨0, v10, acc1 ++ QN x2.regs ++ tysB x2.params ++ QN x2.code.length, zh, zh, (by omega), hv10, by rw [List.drop_zero, ← hd1]; simp only [List.append_assoc], hS.sp⟩
      rintro ρ w1 ⟨i, vd, acc2, hA, hρ, hi, hvd, hd2, hS⟩; obtain ⟨ρ, rfl⟩ := env2 hA hρ
      unfold Q4G
      all_goals (refine Q0 ?_; refine Q1 ?_; refine Qu rfl rfl ?_; refine zn ?_; refine Q0 ?_)
      refine Ql rfl (fun hc => ?_) (fun hc => ?_)
      · skip
        all_goals (refine zsk ?_; refine Q0 ?_; refine Qa ?_; refine Q0 ?_; refine Q1 ?_; refine zi ?_; intro b3 o3 cs3 x3 hat3 hx3 he3; obtain ⟨vr3, va3, rfl, hr3, ha3⟩ := Q2f he3; (first | (refine zv hS ?_) | (refine zvk hS ?_)); refine Qb hS ?_; intro p11 w1 hS; refine zsn hS ?_; intro w1 hS; have hS := hS.ns; refine zn ?_; rw [Q7 hx3, List.flatMap_cons] at hd2; have hal2 := congrArg List.length hd2; simp only [List.length_append] at hal2; refine Q1 ?_; refine zm ?_; refine zv hS ?_; have hS : St cx _ (blk p22 112 [vd] :: sl 5 1 vd (acc2.map QF) :: blk p9 77 [.int .i64 x2.regs, vp2, vc2, .int .i64 x2.fin.op, .int .i64 x2.fin.a, .int .i64 x2.fin.yes.block, ve21, ve22, .int .i64 x2.fin.no.block, ve23, ve24, ve25] :: blk p3 47 [.int .i64 0, .int .i64 0] :: L) := hS.sp; refine zR2 (c := wins_c hvd he3 (by omega) hS) (h := ?_); rintro v1 w1 ⟨v11, rfl, hv11, hS⟩; refine zn ?_; refine Q1 ?_; refine zad ?_; refine zm ?_; refine zn ?_; exact ⟨⟨i + 1, v11, acc2 ++ x3.bts, zh, zh, (by omega), hv11, by rw [← hd2]; simp only [List.append_assoc], hS.sp⟩, Qh (by omega)⟩)
      · skip
        all_goals (refine zex ?_; rw [List.drop_of_length_le (by omega), List.flatMap_nil, List.nil_append] at hd2; have hal2 := congrArg List.length hd2; simp only [List.length_append] at hal2; refine Q1 ?_; refine zm ?_; refine Q2 rfl ?_; refine zv hS ?_; refine zR2 (c := wend_c hvd ⟨_, _, _, _, _, rfl, he21, he22, he23, he24, he25⟩ (by omega) hS) (h := ?_); rintro v1 w1 ⟨v12, rfl, hv12, hS⟩; refine zn ?_; refine Q1 ?_; refine zad ?_; refine zm ?_; refine zn ?_; exact ⟨⟨b + 1, v12, acc2 ++ x2.fin.bts, zh, zh, (by omega), hv12, by rw [hR2, ← hd2]; simp only [List.append_assoc], hS.sp⟩, Qh (by omega)⟩)
    · skip
      all_goals (refine zex ?_; refine Q1 ?_; refine zad ?_; refine zm ?_; refine zn ?_; exact ⟨⟨q + 1, vc, acc1, zh, zh, (by omega), hvc, by rw [hR1, ← hd1, List.drop_of_length_le (by omega), List.flatMap_nil, List.nil_append], hS.sp⟩, Qh (by omega)⟩)
  · skip
    all_goals (refine zex ?_; rw [List.drop_of_length_le (by omega), List.flatMap_nil, List.append_nil] at hd; subst hd; refine Q0 ?_; refine Q0 ?_; refine Q1 ?_; refine zm ?_; refine Qq rfl ?_; refine Q2 rfl ?_; refine zl hS ?_; (first | (refine zL ?_) | (refine zLe hS ?_)); refine zad ?_)
    all_goals (first | (refine QZ ?_) | (refine Q1g ?_) | (refine Qg rfl rfl (fun hc => ?_) (fun hc => ?_)))
    all_goals (refine zn ?_)
    all_goals
      first
      | (refine Q5 rfl ?_ -- Q1u c4
         all_goals (refine Q0 ?_; refine Q1 ?_; refine zb2 [_, _] ?_; refine zm ?_; refine zsn hS ?_; intro w1 hS; have hS := hS.ns; refine zn ?_; refine zr ?_; refine Qiv vw vw (Qn (n := 2) (by kernel_rfl) (by kernel_rfl) (hS.blkAt fd) (by rfl) (by rfl)) ?_)
         all_goals (first | (exact ⟨_, rfl, .inl ⟨by assumption, rfl, hS.sp⟩⟩) | (exact ⟨_, rfl, .inr (.inl ⟨hF, by omega, rfl, hS.sp⟩)⟩)))
      | (refine Q6 rfl ?_ -- Q1u c4
         all_goals refine zsk ?_)
    all_goals (refine Q0 ?_; refine Q1 ?_; refine zm ?_; refine Qq rfl ?_; refine Q2 rfl ?_; refine zl hS ?_; obtain ⟨c7, hle7, hS, hk7, hback⟩ := St.lend (r := u8R) (hS.out (r := sl 5 1 vb (m.body.map QF)) fd) (Q8N m.body) rfl (by omega); simp only [List.eraseIdx_cons_zero, List.eraseIdx_cons_succ] at hS; refine zR1 (c := sum_c hk7 hS) (h := ?_); rintro v9 w9 ⟨rfl, hS⟩; have hS := hback hS; obtain ⟨cr, hcr⟩ : ∃ c, Q2g m.body = c := ⟨_, rfl⟩; rw [hcr]; refine zm ?_; refine zn ?_; refine Q0 ?_; refine Q1 ?_; refine zm ?_; refine Qq rfl ?_; refine Q2 rfl ?_; refine zl hS ?_; refine zm ?_; refine Q3l rfl ?_; rw [Qcw]; refine zm ?_; refine QeI rfl rfl (by decide) ?_; rw [show (8 : Int) = ((8 : Nat) : Int) from rfl, QiT _ _ (by decide)]; refine Q3l rfl ?_; rw [Qcw]; refine zm ?_; refine QeI rfl rfl (by decide) ?_; rw [show (16 : Int) = ((16 : Nat) : Int) from rfl, QiT _ _ (by decide)]; refine Q3l rfl ?_; rw [Qcw]; refine zm ?_; refine QeI rfl rfl (by decide) ?_; rw [show (24 : Int) = ((24 : Nat) : Int) from rfl, QiT _ _ (by decide)]; refine Q3l rfl ?_; rw [Qcw]; refine zB4 hS [_, _, _, _] ?_; intro b1 w1 hS; have hS := St.slOf (es := 1) (n := 4) (css := (crc4 cr).map QF) hS rfl (by simp [crc4, QF]) rfl; refine s_appRS QkZ u_T50 hS vw vw fd fd (Q8N m.body) (Q8N (crc4 cr)) (by rw [show (crc4 cr).length = 4 from rfl]; omega) ?_; intro vp w3 cssp hlsp hvp hS; have hS := hS.ns; rw [Rep.LR.u8 rfl hlsp] at hS; subst hcr)
    all_goals (refine zb0 [_, _] ?_; refine zm ?_; refine zsn hS ?_; intro w1 hS; have hS := hS.ns; refine zn ?_; refine zr ?_; refine Qiv vw vw (Qn (n := 2) (by kernel_rfl) (by kernel_rfl) (hS.blkAt fd) (by rfl) (by rfl)) ?_; (first | (exact ⟨_, rfl, .inl ⟨by assumption, rfl, hS.sp⟩⟩) | (exact ⟨_, rfl, .inr (.inl ⟨hF, by omega, rfl, hS.sp⟩)⟩) | (exact ⟨_, rfl, .inr (.inr ⟨hF, by omega, _, rfl, by assumption, hS.sp⟩)⟩)))
theorem Qji {m : Module} {cs : List Value} (hm : m.Few) (hsm : m.Short) (hx : modR.at cx cs m) (hS : St cx w L) : Rets Try.prog Q1u [.agg ⟨cs⟩] w fun u w' =>
    (m.fault.1 ≠ 0 ∧ u = .tuple #[.slice none 0 0, fltV m.fault] ∧ St cx w' L) ∨ (m.fault.1 = 0 ∧ 20000 < m.body.length + 4 ∧ u = .tuple #[.slice none 0 0, fltV (2, -1)] ∧ St cx w' L) ∨
    (m.fault.1 = 0 ∧ m.body.length + 4 ≤ 20000 ∧ ∃ v, u = .tuple #[v, fltV (0, 0)] ∧ oneC v = true ∧ St cx w' (sl 5 1 v (m.enc.map QF) :: L)) := Qjj (Module.body_few hm) hsm hx hS
end Go.Proofs.Ytanlkfeogoganaa
namespace Go.Proofs.Ytanlkfeogoganaa
open Go.Lir
set_option maxHeartbeats 1000000
attribute [local irreducible] LC.wp Q3 Qz QM retQ Q1x LO.wp Qf Calls
set_option linter.unusedSimpArgs false
set_option linter.unusedVariables false
end Go.Proofs.Ytanlkfeogoganaa
namespace Go.Proofs.Ytanlkfeogoganaa
open Go.Lir
set_option maxHeartbeats 1000000
attribute [local irreducible] LC.wp Q3 Qz QM retQ Q1x LO.wp Qf Calls
set_option linter.unusedSimpArgs false
set_option linter.unusedVariables false
theorem Qfy {x y : Block} {cx : Cx} {w : World} {L : List Res} {cs ds : List Value} (hx : blockR.at cx cs x) (hy : blockR.at cx ds y) (hS : St cx w L) : Rets Try.prog Q2t [.agg ⟨cs⟩, .agg ⟨ds⟩] w fun u w' => u = .bool (decide (x = y)) ∧ St cx w' L := by
  obtain ⟨vp, vc, v1, v2, v3, v4, v5, rfl, hp, hc0, h1, h2, h3, h4, h5⟩ := Q1y hx
  obtain ⟨up, uc, u1, u2, u3, u4, u5, rfl, gp, gc, g1, g2, g3, g4, g5⟩ := Q1y hy
  have hlen := hc0.len
  obtain ⟨xr, xp, xc, ⟨xo, xa, xy, xn, xg⟩⟩ := x
  obtain ⟨yr, yp, yc, ⟨yo, ya, yy, yn, yg⟩⟩ := y
  simp only [Block.mk.injEq, Tail.mk.injEq] at *
  all_goals refine Qf9 ?_
  all_goals (unfold R_sameBlock_lc; refine Q0 ?_; refine Q1 ?_; refine zb hS ?_; intro p2 w1 hS; refine zb hS ?_; intro p3 w1 hS; refine zm ?_; refine zn ?_)
  refine zML hS [2, 3] (fun A LL ρ' w' => Has ρ' A ∧ Has ρ' [] ∧ (xr = yr) ∧ (xp = yp) ∧ (xc.length = yc.length) ∧ St cx w' (LL)) ?_ ?_
  · skip
    all_goals (refine Q0 ?_; refine Q1 ?_; refine Q2 rfl ?_; refine zl hS ?_; refine Q2 rfl ?_; refine zl hS ?_)
    all_goals (first | (refine Q1F ?_) | (refine Q1G ?_) | (refine QC rfl rfl (fun hc => ?_) (fun hc => ?_)))
    all_goals (refine zm ?_; (first | refine s_gn rfl rfl ?_ | (refine s_gy rfl ?_; refine Q2 rfl ?_)); (first | refine s_gn rfl rfl ?_ | (refine s_gy rfl ?_; refine zl hS ?_)); (first | refine s_gn rfl rfl ?_ | (refine s_gy rfl ?_; refine Q2 rfl ?_)); (first | refine s_gn rfl rfl ?_ | (refine s_gy rfl ?_; refine zl hS ?_)))
    all_goals ((first | (refine s_gn rfl rfl ?_) | (refine s_gy rfl ?_; refine zR2 (c := Q8Q hp gp hS) (h := ?_); rintro v1 w1 ⟨rfl, hS⟩; (cases hdec : decide (xp = yp)); have hg := of_decide_eq_false hdec; rotate_left; have hg := of_decide_eq_true hdec; all_goals skip)))
    all_goals ((first | refine s_gn rfl rfl ?_ | (refine s_gy rfl ?_; refine Q2J rfl ?_)); (first | (refine zpt ?_) | (refine zpf ?_)); refine zm ?_; (first | refine s_gn rfl rfl ?_ | (refine s_gy rfl ?_; refine Q2 rfl ?_)); (first | refine s_gn rfl rfl ?_ | (refine s_gy rfl ?_; refine zl hS ?_)); (first | refine s_gn rfl rfl ?_ | (refine s_gy rfl ?_; refine zL ?_)); (first | refine s_gn rfl rfl ?_ | (refine s_gy rfl ?_; refine Q2 rfl ?_)); (first | refine s_gn rfl rfl ?_ | (refine s_gy rfl ?_; refine zl hS ?_)); (first | refine s_gn rfl rfl ?_ | (refine s_gy rfl ?_; refine zL ?_)))
    all_goals (first | refine s_gn rfl rfl ?_ | (refine s_gy rfl ?_; (first | (refine Q1F ?_) | (refine Q1G ?_) | (refine QC rfl rfl (fun hc => ?_) (fun hc => ?_)))))
    all_goals ((first | (refine zpt ?_) | (refine zpf ?_)); refine zn ?_)
    all_goals
      first
      | (refine Q5 rfl ?_ -- Q2t c0
         all_goals (refine Q0 ?_; refine Q1 ?_; refine zm ?_; refine zn ?_; refine zr ?_; refine zf ?_)
         all_goals (refine ⟨_, rfl, ?_, hS.sp⟩; (rw [decide_eq_false]; rintro ⟨e1, e2, e3, _⟩; have := congrArg List.length e3; first | omega | (simp_all; done)); done))
      | (refine Q6 rfl ?_ -- Q2t c0
         all_goals refine zsk ?_)
    all_goals (exact ⟨zh, zh, by omega, by assumption, by omega, hS.sp⟩)
  rintro ρ w1 ⟨hA, hρ, hr, hpp, hll, hS⟩; obtain ⟨ρ, rfl⟩ := env2 hA hρ
  all_goals (refine Q0 ?_; refine Q0 ?_; refine Q1 ?_; refine zm ?_; refine zn ?_; refine Qa ?_)
  refine zoL hS [2, 3] (fun A LL ρ' w' => ∃ (j : Nat), Has ρ' A ∧ Has ρ' [(5, .int .i64 j)] ∧ (j ≤ xc.length) ∧ (xc = yc ↔ xc.drop j = yc.drop j) ∧ St cx w' (LL)) (fun ρ' _ => (xc.length - iv (ρ' 5)).toNat) ?_ ?_
  · exact ⟨0, zh, zh, (by omega), by simp, hS.sp⟩
  rintro ρ w1 ⟨j, hA, hρ, hj, hd, hS⟩; obtain ⟨ρ, rfl⟩ := env2 hA hρ
  unfold Q7v
  all_goals (refine Q0 ?_; refine Q0 ?_; refine Q1 ?_; refine zm ?_; refine Q2 rfl ?_; refine zl hS ?_; refine zL ?_; refine Qu rfl rfl ?_; refine zn ?_)
  refine Ql rfl (fun hc => ?_) (fun hc => ?_)
  · skip
    all_goals (refine zsk ?_; refine Q0 ?_; refine Qa ?_; refine Q0 ?_; refine zD [(0, none), (1, none), (2, none), (3, none), (4, none), (5, none), (6, none), (7, none), (8, none), (9, none), (10, some none), (11, some none)] ?_; have hS := hS.drew; refine Q2 rfl ?_; refine zl hS ?_; refine zm ?_; refine zi ?_; intro b1 o1 cs1 x1 hat1 hx1 he1; obtain ⟨vr1, va1, rfl, hr1, ha1⟩ := Q2f he1; (first | (refine zv hS ?_) | (refine zvk hS ?_)); refine Q2 rfl ?_; refine zl hS ?_; refine zm ?_; refine zi ?_; intro b2 o2 cs2 x2 hat2 hx2 he2; obtain ⟨vr2, va2, rfl, hr2, ha2⟩ := Q2f he2; (first | (refine zv hS ?_) | (refine zvk hS ?_)))
    all_goals (refine zR2 (c := Qjw he1 he2 hS) (h := ?_); rintro v1 w1 ⟨rfl, hS⟩; (cases hdec : decide (x1 = x2)); have hg := of_decide_eq_false hdec; rotate_left; have hg := of_decide_eq_true hdec; all_goals skip)
    all_goals (refine Q2J rfl ?_; refine zn ?_)
    all_goals
      first
      | (refine Q5 rfl ?_ -- Q2t c2
         all_goals (refine Q0 ?_; refine Q1 ?_; refine zm ?_; refine zn ?_; refine zr ?_; refine zf ?_)
         all_goals (refine ⟨_, rfl, ?_, hS.sp⟩; (rw [decide_eq_false]; rintro ⟨e1, e2, e3, _⟩; have := congrArg List.length e3; first | omega | (simp_all; done)); done))
      | (refine Q6 rfl ?_ -- Q2t c2
         all_goals refine zsk ?_)
    all_goals (refine Q1 ?_; refine zm ?_; refine zad ?_; refine zm ?_; refine zn ?_; exact ⟨⟨j + 1, zh, zh, (by omega), by rw [hd, Q7 hx1, Q7 hx2, hg]; simp, hS.sp⟩, Qh (by omega)⟩)
  · skip
    all_goals (refine zex ?_; refine Q0 ?_; refine Q1 ?_; refine Q2 rfl ?_; (first | refine Q2 rfl ?_ | refine Q2o rfl ?_); refine zl hS ?_; refine Q2 rfl ?_; (first | refine Q2 rfl ?_ | refine Q2o rfl ?_); refine zl hS ?_)
    all_goals (first | (refine Q10 ?_) | (refine Q1p ?_) | (refine Qk rfl rfl (fun hc => ?_) (fun hc => ?_)))
    all_goals (refine zm ?_; (first | refine s_gn rfl rfl ?_ | (refine s_gy rfl ?_; refine Q2 rfl ?_)); (first | refine s_gn rfl rfl ?_ | (refine s_gy rfl ?_; (first | refine Q2 rfl ?_ | refine Q2o rfl ?_))); (first | refine s_gn rfl rfl ?_ | (refine s_gy rfl ?_; refine zl hS ?_)); (first | refine s_gn rfl rfl ?_ | (refine s_gy rfl ?_; refine Q2 rfl ?_)); (first | refine s_gn rfl rfl ?_ | (refine s_gy rfl ?_; (first | refine Q2 rfl ?_ | refine Q2o rfl ?_))); (first | refine s_gn rfl rfl ?_ | (refine s_gy rfl ?_; refine zl hS ?_)))
    all_goals (first | refine s_gn rfl rfl ?_ | (refine s_gy rfl ?_; (first | (refine Q10 ?_) | (refine Q1p ?_) | (refine Qk rfl rfl (fun hc => ?_) (fun hc => ?_)))))
    all_goals ((first | (refine zpt ?_) | (refine zpf ?_)); refine zm ?_; (first | refine s_gn rfl rfl ?_ | (refine s_gy rfl ?_; refine Q2 rfl ?_)); (first | refine s_gn rfl rfl ?_ | (refine s_gy rfl ?_; (first | refine Q2 rfl ?_ | refine Q2o rfl ?_))); (first | refine s_gn rfl rfl ?_ | (refine s_gy rfl ?_; refine zv hS ?_)); (first | refine s_gn rfl rfl ?_ | (refine s_gy rfl ?_; refine Q2 rfl ?_)); (first | refine s_gn rfl rfl ?_ | (refine s_gy rfl ?_; (first | refine Q2 rfl ?_ | refine Q2o rfl ?_))); (first | refine s_gn rfl rfl ?_ | (refine s_gy rfl ?_; refine zv hS ?_)))
    all_goals ((first | (refine s_gn rfl rfl ?_) | (refine s_gy rfl ?_; refine zR2 (c := Qhq (x := xy) (y := yy) ⟨_, _, rfl, h1, h2⟩ ⟨_, _, rfl, g1, g2⟩ hS) (h := ?_); rintro v1 w1 ⟨rfl, hS⟩; (cases hdec : decide (xy = yy)); have hg := of_decide_eq_false hdec; rotate_left; have hg := of_decide_eq_true hdec; all_goals skip)))
    all_goals ((first | (refine zpt ?_) | (refine zpf ?_)); refine zm ?_; (first | refine s_gn rfl rfl ?_ | (refine s_gy rfl ?_; refine Q2 rfl ?_)); (first | refine s_gn rfl rfl ?_ | (refine s_gy rfl ?_; (first | refine Q2 rfl ?_ | refine Q2o rfl ?_))); (first | refine s_gn rfl rfl ?_ | (refine s_gy rfl ?_; refine zv hS ?_)); (first | refine s_gn rfl rfl ?_ | (refine s_gy rfl ?_; refine Q2 rfl ?_)); (first | refine s_gn rfl rfl ?_ | (refine s_gy rfl ?_; (first | refine Q2 rfl ?_ | refine Q2o rfl ?_))); (first | refine s_gn rfl rfl ?_ | (refine s_gy rfl ?_; refine zv hS ?_)))
    all_goals ((first | (refine s_gn rfl rfl ?_) | (refine s_gy rfl ?_; refine zR2 (c := Qhq (x := xn) (y := yn) ⟨_, _, rfl, h3, h4⟩ ⟨_, _, rfl, g3, g4⟩ hS) (h := ?_); rintro v1 w1 ⟨rfl, hS⟩; (cases hdec : decide (xn = yn)); have hg := of_decide_eq_false hdec; rotate_left; have hg := of_decide_eq_true hdec; all_goals skip)))
    all_goals ((first | (refine zpt ?_) | (refine zpf ?_)); refine zm ?_; (first | refine s_gn rfl rfl ?_ | (refine s_gy rfl ?_; refine Q2 rfl ?_)); (first | refine s_gn rfl rfl ?_ | (refine s_gy rfl ?_; (first | refine Q2 rfl ?_ | refine Q2o rfl ?_))); (first | refine s_gn rfl rfl ?_ | (refine s_gy rfl ?_; refine zl hS ?_)); (first | refine s_gn rfl rfl ?_ | (refine s_gy rfl ?_; refine Q2 rfl ?_)); (first | refine s_gn rfl rfl ?_ | (refine s_gy rfl ?_; (first | refine Q2 rfl ?_ | refine Q2o rfl ?_))); (first | refine s_gn rfl rfl ?_ | (refine s_gy rfl ?_; refine zl hS ?_)); (first | (refine s_gn rfl rfl ?_) | (refine s_gy rfl ?_; refine zR2 (c := Qd1 h5 g5 hS) (h := ?_); rintro v1 w1 ⟨rfl, hS⟩)); (first | (refine zpt ?_) | (refine zpf ?_)); refine zm ?_; refine zn ?_; refine zr ?_; refine zf ?_; (first | (refine ⟨_, rfl, ?_, hS.sp⟩; (rw [decide_eq_false]; rintro ⟨e1, e2, e3, _⟩; have := congrArg List.length e3; first | omega | (simp_all; done)); done) | (refine ⟨_, rfl, ?_, hS.sp⟩; rw [decide_eq_false]; rintro ⟨e1, e2, e3, _⟩; rw [hd, Q7 hx1, Q7 hx2, List.cons.injEq] at e3; exact hg e3.1; done) | (refine ⟨_, rfl, ?_, hS.sp⟩; have hcc : xc = yc := (by rw [hd, List.drop_of_length_le (by omega), List.drop_of_length_le (by omega)]); simp [*]; done)))
theorem Qjv {x y : Module} {cx : Cx} {w : World} {L : List Res} {cs ds : List Value} (hx : modR.at cx cs x) (hy : modR.at cx ds y) (hS : St cx w L) : Rets Try.prog QR [.agg ⟨cs⟩, .agg ⟨ds⟩] w fun u w' => u = .bool (decide (x = y)) ∧ St cx w' L := by
  obtain ⟨vf, rfl, hl⟩ := Q3o hx
  obtain ⟨uf, rfl, hm⟩ := Q3o hy
  obtain ⟨l⟩ := x
  obtain ⟨m⟩ := y
  have hlen := hl.len
  simp only [Module.mk.injEq] at *
  all_goals refine Qei ?_
  all_goals (unfold R_SameModule_lc; refine Q0 ?_; refine Q1 ?_; refine zb hS ?_; intro p2 w1 hS; refine zb hS ?_; intro p3 w1 hS; refine zm ?_; refine zn ?_; refine Q0 ?_; refine Q0 ?_; refine Q1 ?_; refine Q2 rfl ?_; refine zl hS ?_; refine zL ?_; refine Q2 rfl ?_; refine zl hS ?_; refine zL ?_)
  all_goals (first | (refine Q1F ?_) | (refine Q1G ?_) | (refine QC rfl rfl (fun hc => ?_) (fun hc => ?_)))
  all_goals (refine zn ?_)
  all_goals
    first
    | (refine Q5 rfl ?_ -- QR c0
       all_goals (refine Q0 ?_; refine Q1 ?_; refine zm ?_; refine zn ?_; refine zr ?_; refine zf ?_)
       all_goals (refine ⟨_, rfl, ?_, hS.sp⟩; rw [decide_eq_false]; exact fun e => absurd (congrArg List.length e) (by omega); done))
    | (refine Q6 rfl ?_ -- QR c0
       all_goals refine zsk ?_)
  all_goals (refine Q0 ?_; refine Q0 ?_; refine Q1 ?_; refine zm ?_; refine zn ?_; refine Qa ?_)
  refine zoL hS [2, 3] (fun A LL ρ' w' => ∃ (j : Nat), Has ρ' A ∧ Has ρ' [(5, .int .i64 j)] ∧ (j ≤ l.length) ∧ (l.length = m.length) ∧ (l = m ↔ l.drop j = m.drop j) ∧ St cx w' (LL)) (fun ρ' _ => (l.length - iv (ρ' 5)).toNat) ?_ ?_
  · exact ⟨0, zh, zh, (by omega), (by omega), by simp, hS.sp⟩
  rintro ρ w1 ⟨j, hA, hρ, hj, hlm, hd, hS⟩; obtain ⟨ρ, rfl⟩ := env2 hA hρ
  unfold Q6o
  all_goals (refine Q0 ?_; refine Q0 ?_; refine Q1 ?_; refine zm ?_; refine Q2 rfl ?_; refine zl hS ?_; refine zL ?_; refine Qu rfl rfl ?_; refine zn ?_)
  refine Ql rfl (fun hc => ?_) (fun hc => ?_)
  · skip
    all_goals (refine zsk ?_; refine Q0 ?_; refine Qa ?_; refine Q0 ?_)
    refine s_split 10 11 (by kernel_rfl) ?_ ?_
    · skip
      all_goals (refine zC [(0, none), (1, none), (2, none), (3, none), (4, none), (5, none), (6, none), (7, none), (8, none), (9, none), (10, some (some [1, 4, 6, 9])), (11, some (some [1, 4, 6, 9])), (12, some (some [6, 9])), (13, some none)] ?_; have hS := hS.drew; refine s_cq ?_; refine Q2 rfl ?_; refine zt ?_; refine s_cq ?_; refine zl hS ?_; refine zt ?_; refine s_cq ?_; refine zm ?_; refine zt ?_; refine s_cq ?_; refine zi ?_; intro b1 o1 cs1 x1 hat1 hx1 he1; obtain ⟨vp1, vr1, vb1, rfl, hp1, hr1, hb1⟩ := Q1H he1; refine zt ?_; refine s_cq ?_; (first | (refine zv hS ?_) | (refine zvk hS ?_)); refine zt ?_; refine s_cq ?_; refine Q2 rfl ?_; refine zt ?_; refine s_cq ?_; refine zl hS ?_; refine zt ?_; refine s_cq ?_; refine zm ?_; refine zt ?_; refine s_cq ?_; refine zi ?_; intro b2 o2 cs2 x2 hat2 hx2 he2; obtain ⟨vp2, vr2, vb2, rfl, hp2, hr2, hb2⟩ := Q1H he2; refine zt ?_; refine s_cq ?_; (first | (refine zv hS ?_) | (refine zvk hS ?_)); refine zt ?_; refine Qho ?_; refine Qb hS ?_; intro p6 w1 hS; refine zt ?_; refine zy ?_; refine Qho ?_; refine Qb hS ?_; intro p7 w1 hS; refine zt ?_; refine zy ?_; refine Qho ?_; refine zsn hS ?_; intro w1 hS; have hS := hS.ns)
      all_goals (refine zt ?_; refine zy ?_; refine s_cf ?_; refine zsn hS ?_; intro w1 hS; have hS := hS.ns; refine zt ?_; refine zcn ?_; refine Q0 ?_; refine Q0 ?_; refine Q1 ?_; refine Q2 rfl ?_; refine zl hS ?_; refine Q2 rfl ?_; refine zl hS ?_)
      all_goals (first | (refine Q1F ?_) | (refine Q1G ?_) | (refine QC rfl rfl (fun hc => ?_) (fun hc => ?_)))
      all_goals (refine zm ?_; (first | refine s_gn rfl rfl ?_ | (refine s_gy rfl ?_; refine Q2 rfl ?_)); (first | refine s_gn rfl rfl ?_ | (refine s_gy rfl ?_; refine zl hS ?_)); (first | refine s_gn rfl rfl ?_ | (refine s_gy rfl ?_; refine Q2 rfl ?_)); (first | refine s_gn rfl rfl ?_ | (refine s_gy rfl ?_; refine zl hS ?_)))
      all_goals ((first | (refine s_gn rfl rfl ?_) | (refine s_gy rfl ?_; refine zR2 (c := Q8Q (l := x1.params) (m := x2.params) hp1 hp2 hS) (h := ?_); rintro v1 w1 ⟨rfl, hS⟩; (cases hdec : decide (x1.params = x2.params)); have hg := of_decide_eq_false hdec; rotate_left; have hg := of_decide_eq_true hdec; all_goals skip)))
      all_goals ((first | refine s_gn rfl rfl ?_ | (refine s_gy rfl ?_; refine Q2J rfl ?_)); (first | (refine zpt ?_) | (refine zpf ?_)); refine zm ?_; (first | refine s_gn rfl rfl ?_ | (refine s_gy rfl ?_; refine Q2 rfl ?_)); (first | refine s_gn rfl rfl ?_ | (refine s_gy rfl ?_; refine zl hS ?_)); (first | refine s_gn rfl rfl ?_ | (refine s_gy rfl ?_; refine Q2 rfl ?_)); (first | refine s_gn rfl rfl ?_ | (refine s_gy rfl ?_; refine zl hS ?_)))
      all_goals ((first | (refine s_gn rfl rfl ?_) | (refine s_gy rfl ?_; refine zR2 (c := Q8Q (l := x1.results) (m := x2.results) hr1 hr2 hS) (h := ?_); rintro v1 w1 ⟨rfl, hS⟩; (cases hdec : decide (x1.results = x2.results)); have hg := of_decide_eq_false hdec; rotate_left; have hg := of_decide_eq_true hdec; all_goals skip)))
      all_goals ((first | refine s_gn rfl rfl ?_ | (refine s_gy rfl ?_; refine Q2J rfl ?_)); (first | (refine zpt ?_) | (refine zpf ?_)); refine zm ?_; (first | refine s_gn rfl rfl ?_ | (refine s_gy rfl ?_; refine Q2 rfl ?_)); (first | refine s_gn rfl rfl ?_ | (refine s_gy rfl ?_; refine zl hS ?_)); (first | refine s_gn rfl rfl ?_ | (refine s_gy rfl ?_; refine zL ?_)); (first | refine s_gn rfl rfl ?_ | (refine s_gy rfl ?_; refine Q2 rfl ?_)); (first | refine s_gn rfl rfl ?_ | (refine s_gy rfl ?_; refine zl hS ?_)); (first | refine s_gn rfl rfl ?_ | (refine s_gy rfl ?_; refine zL ?_)))
      all_goals (first | refine s_gn rfl rfl ?_ | (refine s_gy rfl ?_; (first | (refine Q1F ?_) | (refine Q1G ?_) | (refine QC rfl rfl (fun hc => ?_) (fun hc => ?_)))))
      all_goals ((first | (refine zpt ?_) | (refine zpf ?_)); refine zn ?_)
      all_goals
        first
        | (refine Q5 rfl ?_ -- QR c2
           all_goals (refine Q0 ?_; refine Q1 ?_; refine zm ?_; refine zn ?_; refine zr ?_; refine zf ?_)
           all_goals (first | (refine ⟨_, rfl, ?_, hS.sp⟩; rw [decide_eq_false]; exact fun e => absurd (congrArg List.length e) (by omega); done) | (refine ⟨_, rfl, ?_, hS.sp⟩; (rw [decide_eq_false]; rw [hd, Q7 hx1, Q7 hx2, List.cons.injEq]; rintro ⟨rfl, _⟩; first | (simp_all; done) | (simp at *; omega)); done)))
        | (refine Q6 rfl ?_ -- QR c2
           all_goals refine zsk ?_)
      all_goals (refine Q0 ?_; have hlb := hb1.len; refine Q1 ?_; refine zm ?_; refine zn ?_; refine Qa ?_)
      refine zoL hS [2, 3, 5, 6, 7] (fun A LL ρ' w' => ∃ (i : Nat), Has ρ' A ∧ Has ρ' [(8, .int .i64 i)] ∧ (i ≤ x1.blocks.length) ∧ (x1.blocks.length = x2.blocks.length) ∧ (x1.regs = x2.regs) ∧ (x1.params = x2.params) ∧ (x1.results = x2.results) ∧ (x1.blocks = x2.blocks ↔ x1.blocks.drop i = x2.blocks.drop i) ∧ St cx w' (LL)) (fun ρ' _ => (x1.blocks.length - iv (ρ' 8)).toNat) ?_ ?_
      · exact ⟨0, zh, zh, (by omega), (by omega), (by omega), by assumption, by assumption, by simp, hS.sp⟩
      rintro ρ w1 ⟨i, hA, hρ, hi, hlb2, hre, hpe, hrr, hd2, hS⟩; obtain ⟨ρ, rfl⟩ := env2 hA hρ
      unfold Q3f
      all_goals (refine Q0 ?_; refine Q0 ?_; refine Q1 ?_; refine zm ?_; refine Q2 rfl ?_; refine zl hS ?_; refine zL ?_; refine Qu rfl rfl ?_; refine zn ?_)
      refine Ql rfl (fun hc => ?_) (fun hc => ?_)
      · skip
        all_goals (refine zsk ?_; refine Q0 ?_; refine Qa ?_; refine Q0 ?_; refine zD [(0, none), (1, none), (2, none), (3, none), (4, none), (5, none), (6, none), (7, none), (8, none), (9, none), (10, some none), (11, some none)] ?_; have hS := hS.drew; refine Q2 rfl ?_; refine zl hS ?_; refine zm ?_; refine zi ?_; intro b3 o3 cs3 x3 hat3 hx3 he3; obtain ⟨vp3, vc3, ve31, ve32, ve33, ve34, ve35, rfl, hp3, hc3, he31, he32, he33, he34, he35⟩ := Q1y he3; (first | (refine zv hS ?_) | (refine zvk hS ?_)); refine Q2 rfl ?_; refine zl hS ?_; refine zm ?_; refine zi ?_; intro b4 o4 cs4 x4 hat4 hx4 he4; obtain ⟨vp4, vc4, ve41, ve42, ve43, ve44, ve45, rfl, hp4, hc4, he41, he42, he43, he44, he45⟩ := Q1y he4; (first | (refine zv hS ?_) | (refine zvk hS ?_)))
        all_goals (refine zR2 (c := Qfy he3 he4 hS) (h := ?_); rintro v1 w1 ⟨rfl, hS⟩; (cases hdec : decide (x3 = x4)); have hg := of_decide_eq_false hdec; rotate_left; have hg := of_decide_eq_true hdec; all_goals skip)
        all_goals (refine Q2J rfl ?_; refine zn ?_)
        all_goals
          first
          | (refine Q5 rfl ?_ -- QR c4
             all_goals (refine Q0 ?_; refine Q1 ?_; refine zm ?_; refine zn ?_; refine zr ?_; refine zf ?_)
             all_goals (first | (refine ⟨_, rfl, ?_, hS.sp⟩; rw [decide_eq_false]; exact fun e => absurd (congrArg List.length e) (by omega); done) | (refine ⟨_, rfl, ?_, hS.sp⟩; (rw [decide_eq_false]; rw [hd, Q7 hx1, Q7 hx2, List.cons.injEq]; rintro ⟨rfl, _⟩; first | (simp_all; done) | (simp at *; omega)); done)))
          | (refine Q6 rfl ?_ -- QR c4
             all_goals refine zsk ?_)
        all_goals (refine Q1 ?_; refine zm ?_; refine zad ?_; refine zm ?_; refine zn ?_; exact ⟨⟨i + 1, zh, zh, (by omega), (by omega), (by omega), by assumption, by assumption, by rw [hd2, Q7 hx3, Q7 hx4, hg]; simp, hS.sp⟩, Qh (by omega)⟩)
      · skip
        all_goals (refine zex ?_; refine Q1 ?_; refine zm ?_; refine zad ?_; refine zm ?_; refine zn ?_; exact ⟨⟨j + 1, zh, zh, (by omega), (by omega), by rw [hd, Q7 hx1, Q7 hx2, Fun.eq_of hre hpe hrr (by rw [hd2, List.drop_of_length_le (by omega), List.drop_of_length_le (by omega)])]; simp, hS.sp⟩, Qh (by omega)⟩)
    · skip
      all_goals (refine zC [(0, none), (1, none), (2, none), (3, none), (4, none), (5, none), (6, none), (7, none), (8, none), (9, none), (11, some (some [1, 4, 6, 9])), (10, some (some [1, 4, 6, 9])), (12, some (some [6, 9])), (13, some none)] ?_; have hS := hS.drew; refine s_cq ?_; refine Q2 rfl ?_; refine zt ?_; refine s_cq ?_; refine zl hS ?_; refine zt ?_; refine s_cq ?_; refine zm ?_; refine zt ?_; refine s_cq ?_; refine zi ?_; intro b1 o1 cs1 x1 hat1 hx1 he1; obtain ⟨vp1, vr1, vb1, rfl, hp1, hr1, hb1⟩ := Q1H he1; refine zt ?_; refine s_cq ?_; (first | (refine zv hS ?_) | (refine zvk hS ?_)); refine zt ?_; refine s_cq ?_; refine Q2 rfl ?_; refine zt ?_; refine s_cq ?_; refine zl hS ?_; refine zt ?_; refine s_cq ?_; refine zm ?_; refine zt ?_; refine s_cq ?_; refine zi ?_; intro b2 o2 cs2 x2 hat2 hx2 he2; obtain ⟨vp2, vr2, vb2, rfl, hp2, hr2, hb2⟩ := Q1H he2; refine zt ?_; refine s_cq ?_; (first | (refine zv hS ?_) | (refine zvk hS ?_)); refine zt ?_; refine Qho ?_; refine Qb hS ?_; intro p7 w1 hS; refine zt ?_; refine zy ?_; refine Qho ?_; refine Qb hS ?_; intro p6 w1 hS; refine zt ?_; refine zy ?_; refine Qho ?_; refine zsn hS ?_; intro w1 hS; have hS := hS.ns)
      all_goals (refine zt ?_; refine zy ?_; refine s_cf ?_; refine zsn hS ?_; intro w1 hS; have hS := hS.ns; refine zt ?_; refine zcn ?_; refine Q0 ?_; refine Q0 ?_; refine Q1 ?_; refine Q2 rfl ?_; refine zl hS ?_; refine Q2 rfl ?_; refine zl hS ?_)
      all_goals (first | (refine Q1F ?_) | (refine Q1G ?_) | (refine QC rfl rfl (fun hc => ?_) (fun hc => ?_)))
      all_goals (refine zm ?_; (first | refine s_gn rfl rfl ?_ | (refine s_gy rfl ?_; refine Q2 rfl ?_)); (first | refine s_gn rfl rfl ?_ | (refine s_gy rfl ?_; refine zl hS ?_)); (first | refine s_gn rfl rfl ?_ | (refine s_gy rfl ?_; refine Q2 rfl ?_)); (first | refine s_gn rfl rfl ?_ | (refine s_gy rfl ?_; refine zl hS ?_)))
      all_goals ((first | (refine s_gn rfl rfl ?_) | (refine s_gy rfl ?_; refine zR2 (c := Q8Q (l := x1.params) (m := x2.params) hp1 hp2 hS) (h := ?_); rintro v1 w1 ⟨rfl, hS⟩; (cases hdec : decide (x1.params = x2.params)); have hg := of_decide_eq_false hdec; rotate_left; have hg := of_decide_eq_true hdec; all_goals skip)))
      all_goals ((first | refine s_gn rfl rfl ?_ | (refine s_gy rfl ?_; refine Q2J rfl ?_)); (first | (refine zpt ?_) | (refine zpf ?_)); refine zm ?_; (first | refine s_gn rfl rfl ?_ | (refine s_gy rfl ?_; refine Q2 rfl ?_)); (first | refine s_gn rfl rfl ?_ | (refine s_gy rfl ?_; refine zl hS ?_)); (first | refine s_gn rfl rfl ?_ | (refine s_gy rfl ?_; refine Q2 rfl ?_)); (first | refine s_gn rfl rfl ?_ | (refine s_gy rfl ?_; refine zl hS ?_)))
      all_goals ((first | (refine s_gn rfl rfl ?_) | (refine s_gy rfl ?_; refine zR2 (c := Q8Q (l := x1.results) (m := x2.results) hr1 hr2 hS) (h := ?_); rintro v1 w1 ⟨rfl, hS⟩; (cases hdec : decide (x1.results = x2.results)); have hg := of_decide_eq_false hdec; rotate_left; have hg := of_decide_eq_true hdec; all_goals skip)))
      all_goals ((first | refine s_gn rfl rfl ?_ | (refine s_gy rfl ?_; refine Q2J rfl ?_)); (first | (refine zpt ?_) | (refine zpf ?_)); refine zm ?_; (first | refine s_gn rfl rfl ?_ | (refine s_gy rfl ?_; refine Q2 rfl ?_)); (first | refine s_gn rfl rfl ?_ | (refine s_gy rfl ?_; refine zl hS ?_)); (first | refine s_gn rfl rfl ?_ | (refine s_gy rfl ?_; refine zL ?_)); (first | refine s_gn rfl rfl ?_ | (refine s_gy rfl ?_; refine Q2 rfl ?_)); (first | refine s_gn rfl rfl ?_ | (refine s_gy rfl ?_; refine zl hS ?_)); (first | refine s_gn rfl rfl ?_ | (refine s_gy rfl ?_; refine zL ?_)))
      all_goals (first | refine s_gn rfl rfl ?_ | (refine s_gy rfl ?_; (first | (refine Q1F ?_) | (refine Q1G ?_) | (refine QC rfl rfl (fun hc => ?_) (fun hc => ?_)))))
      all_goals ((first | (refine zpt ?_) | (refine zpf ?_)); refine zn ?_)
      all_goals
        first
        | (refine Q5 rfl ?_ -- QR c2
           all_goals (refine Q0 ?_; refine Q1 ?_; refine zm ?_; refine zn ?_; refine zr ?_; refine zf ?_)
           all_goals (first | (refine ⟨_, rfl, ?_, hS.sp⟩; rw [decide_eq_false]; exact fun e => absurd (congrArg List.length e) (by omega); done) | (refine ⟨_, rfl, ?_, hS.sp⟩; (rw [decide_eq_false]; rw [hd, Q7 hx1, Q7 hx2, List.cons.injEq]; rintro ⟨rfl, _⟩; first | (simp_all; done) | (simp at *; omega)); done)))
        | (refine Q6 rfl ?_ -- QR c2
           all_goals refine zsk ?_)
      all_goals (refine Q0 ?_; have hlb := hb1.len; refine Q1 ?_; refine zm ?_; refine zn ?_; refine Qa ?_)
      refine zoL hS [2, 3, 5, 6, 7] (fun A LL ρ' w' => ∃ (i : Nat), Has ρ' A ∧ Has ρ' [(8, .int .i64 i)] ∧ (i ≤ x1.blocks.length) ∧ (x1.blocks.length = x2.blocks.length) ∧ (x1.regs = x2.regs) ∧ (x1.params = x2.params) ∧ (x1.results = x2.results) ∧ (x1.blocks = x2.blocks ↔ x1.blocks.drop i = x2.blocks.drop i) ∧ St cx w' (LL)) (fun ρ' _ => (x1.blocks.length - iv (ρ' 8)).toNat) ?_ ?_
      · exact ⟨0, zh, zh, (by omega), (by omega), (by omega), by assumption, by assumption, by simp, hS.sp⟩
      rintro ρ w1 ⟨i, hA, hρ, hi, hlb2, hre, hpe, hrr, hd2, hS⟩; obtain ⟨ρ, rfl⟩ := env2 hA hρ
      unfold Q3f
      all_goals (refine Q0 ?_; refine Q0 ?_; refine Q1 ?_; refine zm ?_; refine Q2 rfl ?_; refine zl hS ?_; refine zL ?_; refine Qu rfl rfl ?_; refine zn ?_)
      refine Ql rfl (fun hc => ?_) (fun hc => ?_)
      · skip
        all_goals (refine zsk ?_; refine Q0 ?_; refine Qa ?_; refine Q0 ?_; refine zD [(0, none), (1, none), (2, none), (3, none), (4, none), (5, none), (6, none), (7, none), (8, none), (9, none), (10, some none), (11, some none)] ?_; have hS := hS.drew; refine Q2 rfl ?_; refine zl hS ?_; refine zm ?_; refine zi ?_; intro b3 o3 cs3 x3 hat3 hx3 he3; obtain ⟨vp3, vc3, ve31, ve32, ve33, ve34, ve35, rfl, hp3, hc3, he31, he32, he33, he34, he35⟩ := Q1y he3; (first | (refine zv hS ?_) | (refine zvk hS ?_)); refine Q2 rfl ?_; refine zl hS ?_; refine zm ?_; refine zi ?_; intro b4 o4 cs4 x4 hat4 hx4 he4; obtain ⟨vp4, vc4, ve41, ve42, ve43, ve44, ve45, rfl, hp4, hc4, he41, he42, he43, he44, he45⟩ := Q1y he4; (first | (refine zv hS ?_) | (refine zvk hS ?_)))
        all_goals (refine zR2 (c := Qfy he3 he4 hS) (h := ?_); rintro v1 w1 ⟨rfl, hS⟩; (cases hdec : decide (x3 = x4)); have hg := of_decide_eq_false hdec; rotate_left; have hg := of_decide_eq_true hdec; all_goals skip)
        all_goals (refine Q2J rfl ?_; refine zn ?_)
        all_goals
          first
          | (refine Q5 rfl ?_ -- QR c4
             all_goals (refine Q0 ?_; refine Q1 ?_; refine zm ?_; refine zn ?_; refine zr ?_; refine zf ?_)
             all_goals (first | (refine ⟨_, rfl, ?_, hS.sp⟩; rw [decide_eq_false]; exact fun e => absurd (congrArg List.length e) (by omega); done) | (refine ⟨_, rfl, ?_, hS.sp⟩; (rw [decide_eq_false]; rw [hd, Q7 hx1, Q7 hx2, List.cons.injEq]; rintro ⟨rfl, _⟩; first | (simp_all; done) | (simp at *; omega)); done)))
          | (refine Q6 rfl ?_ -- QR c4
             all_goals refine zsk ?_)
        all_goals (refine Q1 ?_; refine zm ?_; refine zad ?_; refine zm ?_; refine zn ?_; exact ⟨⟨i + 1, zh, zh, (by omega), (by omega), (by omega), by assumption, by assumption, by rw [hd2, Q7 hx3, Q7 hx4, hg]; simp, hS.sp⟩, Qh (by omega)⟩)
      · skip
        all_goals (refine zex ?_; refine Q1 ?_; refine zm ?_; refine zad ?_; refine zm ?_; refine zn ?_; exact ⟨⟨j + 1, zh, zh, (by omega), (by omega), by rw [hd, Q7 hx1, Q7 hx2, Fun.eq_of hre hpe hrr (by rw [hd2, List.drop_of_length_le (by omega), List.drop_of_length_le (by omega)])]; simp, hS.sp⟩, Qh (by omega)⟩)
  · skip
    all_goals (refine zex ?_; refine Q0 ?_; refine Q1 ?_; refine zm ?_; refine zn ?_; refine zr ?_; refine zf ?_)
    all_goals (first | (refine ⟨_, rfl, ?_, hS.sp⟩; rw [decide_eq_false]; exact fun e => absurd (congrArg List.length e) (by omega); done) | (refine ⟨_, rfl, ?_, hS.sp⟩; (rw [decide_eq_false]; rw [hd, Q7 hx1, Q7 hx2, List.cons.injEq]; rintro ⟨rfl, _⟩; first | (simp_all; done) | (simp at *; omega)); done) | (refine ⟨_, rfl, ?_, hS.sp⟩; rw [decide_eq_false]; rw [hd, Q7 hx1, Q7 hx2, List.cons.injEq]; rintro ⟨rfl, _⟩; rw [hx3] at hx4; cases hx4; exact hg rfl; done) | (refine ⟨_, rfl, ?_, hS.sp⟩; rw [decide_eq_true]; rw [hd, List.drop_of_length_le (by omega), List.drop_of_length_le (by omega)]; done))
end Go.Proofs.Ytanlkfeogoganaa
namespace Go.Proofs.Ytanlkfeogoganaa
open Go.Lir
set_option maxHeartbeats 1000000
attribute [local irreducible] LC.wp Q3 Qz QM retQ Q1x LO.wp Qf Calls
set_option linter.unusedSimpArgs false
set_option linter.unusedVariables false
variable {cx : Cx} {w : World} {L : List Res} {i : Nat}
def QkO : Block := ⟨0, [], [], ⟨3, 0, ⟨0, [], []⟩, ⟨0, [], []⟩, []⟩⟩
def leastM : Module := ⟨[⟨0, [], [], [QkO]⟩]⟩
abbrev QfA (vc : Value) : List Value := [.int .i64 0, .slice none 0 0, vc, .int .i64 3, .int .i64 0, .int .i64 0, .slice none 0 0, .slice none 0 0, .int .i64 0, .slice none 0 0, .slice none 0 0, .slice none 0 0]
theorem least_c (hS : St cx w L) : Rets Try.prog Qij [] w fun u w' => ∃ a b, u = .agg ⟨[.slice (some ⟨a, 0, none⟩) 1 1]⟩ ∧ St cx w' (blk a 31 [.int .i64 0, .slice none 0 0, .slice none 0 0, .slice (some ⟨b, 0, none⟩) 1 1] :: blk b 77 (QfA (.slice none 0 0)) :: L) := by
  all_goals refine Qii ?_
  all_goals (unfold Law_least_lc; refine Q0 ?_; refine Q1 ?_; refine Qb hS ?_; intro p0 w1 hS; refine zn ?_; refine Q0 ?_; refine Q1 ?_; refine zb1 [_, _, _, _, _, _, _, _, _] ?_; refine zb1 [_, _, _, _, _, _, _, _, _, _, _, _] ?_; refine QcZ (cs := [_, _, _, _, _, _, _, _, _, _, _, _]) vw (by rfl) ?_; intro q1 w1 hb1 hf1 _ hk1; have hS := hS.laid hb1 hf1 hk1; refine zb1 [_, _, _, _] ?_; refine QcZ (cs := [_, _, _, _]) vw (by rfl) ?_; intro q2 w1 hb1 hf1 _ hk1; have hS := hS.laid hb1 hf1 hk1; refine zb1 [_] ?_; refine zsn hS ?_; intro w1 hS; have hS := hS.ns; refine zn ?_; refine zr ?_; refine Qb2 vw (Qn (n := 1) (by kernel_rfl) (by kernel_rfl) (hS.blkAt fd) (by rfl) (by rfl)) ?_; exact ⟨_, rfl, q2, q1, rfl, hS.sp⟩)
/-- Such a module, from now on only read. -/
theorem least_fz {a b : Nat} {code : List Ins} {vc : Value} (hk : insR.sl cx vc code) (hS : St cx w (blk a 31 [.int .i64 0, .slice none 0 0, .slice none 0 0, .slice (some ⟨b, 0, none⟩) 1 1] :: blk b 77 (QfA vc) :: L)) :
    ∃ c', cx.Le c' ∧ St c' w L ∧ modR.at c' [.slice (some ⟨a, 0, none⟩) 1 1] ⟨[⟨0, [], [], [⟨0, [], code, ⟨3, 0, ⟨0, [], []⟩, ⟨0, [], []⟩, []⟩⟩]⟩]⟩ := by
  have n1 : ∀ c : Cx, intR.sl c (.slice none 0 0) [] := fun c => Rep.SR.nil _ _ _
  have n2 : ∀ c : Cx, tyR.sl c (.slice none 0 0) [] := fun c => Rep.SR.nil _ _ _
  obtain ⟨c1, hle1, hS, h1⟩ := St.freeze1 (r := blockR) (x := ⟨0, [], code, ⟨3, 0, ⟨0, [], []⟩, ⟨0, [], []⟩, []⟩⟩) hS.mv1 (Ql9 (x := ⟨0, [], code, ⟨3, 0, ⟨0, [], []⟩, ⟨0, [], []⟩, []⟩⟩) (n2 _) hk (n1 _) (n1 _) (n1 _) (n1 _) (n1 _))
  obtain ⟨c2, hle2, hS, h2⟩ := St.freeze1 (r := funcR) (x := ⟨0, [], [], [⟨0, [], code, ⟨3, 0, ⟨0, [], []⟩, ⟨0, [], []⟩, []⟩⟩]⟩) hS ⟨_, _, _, rfl, n2 _, n2 _, h1⟩
  exact ⟨c2, hle1.trans hle2, hS, _, rfl, h2⟩
end Go.Proofs.Ytanlkfeogoganaa
namespace Go.Proofs.Ytanlkfeogoganaa
open Go.Lir
theorem QiF : leastM.fault = (0, 0) := by decide
theorem QhG : leastM.body.length = 13 := by decide +kernel
theorem least_3 : leastM.enc[3]? = some 2 := by decide +kernel
theorem sum9 : Q2g [49, 50, 51, 52, 53, 54, 55, 56, 57] = 3421780262#32 := by decide +kernel
theorem QiE : leastM.Short := by
  refine ⟨by decide, fun f hf => ?_⟩
  simp [leastM] at hf; subst hf
  refine ⟨⟨by decide, by simp⟩, ⟨by decide, by simp⟩, by decide, fun b hb => ?_⟩
  simp [QkO] at hb; subst hb
  exact ⟨⟨by decide, by simp⟩, by decide, by simp, ⟨by decide, by decide⟩, ⟨by decide, by decide⟩, by decide⟩
theorem QkM : leastM.Few := by
  refine ⟨by decide, fun f hf => ?_⟩
  simp [leastM] at hf; subst hf
  refine ⟨by decide, by decide, by decide, fun b hb => ?_⟩
  simp [QkO] at hb; subst hb
  exact ⟨by decide, by decide, by simp, ⟨by decide, by decide⟩, ⟨by decide, by decide⟩, by decide⟩
end Go.Proofs.Ytanlkfeogoganaa
namespace Go.Proofs.Ytanlkfeogoganaa
open Go.Lir
set_option maxHeartbeats 1000000
attribute [local irreducible] LC.wp Q3 Qz QM retQ Q1x LO.wp Qf Calls
set_option linter.unusedSimpArgs false
set_option linter.unusedVariables false
attribute [local irreducible] bitI IntKind.wrap Q3g rdLong rdMany QA mmap Q2q Q2g Module.fault Lir.decode sumB Module.enc Module.body
variable {cx : Cx} {w : World} {L : List Res}
theorem QkN {cs : List Value} (hx : modR.at cx cs leastM) (hS : St cx w L) : Rets Try.prog Q1u [.agg ⟨cs⟩] w fun u w' =>
    ∃ v, u = .tuple #[v, fltV (0, 0)] ∧ oneC v = true ∧ St cx w' (sl 5 1 v (leastM.enc.map QF) :: L) := by
  refine Rets.mono (Qji QkM QiE hx hS) ?_
  rintro u w' (⟨h, _⟩ | ⟨_, h, _⟩ | ⟨_, _, h⟩)
  · exact absurd (by rw [QiF]) h
  · rw [QhG] at h; omega
  · exact h
def nine : List UInt8 := [49, 50, 51, 52, 53, 54, 55, 56, 57]
theorem Qi2 (hS : St cx w L) : Rets Try.prog Q7x [] w fun u w' => u = .bool true ∧ St cx w' L := by
  have n0 : ∀ c : Cx, insR.sl c (.slice none 0 0) [] := fun c => Rep.SR.nil _ _ _
  have m0 : ∀ c : Cx, u8R.sl c (.slice none 0 0) [] := fun c => Rep.SR.nil _ _ _
  have el : leastM.enc.length = 17 := by rw [QiL, QhG]
  have e3 := least_3
  have e0 : Lir.decode [] = .error (5, 0) := Q2B (by decide)
  all_goals refine QaR ?_
  all_goals (unfold Law_codecBegun_lc; refine Q0 ?_; refine Q1 ?_; refine zm ?_; refine zn ?_; refine Q0 ?_; refine Q1 ?_; refine zR0 (c := least_c hS) (h := ?_); rintro v1 w1 ⟨la, lb, rfl, hS⟩; obtain ⟨c1, hle1, hS, hm1⟩ := least_fz (n0 _) hS; refine zR1 (c := QkN hm1 hS) (h := ?_); rintro v1 w1 ⟨ve, rfl, hve, hS⟩; unfold fltV; obtain ⟨c2, hle2, hS2, hk2⟩ := St.freezeL (r := u8R) hS (Q8N _) rfl (by omega); clear hS; obtain ⟨ae, ne, e9⟩ := Rep.SR.shape hk2; rw [el] at e9; subst e9; have hS := hS2; refine zm ?_; refine Q8P rfl rfl ?_; refine Q8P rfl rfl ?_; refine Qb hS ?_; intro p2 w1 hS; refine zm ?_; refine zsn hS ?_; intro w1 hS; have hS := hS.ns; refine zn ?_; refine Q0 ?_; refine Q1 ?_)
  all_goals (refine zR1 (c := Qgq (m0 _) hS) (h := ?_); rintro v1 w1 (⟨e, h5, rfl, hS⟩ | ⟨m, c', vf, h5, rfl, _, hm2, hS⟩); rotate_left; (cases e0.symm.trans h5); obtain rfl := Except.error.inj (e0.symm.trans h5); unfold fltV)
  all_goals (refine zm ?_; refine Q8P rfl rfl ?_; refine Q8P rfl rfl ?_; refine Qb hS ?_; intro p3 w1 hS; refine Qb hS ?_; intro p4 w1 hS; refine zsn hS ?_; intro w1 hS; have hS := hS.ns; refine zsn hS ?_; intro w1 hS; have hS := hS.ns; refine zn ?_; refine Q0 ?_; refine Q1 ?_; refine Q2 rfl ?_; refine zl hS ?_)
  all_goals (refine Q10 ?_)
  all_goals (refine zm ?_; (first | refine s_gn rfl rfl ?_ | (refine s_gy rfl ?_; refine zm ?_)); (first | refine s_gn rfl rfl ?_ | (refine s_gy rfl ?_; refine zL ?_)))
  all_goals (first | refine s_gn rfl rfl ?_ | (refine s_gy rfl ?_; refine Q10 ?_))
  all_goals (refine zpt ?_; refine zm ?_; (first | refine s_gn rfl rfl ?_ | (refine s_gy rfl ?_; refine zm ?_)); (first | refine s_gn rfl rfl ?_ | (refine s_gy rfl ?_; refine Qiq (m := 3) vw rfl hk2 rfl (by omega) ?_; intro b8 o8 cs8 x8 hat8 hx8 he8; obtain rfl : x8 = 2 := Option.some.inj (hx8.symm.trans e3); obtain rfl := Q5f he8)); (first | refine s_gn rfl rfl ?_ | (refine s_gy rfl ?_; (first | (refine zl hS ?_) | (refine zlk hS ?_)))))
  all_goals (first | refine s_gn rfl rfl ?_ | (refine s_gy rfl ?_; (first | (refine Q10 ?_) | (refine Q1p ?_) | (refine Qk rfl rfl (fun hc => ?_) (fun hc => ?_)))))
  all_goals (refine zpt ?_; refine zm ?_; (first | refine s_gn rfl rfl ?_ | (refine s_gy rfl ?_; refine Q2 rfl ?_)); (first | refine s_gn rfl rfl ?_ | (refine s_gy rfl ?_; refine zl hS ?_)))
  all_goals (first | refine s_gn rfl rfl ?_ | (refine s_gy rfl ?_; refine Q10 ?_))
  all_goals ((first | (refine zpt ?_) | (refine zpf ?_)); refine zm ?_; (first | refine s_gn rfl rfl ?_ | (refine s_gy rfl ?_; refine zB9 hS [_, _, _, _, _, _, _, _, _] ?_; intro b1 w1 hS)); (first | (refine s_gn rfl rfl ?_) | (refine s_gy rfl ?_; refine Qfx (e := 5) (by kernel_rfl) (by kernel_rfl) hS vw ?_; intro w9 hS; have hS := St.slOf (es := 1) (n := 9) (css := nine.map QF) hS rfl (by simp [QF]) rfl; obtain ⟨c3, hle3, hS, hk3⟩ := St.freezeL (r := u8R) hS (Q8N _) rfl (by decide))); (first | (refine s_gn rfl rfl ?_) | (refine s_gy rfl ?_; refine zR1 (c := sum_c hk3 hS) (h := ?_); rintro v1 w1 ⟨rfl, hS⟩; rw [show Q2g nine = 3421780262#32 from sum9])))
  all_goals (first | refine s_gn rfl rfl ?_ | (refine s_gy rfl ?_; (first | (refine Q10 ?_) | (refine Q1p ?_) | (refine Qk rfl rfl (fun hc => ?_) (fun hc => ?_)))))
  all_goals ((first | (refine zpt ?_) | (refine zpf ?_)); refine zm ?_; refine zn ?_; refine zr ?_; refine zf ?_; (first | (exfalso; exact hc (by decide)) | exact ⟨_, rfl, rfl, St.weak hS.sp (hle1.trans (hle2.trans hle3))⟩))
end Go.Proofs.Ytanlkfeogoganaa
namespace Go.Proofs.Ytanlkfeogoganaa
open Go.Lir
set_option maxHeartbeats 1000000
attribute [local irreducible] LC.wp Q3 Qz QM retQ Q1x LO.wp Qf Calls
set_option linter.unusedSimpArgs false
set_option linter.unusedVariables false
theorem QjK {x : Module} {cx : Cx} {w : World} {L : List Res} {cs : List Value} (hx : modR.at cx cs x) (hS : St cx w L) : Rets Try.prog QW [.agg ⟨cs⟩] w fun u w' => ∃ b, u = .bool b ∧ (b = false → x.Few) ∧ St cx w' L := by
  obtain ⟨vf, rfl, hl⟩ := Q3o hx
  obtain ⟨l⟩ := x
  have hl : funcR.sl cx vf l := hl
  have hlen := hl.len
  all_goals refine Qc9 ?_
  all_goals (unfold R_GreatModule_lc; refine Q0 ?_; refine Q1 ?_; refine zb hS ?_; intro p1 w1 hS; refine zm ?_; refine zn ?_; refine Q0 ?_; refine Q0 ?_; refine Q1 ?_; refine Q2 rfl ?_; refine zl hS ?_; refine zL ?_)
  all_goals (first | (refine QZ ?_) | (refine Q1g ?_) | (refine Qg rfl rfl (fun hc => ?_) (fun hc => ?_)))
  all_goals (refine zn ?_)
  all_goals
    first
    | (refine Q5 rfl ?_ -- QW c0
       all_goals (refine Q0 ?_; refine Q1 ?_; refine zm ?_; refine zn ?_; refine zr ?_; refine zf ?_)
       all_goals (exact ⟨_, rfl, true, rfl, fun h => Bool.noConfusion h, hS.sp⟩))
    | (refine Q6 rfl ?_ -- QW c0
       all_goals refine zsk ?_)
  all_goals (refine Q0 ?_; refine Q0 ?_; refine Q1 ?_; refine zm ?_; refine zn ?_; refine Qa ?_)
  refine zoL hS [1] (fun A LL ρ' w' => ∃ (j : Nat), Has ρ' A ∧ Has ρ' [(3, .int .i64 j)] ∧ (j ≤ l.length) ∧ (l.length ≤ 20) ∧ (∀ f ∈ l.take j, f.Few) ∧ St cx w' (LL)) (fun ρ' _ => (l.length - iv (ρ' 3)).toNat) ?_ ?_
  · exact ⟨0, zh, zh, (by omega), (by omega), by simp, hS.sp⟩
  rintro ρ w1 ⟨j, hA, hρ, hj, hl20, hd, hS⟩; obtain ⟨ρ, rfl⟩ := env2 hA hρ
  unfold Q4K
  all_goals (refine Q0 ?_; refine Q0 ?_; refine Q1 ?_; refine zm ?_; refine Q2 rfl ?_; refine zl hS ?_; refine zL ?_; refine Qu rfl rfl ?_; refine zn ?_)
  refine Ql rfl (fun hc => ?_) (fun hc => ?_)
  · skip
    all_goals (refine zsk ?_; refine Q0 ?_; refine Qa ?_; refine Q0 ?_; refine Q1 ?_; refine Q2 rfl ?_; refine zl hS ?_; refine zm ?_; refine zi ?_; intro b1 o1 cs1 x1 hat1 hx1 he1; obtain ⟨vp1, vr1, vb1, rfl, hp1, hr1, hb1⟩ := Q1H he1; (first | (refine zv hS ?_) | (refine zvk hS ?_)); refine Qb hS ?_; intro p4 w1 hS; refine zsn hS ?_; intro w1 hS; have hS := hS.ns; refine zn ?_; refine Q0 ?_; refine Q0 ?_; refine Q1 ?_; refine Q2 rfl ?_; refine zl hS ?_; refine zL ?_)
    all_goals (first | (refine QZ ?_) | (refine Q1g ?_) | (refine Qg rfl rfl (fun hc => ?_) (fun hc => ?_)))
    all_goals (refine zm ?_; (first | refine s_gn rfl rfl ?_ | (refine s_gy rfl ?_; refine Q2 rfl ?_)); (first | refine s_gn rfl rfl ?_ | (refine s_gy rfl ?_; refine zl hS ?_)))
    all_goals ((first | (refine s_gn rfl rfl ?_) | (refine s_gy rfl ?_; refine zR1 (c := Qgh hp1 hS) (h := ?_); rintro v1 w1 ⟨rfl, hS⟩; cases hg1 : Tys.great x1.params)))
    all_goals ((first | (refine zpt ?_) | (refine zpf ?_)); refine zm ?_; (first | refine s_gn rfl rfl ?_ | (refine s_gy rfl ?_; refine Q2 rfl ?_)); (first | refine s_gn rfl rfl ?_ | (refine s_gy rfl ?_; refine zl hS ?_)))
    all_goals ((first | (refine s_gn rfl rfl ?_) | (refine s_gy rfl ?_; refine zR1 (c := Qgh hr1 hS) (h := ?_); rintro v1 w1 ⟨rfl, hS⟩; cases hg2 : Tys.great x1.results)))
    all_goals ((first | (refine zpt ?_) | (refine zpf ?_)); refine zn ?_)
    all_goals
      first
      | (refine Q5 rfl ?_ -- QW c2
         all_goals (refine Q0 ?_; refine Q1 ?_; refine zm ?_; refine zn ?_; refine zr ?_; refine zf ?_)
         all_goals (exact ⟨_, rfl, true, rfl, fun h => Bool.noConfusion h, hS.sp⟩))
      | (refine Q6 rfl ?_ -- QW c2
         all_goals refine zsk ?_)
    all_goals (refine Q0 ?_; have hlb := hb1.len; refine Q1 ?_; refine zm ?_; refine zn ?_; refine Qa ?_)
    refine zoL hS [1, 3, 4] (fun A LL ρ' w' => ∃ (i : Nat), Has ρ' A ∧ Has ρ' [(5, .int .i64 i)] ∧ (i ≤ x1.blocks.length) ∧ (x1.blocks.length ≤ 30) ∧ (Tys.great x1.params = false) ∧ (Tys.great x1.results = false) ∧ (∀ f ∈ x1.blocks.take i, f.Few) ∧ St cx w' (LL)) (fun ρ' _ => (x1.blocks.length - iv (ρ' 5)).toNat) ?_ ?_
    · exact ⟨0, zh, zh, (by omega), (by omega), by assumption, by assumption, by simp, hS.sp⟩
    rintro ρ w1 ⟨i, hA, hρ, hi, hl30, hg1, hg2, hd1, hS⟩; obtain ⟨ρ, rfl⟩ := env2 hA hρ
    unfold Q4J
    all_goals (refine Q0 ?_; refine Q0 ?_; refine Q1 ?_; refine zm ?_; refine Q2 rfl ?_; refine zl hS ?_; refine zL ?_; refine Qu rfl rfl ?_; refine zn ?_)
    refine Ql rfl (fun hc => ?_) (fun hc => ?_)
    · skip
      all_goals (refine zsk ?_; refine Q0 ?_; refine Qa ?_; refine Q0 ?_; refine Q1 ?_; refine Q2 rfl ?_; refine zl hS ?_; refine zm ?_; refine zi ?_; intro b2 o2 cs2 x2 hat2 hx2 he2; obtain ⟨vp2, vc2, ve21, ve22, ve23, ve24, ve25, rfl, hp2, hc2, he21, he22, he23, he24, he25⟩ := Q1y he2; (first | (refine zv hS ?_) | (refine zvk hS ?_)); refine Qb hS ?_; intro p6 w1 hS; refine zsn hS ?_; intro w1 hS; have hS := hS.ns; refine zn ?_; refine Q0 ?_; refine Q0 ?_; refine Q1 ?_; refine Q2 rfl ?_; refine zl hS ?_; refine zL ?_)
      all_goals (first | (refine QZ ?_) | (refine Q1g ?_) | (refine Qg rfl rfl (fun hc => ?_) (fun hc => ?_)))
      all_goals (refine zm ?_; (first | refine s_gn rfl rfl ?_ | (refine s_gy rfl ?_; refine Q2 rfl ?_)); (first | refine s_gn rfl rfl ?_ | (refine s_gy rfl ?_; refine zl hS ?_)))
      all_goals ((first | (refine s_gn rfl rfl ?_) | (refine s_gy rfl ?_; refine zR1 (c := Qgh hp2 hS) (h := ?_); rintro v1 w1 ⟨rfl, hS⟩; cases hg3 : Tys.great x2.params)))
      all_goals ((first | (refine zpt ?_) | (refine zpf ?_)); refine zm ?_; (first | refine s_gn rfl rfl ?_ | (refine s_gy rfl ?_; refine Q2 rfl ?_)); (first | refine s_gn rfl rfl ?_ | (refine s_gy rfl ?_; (first | refine Q2 rfl ?_ | refine Q2o rfl ?_))); (first | refine s_gn rfl rfl ?_ | (refine s_gy rfl ?_; refine zl hS ?_)); (first | refine s_gn rfl rfl ?_ | (refine s_gy rfl ?_; refine zL ?_)))
      all_goals (first | refine s_gn rfl rfl ?_ | (refine s_gy rfl ?_; (first | (refine QZ ?_) | (refine Q1g ?_) | (refine Qg rfl rfl (fun hc => ?_) (fun hc => ?_)))))
      all_goals ((first | (refine zpt ?_) | (refine zpf ?_)); refine zm ?_; (first | refine s_gn rfl rfl ?_ | (refine s_gy rfl ?_; refine Q2 rfl ?_)); (first | refine s_gn rfl rfl ?_ | (refine s_gy rfl ?_; (first | refine Q2 rfl ?_ | refine Q2o rfl ?_))); (first | refine s_gn rfl rfl ?_ | (refine s_gy rfl ?_; (first | refine Q2 rfl ?_ | refine Q2o rfl ?_))); (first | refine s_gn rfl rfl ?_ | (refine s_gy rfl ?_; refine zl hS ?_)); (first | refine s_gn rfl rfl ?_ | (refine s_gy rfl ?_; refine zL ?_)))
      all_goals (first | refine s_gn rfl rfl ?_ | (refine s_gy rfl ?_; (first | (refine QZ ?_) | (refine Q1g ?_) | (refine Qg rfl rfl (fun hc => ?_) (fun hc => ?_)))))
      all_goals ((first | (refine zpt ?_) | (refine zpf ?_)); refine zm ?_; (first | refine s_gn rfl rfl ?_ | (refine s_gy rfl ?_; refine Q2 rfl ?_)); (first | refine s_gn rfl rfl ?_ | (refine s_gy rfl ?_; (first | refine Q2 rfl ?_ | refine Q2o rfl ?_))); (first | refine s_gn rfl rfl ?_ | (refine s_gy rfl ?_; (first | refine Q2 rfl ?_ | refine Q2o rfl ?_))); (first | refine s_gn rfl rfl ?_ | (refine s_gy rfl ?_; refine zl hS ?_)); (first | refine s_gn rfl rfl ?_ | (refine s_gy rfl ?_; refine zL ?_)))
      all_goals (first | refine s_gn rfl rfl ?_ | (refine s_gy rfl ?_; (first | (refine QZ ?_) | (refine Q1g ?_) | (refine Qg rfl rfl (fun hc => ?_) (fun hc => ?_)))))
      all_goals ((first | (refine zpt ?_) | (refine zpf ?_)); refine zm ?_; (first | refine s_gn rfl rfl ?_ | (refine s_gy rfl ?_; refine Q2 rfl ?_)); (first | refine s_gn rfl rfl ?_ | (refine s_gy rfl ?_; (first | refine Q2 rfl ?_ | refine Q2o rfl ?_))); (first | refine s_gn rfl rfl ?_ | (refine s_gy rfl ?_; (first | refine Q2 rfl ?_ | refine Q2o rfl ?_))); (first | refine s_gn rfl rfl ?_ | (refine s_gy rfl ?_; refine zl hS ?_)); (first | refine s_gn rfl rfl ?_ | (refine s_gy rfl ?_; refine zL ?_)))
      all_goals (first | refine s_gn rfl rfl ?_ | (refine s_gy rfl ?_; (first | (refine QZ ?_) | (refine Q1g ?_) | (refine Qg rfl rfl (fun hc => ?_) (fun hc => ?_)))))
      all_goals ((first | (refine zpt ?_) | (refine zpf ?_)); refine zm ?_; (first | refine s_gn rfl rfl ?_ | (refine s_gy rfl ?_; refine Q2 rfl ?_)); (first | refine s_gn rfl rfl ?_ | (refine s_gy rfl ?_; (first | refine Q2 rfl ?_ | refine Q2o rfl ?_))); (first | refine s_gn rfl rfl ?_ | (refine s_gy rfl ?_; (first | refine Q2 rfl ?_ | refine Q2o rfl ?_))); (first | refine s_gn rfl rfl ?_ | (refine s_gy rfl ?_; refine zl hS ?_)); (first | refine s_gn rfl rfl ?_ | (refine s_gy rfl ?_; refine zL ?_)))
      all_goals (first | refine s_gn rfl rfl ?_ | (refine s_gy rfl ?_; (first | (refine QZ ?_) | (refine Q1g ?_) | (refine Qg rfl rfl (fun hc => ?_) (fun hc => ?_)))))
      all_goals ((first | (refine zpt ?_) | (refine zpf ?_)); refine zn ?_)
      all_goals
        first
        | (refine Q5 rfl ?_ -- QW c4
           all_goals (refine Q0 ?_; refine Q1 ?_; refine zm ?_; refine zn ?_; refine zr ?_; refine zf ?_)
           all_goals (exact ⟨_, rfl, true, rfl, fun h => Bool.noConfusion h, hS.sp⟩))
        | (refine Q6 rfl ?_ -- QW c4
           all_goals refine zsk ?_)
      all_goals (refine Q0 ?_; have hlc := hc2.len; refine Q1 ?_; refine zm ?_; refine zn ?_; refine Qa ?_)
      refine zoL hS [1, 3, 4, 5, 6] (fun A LL ρ' w' => ∃ (k : Nat), Has ρ' A ∧ Has ρ' [(7, .int .i64 k)] ∧ (k ≤ x2.code.length) ∧ (x2.code.length ≤ 200) ∧ (Tys.great x2.params = false) ∧ (x2.fin.Few) ∧ (∀ f ∈ x2.code.take k, f.Few) ∧ St cx w' (LL)) (fun ρ' _ => (x2.code.length - iv (ρ' 7)).toNat) ?_ ?_
      · exact ⟨0, zh, zh, (by omega), (by omega), by assumption, ⟨⟨by omega, by omega⟩, ⟨by omega, by omega⟩, by omega⟩, by simp, hS.sp⟩
      rintro ρ w1 ⟨k, hA, hρ, hk, hl200, hg3, hfin, hd2, hS⟩; obtain ⟨ρ, rfl⟩ := env2 hA hρ
      unfold Q46
      all_goals (refine Q0 ?_; refine Q0 ?_; refine Q1 ?_; refine zm ?_; refine Q2 rfl ?_; refine zl hS ?_; refine zL ?_; refine Qu rfl rfl ?_; refine zn ?_)
      refine Ql rfl (fun hc => ?_) (fun hc => ?_)
      · skip
        all_goals (refine zsk ?_; refine Q0 ?_; refine Qa ?_; refine Q0 ?_; refine Q1 ?_; refine Q2 rfl ?_; refine zl hS ?_; refine zm ?_; refine zi ?_; intro b3 o3 cs3 x3 hat3 hx3 he3; obtain ⟨vr3, va3, rfl, hr3, ha3⟩ := Q2f he3; (first | refine Q2 rfl ?_ | refine Q2o rfl ?_); (first | (refine zl hS ?_) | (refine zlk hS ?_) | (refine zlj hS ?_)); refine zL ?_)
        all_goals (first | (refine QZ ?_) | (refine Q1g ?_) | (refine Qg rfl rfl (fun hc => ?_) (fun hc => ?_)))
        all_goals (refine zm ?_; (first | refine s_gn rfl rfl ?_ | (refine s_gy rfl ?_; refine Q2 rfl ?_)); (first | refine s_gn rfl rfl ?_ | (refine s_gy rfl ?_; refine zl hS ?_)); (first | refine s_gn rfl rfl ?_ | (refine s_gy rfl ?_; refine zm ?_)); (first | (refine s_gn rfl rfl ?_) | (refine s_gy rfl ?_; refine Qiq vw rfl (by assumption) rfl (by omega) ?_; intro b4 o4 cs4 x4 hat4 hx4 he4; rw [hx3] at hx4; obtain rfl : x3 = x4 := Option.some.inj hx4; obtain ⟨vr4, va4, rfl, hr4, ha4⟩ := Q2f he4)); (first | refine s_gn rfl rfl ?_ | (refine s_gy rfl ?_; (first | refine Q2 rfl ?_ | refine Q2o rfl ?_))); (first | refine s_gn rfl rfl ?_ | (refine s_gy rfl ?_; (first | (refine zl hS ?_) | (refine zlk hS ?_) | (refine zlj hS ?_)))); (first | refine s_gn rfl rfl ?_ | (refine s_gy rfl ?_; refine zL ?_)))
        all_goals (first | refine s_gn rfl rfl ?_ | (refine s_gy rfl ?_; (first | (refine QZ ?_) | (refine Q1g ?_) | (refine Qg rfl rfl (fun hc => ?_) (fun hc => ?_)))))
        all_goals ((first | (refine zpt ?_) | (refine zpf ?_)); refine zn ?_)
        all_goals
          first
          | (refine Q5 rfl ?_ -- QW c6
             all_goals (refine Q0 ?_; refine Q1 ?_; refine zm ?_; refine zn ?_; refine zr ?_; refine zf ?_)
             all_goals (exact ⟨_, rfl, true, rfl, fun h => Bool.noConfusion h, hS.sp⟩))
          | (refine Q6 rfl ?_ -- QW c6
             all_goals refine zsk ?_)
        all_goals (refine Q1 ?_; refine zm ?_; refine zad ?_; refine zm ?_; refine zn ?_; exact ⟨⟨k + 1, zh, zh, (by omega), (by omega), by assumption, by assumption, Qcz hd2 hx3 ⟨by omega, by omega⟩, hS.sp⟩, Qh (by omega)⟩)
      · skip
        all_goals (refine zex ?_; refine Q1 ?_; refine zm ?_; refine zad ?_; refine zm ?_; refine zn ?_; exact ⟨⟨i + 1, zh, zh, (by omega), (by omega), by assumption, by assumption, Qcz hd1 hx2 ⟨hg3, by omega, Qcy hd2 (by omega), hfin⟩, hS.sp⟩, Qh (by omega)⟩)
    · skip
      all_goals (refine zex ?_; refine Q1 ?_; refine zm ?_; refine zad ?_; refine zm ?_; refine zn ?_; exact ⟨⟨j + 1, zh, zh, (by omega), (by omega), Qcz hd hx1 ⟨hg1, hg2, by omega, Qcy hd1 (by omega)⟩, hS.sp⟩, Qh (by omega)⟩)
  · skip
    all_goals (refine zex ?_; refine Q0 ?_; refine Q1 ?_; refine zm ?_; refine zn ?_; refine zr ?_; refine zf ?_)
    all_goals (first | (exact ⟨_, rfl, true, rfl, fun h => Bool.noConfusion h, hS.sp⟩) | (have h1 : l.length ≤ 20 := (by omega); exact ⟨_, rfl, false, rfl, fun _ => ⟨h1, Qcy (l := l) hd (by omega)⟩, hS.sp⟩))
end Go.Proofs.Ytanlkfeogoganaa
namespace Go.Lir
end Go.Lir
namespace Go.Proofs.Ytanlkfeogoganaa
open Go.Lir
set_option maxHeartbeats 1000000
attribute [local irreducible] LC.wp Q3 Qz QM retQ Q1x LO.wp Qf Calls
set_option linter.unusedSimpArgs false
set_option linter.unusedVariables false
attribute [local irreducible] bitI IntKind.wrap Q3g rdLong rdMany QA mmap Q2q Q2g Module.fault Lir.decode sumB Module.enc Module.body
variable {cx : Cx} {w : World} {L : List Res}
end Go.Proofs.Ytanlkfeogoganaa
namespace Go.Lir
set_option linter.unusedVariables false
section
variable {α β : Type} {n : Nat}
def ENZ (f : List UInt8 → Got α) : Prop := ∀ r e, f r = .error e → e.1 ≠ 0
theorem Q4e {x : α} : ENZ (fun r => .ok (x, r)) := fun r e h => by cases h
theorem QI {f : List UInt8 → Got α} {g : α → List UInt8 → Got β} (hf : ENZ f) (hg : ∀ x, ENZ (g x)) : ENZ (fun r => Qj (f r) g) := fun r e h => by
  show e.1 ≠ 0
  replace h : Qj (f r) g = .error e := h
  unfold Qj at h
  split at h
  · exact hg _ _ _ h
  · rename_i e' he; cases h; exact hf _ _ he
theorem Q9Q {f : List UInt8 → Got α} {c : Prop} [Decidable c] {z : α} (hf : ENZ f) : ENZ (rdIf c z f) := fun r e h => by
  unfold rdIf at h
  split at h
  · exact hf _ _ h
  · cases h
theorem nz_U : ∀ k, ENZ (rdU n k)
  | 0 => fun r e h => by rw [rdU] at h; cases h
  | k + 1 => fun r e h => by
    cases r with
    | nil => rw [rdU] at h; cases h; exact (by decide : (5 : Int) ≠ 0)
    | cons x r =>
      rw [rdU] at h
      split at h
      · cases h; exact (by decide : (1 : Int) ≠ 0)
      · split at h
        · cases h
        · exact QI (nz_U k) (fun u => Q4e) r e h
theorem Q22 : ENZ (rdLong n) := QI (nz_U 10) fun u => Q4e
theorem QkH {f : List UInt8 → Got α} (hf : ENZ f) : ∀ k, ENZ (rdMany f k)
  | 0 => fun r e h => by rw [rdMany] at h; cases h
  | k + 1 => fun r e h => by
    rw [rdMany] at h
    exact QI hf (fun x => QI (QkH hf k) fun l => Q4e) r e h
theorem Qd7 {f : List UInt8 → Got α} (hf : ENZ f) : ENZ (QA n f) := fun r e h => by
  refine QI Q22 (g := fun c r' => if c < 0 ∨ (r'.length : Int) < c then .error (2, (n : Int) - r.length) else rdMany f c.toNat r') (fun c r' e h => ?_) r e h
  dsimp only at h
  split at h
  · cases h; exact (by decide : (2 : Int) ≠ 0)
  · exact QkH hf _ _ _ h
theorem Qd8 : ENZ (Q27 n) := Qd7 Q22
theorem Qcs : ∀ k, ENZ (QG n k)
  | 0 => fun r e h => by rw [QG] at h; cases h; exact (by decide : (19 : Int) ≠ 0)
  | k + 1 => fun r e h => by
    rw [Q2w] at h
    exact Qd7 (QI Q22 fun kd => QI (Q9Q Q22) fun rg => QI (Q9Q (Qcs k)) fun l => Q4e) r e h
theorem nz_ins : ENZ (Q3G n) := QI Q22 fun _ => QI (Q9Q Q22) fun _ => QI (Q9Q Q22) fun _ => QI (Q9Q Q22) fun _ => QI (Q9Q Q22) fun _ => QI (Q9Q Q22) fun _ => QI (Q9Q Qd8) fun _ => QI (Q9Q Qd8) fun _ => Q4e
theorem nz_to : ENZ (rdTo n) := QI Q22 fun _ => QI Qd8 fun _ => QI Qd8 fun _ => Q4e
theorem nz_end : ENZ (Q20 n) := QI Q22 fun _ => QI (Q9Q Q22) fun _ => QI (Q9Q nz_to) fun _ => QI (Q9Q nz_to) fun _ => QI (Q9Q Qd8) fun _ => Q4e
theorem nz_block : ENZ (Q1c n) := QI Q22 fun _ => QI (Qcs 6) fun _ => QI (Qd7 nz_ins) fun _ => QI nz_end fun _ => Q4e
theorem nz_fun : ENZ (Q2q n) := QI Q22 fun _ => QI (Qcs 6) fun _ => QI (Qcs 6) fun _ => QI (Qd7 nz_block) fun _ => Q4e
theorem nz_mod : ENZ (Qd2 n) := Qd7 nz_fun
end
theorem Ql1 {bs : List UInt8} {e : Flt} (h : decode bs = .error e) : e.1 ≠ 0 := by
  unfold decode at h
  split at h
  · cases h; exact (by decide : (5 : Int) ≠ 0)
  split at h
  · cases h; exact (by decide : (2 : Int) ≠ 0)
  split at h
  · cases h; exact (by decide : (4 : Int) ≠ 0)
  split at h
  · cases h; exact (by decide : (16 : Int) ≠ 0)
  split at h
  · rename_i e' he; cases h; exact nz_mod _ _ he
  · split at h
    · cases h; exact (by decide : (4 : Int) ≠ 0)
    · split at h
      · cases h; exact (by decide : (3 : Int) ≠ 0)
      · cases h
/-- What QhM tells, by cases. -/
theorem QkY {m : Module} {bs : List UInt8} (h : QhM m = .ok bs) : m.fault.1 = 0 ∧ m.body.length + 4 ≤ 20000 ∧ bs = m.body ++ sumB (Q2g m.body) := by
  unfold QhM at h
  split at h; · cases h
  split at h; · cases h
  exact ⟨by omega, by omega, by cases h; rfl⟩
end Go.Lir
namespace Go.Lir
section
variable {P : Program} {l : List GO} {Q : QT} {ρ : Env} {w : World}
theorem s_seqb {d T : Nat} {x y : Operand} {a b : List UInt8} (hx : ρ.ev x = .string ⟨a.toArray⟩) (hy : ρ.ev y = .string ⟨b.toArray⟩)
    (h : Q3 P l Q (upd ρ d (.bool (decide (a = b)))) w) : Q3 P (⟨none, .bin d .eql T x y⟩ :: l) Q ρ w :=
  ⟨_, fun w0 => by
    rw [hx, hy]
    have e : ∀ c : List UInt8, (⟨c.toArray⟩ : ByteArray).toList = c := fun c => Lib.toList_data _
    have e2 : (a == b) = decide (a = b) := by by_cases h : a = b <;> simp [h]
    simp [eqGuard, binOp, Op.stringOp, e, e2], h⟩
end
end Go.Lir
namespace Go.Proofs.Ytanlkfeogoganaa
open Go.Lir
set_option maxHeartbeats 1000000
attribute [local irreducible] LC.wp Q3 Qz QM retQ Q1x LO.wp Qf Calls
set_option linter.unusedSimpArgs false
set_option linter.unusedVariables false
variable {cx : Cx} {w : World} {L : List Res}
theorem sameb_c {a b : List UInt8} {v v2 : Value} (ha : u8R.sl cx v a) (hb : u8R.sl cx v2 b) (hS : St cx w L) : Rets Try.prog Qel [v, v2] w fun u w' => u = .bool (decide (a = b)) ∧ St cx w' L := by
  all_goals refine Qfq ?_
  all_goals (unfold R_SameBytes_lc; refine Q0 ?_; refine Q1 ?_; refine zm ?_; refine zn ?_; refine Q0 ?_; refine Q1 ?_; refine zm ?_; refine Qg5 (e := 5) (by kernel_rfl) (by kernel_rfl) (by kernel_rfl) hS rfl ha ?_; refine zm ?_; refine Qg5 (e := 5) (by kernel_rfl) (by kernel_rfl) (by kernel_rfl) hS rfl hb ?_; refine s_seqb rfl rfl ?_; refine zm ?_; refine zn ?_; refine zr ?_; refine zf ?_; exact ⟨_, rfl, rfl, hS.sp⟩)
end Go.Proofs.Ytanlkfeogoganaa
namespace Go.Proofs.Ytanlkfeogoganaa
open Go.Lir
set_option maxHeartbeats 1000000
attribute [local irreducible] LC.wp Q3 Qz QM retQ Q1x LO.wp Qf Calls
set_option linter.unusedSimpArgs false
set_option linter.unusedVariables false
attribute [local irreducible] bitI IntKind.wrap Q3g rdLong rdMany QA mmap Q2q Q2g Module.fault Lir.decode sumB Module.enc Module.body
variable {cx : Cx} {w : World} {L : List Res}
/-- What was decoded has few parts, none of its lists is long, and it is encoded as those bytes. -/
theorem dec_enc {bs : List UInt8} {m : Module} (h : Lir.decode bs = .ok m) : m.fault.1 = 0 ∧ m.body.length + 4 ≤ 20000 ∧ bs = m.enc := by
  obtain ⟨h1, h2, h3⟩ := QkY (Qgl h)
  exact ⟨h1, h2, by rw [h3]; unfold Module.enc; rw [Ql4]⟩
theorem QhO {bs : List UInt8} {m : Module} (h : Lir.decode bs = .ok m) : m.Short := by
  have h' := h
  unfold Lir.decode at h
  split at h; · cases h
  split at h; · cases h
  split at h; · cases h
  split at h; · cases h
  split at h
  · cases h
  · rename_i h1 h2 h3 h4 l r he
    split at h; · cases h
    split at h; · cases h
    cases h
    exact Qb4 (by omega) he
theorem QiN {m : Module} {bs : List UInt8} {cs : List Value} {v : Value} (hr : m.InR) (hm : modR.at cx cs m) (hb : u8R.sl cx v bs) (hS : St cx w L) :
    Rets Try.prog QB [.agg ⟨cs⟩, v] w fun u w' => u = .bool true ∧ St cx w' L := by
  obtain ⟨vm, rfl, hfm⟩ := Q3o hm
  obtain ⟨am, nm, rfl⟩ := Rep.SR.shape hfm
  obtain ⟨ab, nb, rfl⟩ := Rep.SR.shape hb
  have hbl := hb.len
  have hle0 := St.refl hS
  all_goals refine Qck ?_
  all_goals (unfold Law_CodecBack_lc; refine Q0 ?_; refine Q1 ?_; refine zb hS ?_; intro p2 w1 hS; refine zm ?_; refine zn ?_; refine Q0 ?_; refine Q0 ?_; refine Q1 ?_; refine zR0 (c := Qi2 hS) (h := ?_); rintro v1 w1 ⟨rfl, hS⟩; refine Q2J rfl ?_; refine zn ?_)
  all_goals
    first
    | (refine Q5 rfl ?_ -- QB c0
       all_goals (refine Q0 ?_; refine Q1 ?_; refine zm ?_; refine zn ?_; refine zr ?_; refine zf ?_)
       all_goals (exact ⟨_, rfl, rfl, St.weak hS.sp hle9⟩))
    | (refine Q6 rfl ?_ -- QB c0
       all_goals refine zsk ?_)
  all_goals (refine Q0 ?_; refine Q0 ?_; refine Q1 ?_; refine zv hS ?_)
  all_goals (refine zR1 (c := QjK hm hS) (h := ?_); rintro v1 w1 ⟨b, rfl, hfw, hS⟩; cases b; have hfw := hfw rfl)
  all_goals (refine zm ?_; (first | refine s_gn rfl rfl ?_ | (refine s_gy rfl ?_; refine zm ?_)); (first | refine s_gn rfl rfl ?_ | (refine s_gy rfl ?_; refine zL ?_)))
  all_goals (first | refine s_gn rfl rfl ?_ | (refine s_gy rfl ?_; (first | (refine QZ ?_) | (refine Q1g ?_) | (refine Qg rfl rfl (fun hc => ?_) (fun hc => ?_)))))
  all_goals ((first | (refine zpt ?_) | (refine zpf ?_)); refine zn ?_)
  all_goals
    first
    | (refine Q5 rfl ?_ -- QB c1
       all_goals (refine Q0 ?_; refine Q1 ?_; refine zm ?_; refine zn ?_; refine zr ?_; refine zf ?_)
       all_goals ((first | exact ⟨_, rfl, rfl, St.weak hS.sp hle9⟩ | exact ⟨_, rfl, rfl, hS.sp⟩)))
    | (refine Q6 rfl ?_ -- QB c1
       all_goals refine zsk ?_)
  all_goals (refine Q0 ?_; refine Q1 ?_; refine zv hS ?_)
  all_goals (refine zR1 (c := Qji hfw (QcW hfw) hm hS) (h := ?_); rintro v1 w1 (⟨hF, rfl, hS⟩ | ⟨hF, hlen, rfl, hS⟩ | ⟨hF, hlen, ve, rfl, hve, hS⟩) <;> unfold fltV <;> have hle9 : cx.Le cx := hle0)
  all_goals (refine zm ?_; refine Q8P rfl rfl ?_; refine Q8P rfl rfl ?_; refine Qb hS ?_; intro p6 w1 hS; refine zm ?_; refine zsn hS ?_; intro w1 hS; have hS := hS.ns; refine zn ?_; refine Q0 ?_; refine Q0 ?_; refine Q1 ?_; refine Q2 rfl ?_; refine zl hS ?_)
  all_goals (first | (refine Q10 ?_) | (refine Q1p ?_))
  all_goals (refine zn ?_)
  all_goals
    first
    | (refine Q6 rfl ?_ -- QB c2
       all_goals refine zsk ?_)
    | (refine Q5 rfl ?_ -- QB c2
       all_goals (refine Q0 ?_; refine Q1 ?_; refine zm ?_)
       all_goals (obtain ⟨c2, hle2, hS2, hk2⟩ := St.freezeL (r := u8R) (hS.out (r := sl 5 1 ve (m.enc.map QF)) fd) (Q8N _) rfl (by rw [QiL]; omega); clear hS; have hS := hS2; simp only [List.eraseIdx_cons_zero, List.eraseIdx_cons_succ] at hS; refine zR1 (c := Qgq hk2 hS) (h := ?_); rintro v1 w1 (⟨e2, h5, rfl, hS⟩ | ⟨m2, c3, vf, h5, rfl, hle3, hm2, hS⟩); (cases (QfG (mod_ok (QcW hfw) hr hF) hF hlen).symm.trans h5); obtain rfl := Except.ok.inj ((QfG (mod_ok (QcW hfw) hr hF) hF hlen).symm.trans h5); have hle9 := hle2.trans hle3; have hm := hm.up hle9; have hb := hb.up hle9; have hm2' := hm2; obtain ⟨vf', e9, hf2⟩ := Q3o hm2; obtain rfl := List.cons.inj e9 |>.1; have ho2 := Rep.SR.oneC hf2)
       all_goals (refine zm ?_; refine Q8P rfl rfl ?_; refine Q8P rfl rfl ?_; refine Qb hS ?_; intro p7 w1 hS; refine Qb hS ?_; intro p8 w1 hS; refine zsn hS ?_; intro w1 hS; have hS := hS.ns; refine zsn hS ?_; intro w1 hS; have hS := hS.ns; refine zn ?_; refine Q0 ?_; refine Q1 ?_; refine Q2 rfl ?_; refine zl hS ?_)
       all_goals (first | (refine Q1F ?_) | (refine Q1G ?_))
       all_goals (refine zm ?_; (first | refine s_gn rfl rfl ?_ | (refine s_gy rfl ?_; refine zv hS ?_)); (first | refine s_gn rfl rfl ?_ | (refine s_gy rfl ?_; refine zv hS ?_)); (first | refine s_gn rfl rfl ?_ | (refine s_gy rfl ?_; refine zR2 (c := Qjv (x := m) (y := m) hm2 hm hS) (h := ?_); rintro v1 w1 ⟨rfl, hS⟩; rw [decide_eq_true (show m = m from rfl)])); (first | refine s_gn rfl rfl ?_ | (refine s_gy rfl ?_; refine Q2J rfl ?_)); (first | (refine zpt ?_) | (refine zpf ?_)); refine zn ?_)
       all_goals
         first
         | (refine Q5 rfl ?_ -- QB c3
            all_goals (refine Q0 ?_; refine Q1 ?_; refine zm ?_; refine zn ?_; refine zr ?_; refine zf ?_)
            all_goals (exact ⟨_, rfl, rfl, St.weak hS.sp hle9⟩))
         | (refine Q6 rfl ?_ -- QB c3
            all_goals refine zsk ?_))
  all_goals (refine Q0 ?_; refine Q1 ?_; refine zm ?_)
  all_goals (refine zR1 (c := Qgq hb hS) (h := ?_); rintro v1 w1 (⟨e2, h5, rfl, hS⟩ | ⟨m3, c4, vg, h5, rfl, hle4, hm3, hS⟩) <;> unfold fltV <;> first | (have hnz := Ql1 h5) | (have hle9 := hle9.trans hle4; have hb := hb.up hle4; obtain ⟨vf', e9, hf3⟩ := Q3o hm3; obtain rfl := List.cons.inj e9 |>.1; have ho3 := Rep.SR.oneC hf3; obtain ⟨hF3, hl3, hbs⟩ := dec_enc h5))
  all_goals (refine zm ?_; refine Q8P rfl rfl ?_; refine Q8P rfl rfl ?_; refine Qb hS ?_; intro p9 w1 hS; refine Qb hS ?_; intro p10 w1 hS; refine zsn hS ?_; intro w1 hS; have hS := hS.ns; refine zsn hS ?_; intro w1 hS; have hS := hS.ns; refine zn ?_; refine Q0 ?_; refine Q0 ?_; refine Q1 ?_; refine Q2 rfl ?_; refine zl hS ?_)
  all_goals (first | (refine Q1F ?_) | (refine Q1G ?_))
  all_goals (refine zn ?_)
  all_goals
    first
    | (refine Q6 rfl ?_ -- QB c4
       all_goals refine zsk ?_)
    | (refine Q5 rfl ?_ -- QB c4
       all_goals (refine Q0 ?_; refine Q1 ?_; refine zm ?_; refine zn ?_; refine zr ?_; refine zf ?_)
       all_goals (exact ⟨_, rfl, rfl, St.weak hS.sp hle9⟩))
  all_goals (refine Q0 ?_; refine Q1 ?_; refine zv hS ?_)
  all_goals (refine zR1 (c := Qjj (m := m3) (by omega) (QhO h5) hm3 hS) (h := ?_); rintro v1 w1 (⟨hG, rfl, hS⟩ | ⟨hG, hg2, rfl, hS⟩ | ⟨hG, hg2, vd, rfl, hvd, hS⟩); exact absurd hF3 hG; (exfalso; omega); unfold fltV; obtain ⟨c5, hle5, hS2, hk5⟩ := St.freezeL (r := u8R) hS (Q8N _) rfl (by rw [QiL]; omega); clear hS; have hS := hS2; have hle9 := hle9.trans hle5; have hb := hb.up hle5)
  all_goals (refine zm ?_; refine Q8P rfl rfl ?_; refine Q8P rfl rfl ?_; refine Qb hS ?_; intro p12 w1 hS; refine zm ?_; refine zsn hS ?_; intro w1 hS; have hS := hS.ns; refine zn ?_; refine Q0 ?_; refine Q1 ?_; refine Q2 rfl ?_; refine zl hS ?_)
  all_goals (refine Q10 ?_)
  all_goals (refine zm ?_; (first | refine s_gn rfl rfl ?_ | (refine s_gy rfl ?_; refine zm ?_)); (first | refine s_gn rfl rfl ?_ | (refine s_gy rfl ?_; refine zm ?_)); (first | refine s_gn rfl rfl ?_ | (refine s_gy rfl ?_; refine zR2 (c := sameb_c hk5 hb hS) (h := ?_); rintro v1 w1 ⟨rfl, hS⟩; rw [decide_eq_true hbs.symm])); refine zpt ?_; refine zm ?_; refine zn ?_; refine zr ?_; refine zf ?_; exact ⟨_, rfl, rfl, St.weak hS.sp hle9⟩)
end Go.Proofs.Ytanlkfeogoganaa
namespace Go.Proofs.Ytanlkfeogoganaa
open Go.Lir
theorem codecBack_rd {c : Array Value} {v : Value} {x : Module} {l : List UInt8} {w : World} (h1 : cModI.cod.rd w.heap c.toList x) (h2 : cBytes.cod.rd w.heap [v] l) : Rets Try.prog QB [.agg c, v] w fun v w' => v = .bool true ∧ Fr NF w w' := by
  obtain ⟨v1, e1, h3⟩ := cBytes.top h2
  obtain rfl : v = v1 := by cases e1; rfl
  obtain ⟨h4, h5⟩ := cModI.top h1
  exact (QiN h5 h4 h3 (St.top w)).mono fun _ _ ⟨h, h2⟩ => ⟨h, h2.fr⟩
end Go.Proofs.Ytanlkfeogoganaa
