/- Lemmas of the proof, part 5: what the functions of the program do (contracts), and what follows. -/
import Derived.Test.YtanlkfeogoganaaGreatZ2
import Derived.Test.YtanlkfeogoganaaGreatZ4
import Derived.Test.YtanlkfeogoganaaGreatProg
import Derived.Test.YtanlkfeogoganaaGreatZ1
namespace Go.Proofs.YtanlkfeogoganaaGreat
open Go.Lir
set_option maxHeartbeats 1000000
attribute [local irreducible] LC.wp Q5 QN Q11 retQ Q1T LO.wp Qr Calls
set_option linter.unusedSimpArgs false
set_option linter.unusedVariables false
attribute [local irreducible] bitI IntKind.wrap Q3n rdU rmap rdLong Q7R Take Fine More
variable {cx : Cx} {w : World} {L : List Res}
theorem Q3p {bs : List UInt8} {rb at0 : Nat} {v : Value} {e0 : Flt} (hv : u8R.sl cx v bs) (hf : Fine bs at0 e0) (hS : St cx w (tkb rb v at0 e0 :: L)) :
    Rets Tryz.prog QdM [.pointer (some ⟨rb, 0, none⟩)] w fun u w' => ∃ n at1 e1, Take (rdLong bs.length) bs at0 e0 n at1 e1 ∧ u = .int .i64 n ∧ St cx w' (tkb rb v at1 e1 :: L) := by
  all_goals refine QhB ?_
  all_goals (unfold R_taking_int_lc; refine Q0 ?_; refine Q1 ?_; refine zm ?_; refine zn ?_; refine Q0 ?_; refine Q1 ?_; refine zm ?_; refine zR1 (c := Qmu hv hf hS) (h := ?_); rintro v1 w1 ⟨n, at1, e1, h1, rfl, hS⟩; refine zm ?_; refine zn ?_; refine zr ?_; refine zf ?_; exact ⟨_, rfl, n, at1, e1, h1, rfl, hS.sp⟩)
theorem Q4L {bs : List UInt8} {rb at0 : Nat} {v : Value} {e0 : Flt} (hv : u8R.sl cx v bs) (hf : Fine bs at0 e0) (hS : St cx w (tkb rb v at0 e0 :: L)) :
    Rets Tryz.prog Q2h [.pointer (some ⟨rb, 0, none⟩)] w fun u w' => ∃ (q : Nat) (at1 : Nat) (e1 : Flt), Take (Q7R bs.length) bs at0 e0 q at1 e1 ∧ q ≤ bs.length ∧ u = .int .i64 q ∧ St cx w' (tkb rb v at1 e1 :: L) := by
  have hbl := hv.len
  obtain ⟨va, vn, rfl⟩ := Rep.SR.shape hv
  all_goals refine Qd1 ?_
  all_goals (unfold R_taking_count_lc; refine Q0 ?_; refine Q1 ?_; refine zm ?_; refine zn ?_; refine Q0 ?_; refine Q1 ?_; refine zm ?_; refine Qv rfl ?_; refine Q2 rfl ?_; refine zl hS ?_; refine zm ?_; refine zn ?_; refine Q0 ?_; refine Q1 ?_; refine zm ?_)
  all_goals (refine zR1 (c := Qmu hv hf hS) (h := ?_); rintro v1 w1 ⟨n, at1, e1, h1, rfl, hS⟩; have hfn := h1.fine; unfold Fine at hfn; rcases hfn with hbad | ⟨rfl, ha1⟩)
  all_goals (refine zm ?_; refine zn ?_; refine Q0 ?_; refine Q0 ?_; refine zD [(0, none), (1, some none), (2, none), (3, none), (4, none), (5, none), (6, none), (7, none), (8, none), (9, none), (10, none), (11, none), (12, none), (13, none), (14, none), (15, none), (16, none), (17, none), (18, none), (19, some none)] ?_; have hS := hS.drew; refine zm ?_; refine zR1 (c := tkok_c hS fd) (h := ?_); rintro v1 w1 ⟨rfl, hS⟩; (first | rw [decide_eq_false hbad] | rw [decide_eq_true (show ((0, 0) : Flt).1 = 0 from rfl)]); refine zm ?_; (first | refine s_gn rfl rfl ?_ | (refine s_gy rfl ?_; refine zm ?_)))
  all_goals (first | refine s_gn rfl rfl ?_ | (refine s_gy rfl ?_; (first | (refine Q1Q ?_) | (refine Q1R ?_) | (refine QD rfl rfl (fun hc => ?_) (fun hc => ?_)))))
  all_goals ((first | refine s_gn rfl rfl ?_ | (refine s_gy rfl ?_; refine zm ?_)); (first | refine s_gn rfl rfl ?_ | (refine s_gy rfl ?_; refine zm ?_)); (first | refine s_gn rfl rfl ?_ | (refine s_gy rfl ?_; refine zm ?_)); (first | refine s_gn rfl rfl ?_ | (refine s_gy rfl ?_; refine Qv rfl ?_)); (first | refine s_gn rfl rfl ?_ | (refine s_gy rfl ?_; refine Q2 rfl ?_)); (first | refine s_gn rfl rfl ?_ | (refine s_gy rfl ?_; refine zl hS ?_)); (first | refine s_gn rfl rfl ?_ | (refine s_gy rfl ?_; refine zL ?_)); (first | refine s_gn rfl rfl ?_ | (refine s_gy rfl ?_; refine zm ?_)); (first | refine s_gn rfl rfl ?_ | (refine s_gy rfl ?_; refine Qv rfl ?_)); (first | refine s_gn rfl rfl ?_ | (refine s_gy rfl ?_; refine Q2 rfl ?_)); (first | refine s_gn rfl rfl ?_ | (refine s_gy rfl ?_; refine zl hS ?_)); (first | refine s_gn rfl rfl ?_ | (refine s_gy rfl ?_; refine zsu ?_)))
  all_goals (first | refine s_gn rfl rfl ?_ | (refine s_gy rfl ?_; (first | (refine QK ?_) | (refine QM ?_) | (refine Qi rfl rfl (fun hc => ?_) (fun hc => ?_)))))
  all_goals ((first | refine s_gn rfl rfl ?_ | (refine s_gy rfl ?_; (first | (refine zpt ?_) | (refine zpf ?_)))); (first | (refine zpt ?_) | (refine zpf ?_)); refine zn ?_)
  all_goals
    first
    | (refine Q3 rfl ?_ -- Q2h c0
       all_goals (refine Q1 ?_; refine zm ?_; refine zm ?_; refine zR3 (c := Qad hS) (h := ?_); rintro v1 w1 ⟨rfl, hS⟩; rw [if_pos rfl] at hS)
       all_goals refine zn ?_)
    | (refine Q4 rfl ?_ -- Q2h c0
       all_goals refine zsk ?_)
  all_goals (refine Q0 ?_; refine Q0 ?_; refine Q1 ?_; refine zm ?_; refine zR1 (c := tkok_c hS fd) (h := ?_); rintro v1 w1 ⟨rfl, hS⟩; (first | rw [decide_eq_false hbad] | rw [decide_eq_true (show ((0, 0) : Flt).1 = 0 from rfl)] | rw [decide_eq_false (show ¬ ((2, (at0 : Int)) : Flt).1 = 0 from (by decide : ¬ (2 : Int) = 0))]); refine Q2b rfl ?_; refine zn ?_)
  all_goals
    first
    | (refine Q3 rfl ?_ -- Q2h c1
       all_goals (refine Q0 ?_; refine Q1 ?_; refine zm ?_; refine zn ?_; refine zr ?_; refine zf ?_)
       all_goals ((first | exact ⟨_, rfl, 0, at1, e1, Qmv h1 (fun h => absurd h hbad) (fun h => absurd h hbad), by omega, rfl, hS.sp⟩ | exact ⟨_, rfl, 0, at1, (2, at0), Qpy h1 (by omega), by omega, rfl, hS.sp⟩)))
    | (refine Q4 rfl ?_ -- Q2h c1
       all_goals refine zsk ?_)
  all_goals (refine Q0 ?_; refine Q1 ?_; refine zm ?_; refine zm ?_; refine zn ?_; refine zr ?_; refine zf ?_)
  all_goals ((first | exact ⟨_, rfl, 0, at1, e1, Qmv h1 (fun h => absurd h hbad) (fun h => absurd h hbad), by omega, rfl, hS.sp⟩ | exact ⟨_, rfl, 0, at1, (2, at0), Qpy h1 (by omega), by omega, rfl, hS.sp⟩ | (obtain ⟨q, rfl⟩ : ∃ q : Nat, n = (q : Int) := ⟨n.toNat, by omega⟩; exact ⟨_, rfl, q, at1, (0, 0), Qmv h1 (fun _ => by omega) (fun _ => by omega), by omega, rfl, hS.sp⟩)))
theorem Qaf {bs : List UInt8} {rb at0 : Nat} {v : Value} {e0 : Flt} (hb : bs.length ≤ 100000) (hv : u8R.sl cx v bs) (hf : Fine bs at0 e0) (hS : St cx w (tkb rb v at0 e0 :: L)) :
    Rets Tryz.prog Q3W [.pointer (some ⟨rb, 0, none⟩)] w fun u w' => ∃ l at1 e1 c', Take (Q1Z bs.length) bs at0 e0 l at1 e1 ∧ l.length ≤ bs.length ∧ cx.Le c' ∧ intR.sl c' u l ∧ St c' w' (tkb rb v at1 e1 :: L) := by
  all_goals refine QeU ?_
  all_goals (unfold R_taking_ints_lc; refine Q0 ?_; refine Q1 ?_; refine zm ?_; refine zn ?_; refine Q0 ?_; refine Q1 ?_; refine zm ?_; refine zn ?_; refine Q0 ?_; refine Q1 ?_; refine zm ?_; refine zR1 (c := Q4L hv hf hS) (h := ?_); rintro v1 w1 ⟨q, at1, e1, h1, hq, rfl, hS⟩; refine zm ?_; refine zn ?_; refine Q0 ?_; refine Q0 ?_; refine Q1 ?_; refine zm ?_; refine zn ?_; refine Q8 ?_)
  refine zo [0, 4] (fun A ρ' w' => ∃ (j at2 : Nat) (e2 : Flt) (acc : List Int) (vb : Value) (cb : List (List Value)), Has ρ' A ∧ Has ρ' [(3, vb), (5, .int .i64 j)] ∧ (j ≤ q) ∧ (acc.length = j) ∧ (More (rdLong bs.length) bs at0 e0 acc (q - j) at2 e2) ∧ (intR.ls cx cb acc) ∧ (oneC vb = true) ∧ St cx w' (tkb rb v at2 e2 :: sl 3 1 vb cb :: L)) (fun ρ' _ => (q - iv (ρ' 5)).toNat) ?_ ?_
  · exact ⟨0, at1, e1, [], .slice none 0 0, [], zh, zh, (by omega), rfl, QpR h1, Rep.LR.nil _ _ _, rfl, by have hS := hS.nil (T := 3) (es := 1); exact hS.sp⟩
  rintro ρ w1 ⟨j, at2, e2, acc, vb, cb, hA, hρ, hj, hal, hM, hlb, hvb, hS⟩; obtain ⟨ρ, rfl⟩ := env2 hA hρ
  unfold Q5K
  all_goals (refine Q0 ?_; refine Q0 ?_; refine Q1 ?_; refine zm ?_; refine zm ?_)
  all_goals (first | (refine Q1Q ?_) | (refine Q1R ?_) | (refine QD rfl rfl (fun hc => ?_) (fun hc => ?_)))
  all_goals (refine zm ?_; (first | refine s_gn rfl rfl ?_ | (refine s_gy rfl ?_; refine zm ?_)))
  all_goals (first | refine s_gn rfl rfl ?_ | (refine s_gy rfl ?_; refine zR1 (c := Q5E hS) (h := ?_); rintro v1 w1 ⟨rfl, hS⟩; cases hq2 : decide (e2.1 = 0)))
  all_goals ((first | (refine zpt ?_) | (refine zpf ?_)); refine zn ?_)
  all_goals
    first
    | (refine Q4 rfl ?_ -- Q3W c0
       all_goals (refine zex ?_; have hT := Qaq hM (by first | exact .inl (by omega) | exact .inr (of_decide_eq_false hq2)); obtain ⟨c2, hle2, hS2, hk2⟩ := St.freezeL (r := intR) (hS.out (r := sl 3 1 vb cb) fd) hlb rfl (by omega); clear hS; have hS := hS2; simp only [List.eraseIdx_cons_zero, List.eraseIdx_cons_succ] at hS; refine Q0 ?_; refine Q1 ?_; refine zm ?_; refine zm ?_; refine zn ?_; refine zr ?_; refine zf ?_)
       all_goals (exact ⟨_, rfl, acc, at2, e2, c2, hT, by omega, hle2, hk2, hS.sp⟩))
    | (refine Q3 rfl ?_ -- Q3W c0
       all_goals (refine zsk ?_; refine Q0 ?_; refine Q8 ?_; refine Q1 ?_; refine zm ?_; refine zm ?_; refine zR1 (c := Q3p hv hM.fine hS) (h := ?_); rintro v1 w1 ⟨n, at3, e3, h3, rfl, hS⟩; have hM3 := QpQ (k := q - (j + 1)) (by rw [show q - (j + 1) + 1 = q - j by omega]; exact hM) h3; refine zB1 hS [_] ?_; intro b1 w1 hS; refine za Qtg u_T41 hS ?_; intro vp1 w1 css1 hls1 hv1 hS; have hS := hS.ns; refine zm ?_; refine zn ?_; refine Q1 ?_; refine zm ?_; refine zad ?_; refine zm ?_; refine zn ?_)
       all_goals (exact ⟨⟨j + 1, at3, e3, acc ++ [n], _, _, zh, zh, (by omega), by simp [hal], hM3, by assumption, by assumption, hS.sp⟩, Qh (by omega)⟩))
end Go.Proofs.YtanlkfeogoganaaGreat
namespace Go.Lir
section
variable {bs : List UInt8} {p0 p1 p2 p3 p4 p5 p6 p7 p8 : Nat} {e0 e1 e2 e3 e4 e5 e6 e7 e8 : Flt} {n : Nat}
theorem QrS (n k : Nat) : QO n (k + 1) = Q14 n (rdTy n k) := by funext r; exact Q6r n k r
theorem take_ty {k : Nat} {kd rg : Int} {l : List Ty} (h1 : Take (rdLong n) bs p0 e0 kd p1 e1) (h2 : Take (rdIf (kd ≠ 1) 0 (rdLong n)) bs p1 e1 rg p2 e2) (h3 : Take (rdIf (kd = 3) [] (QO n k)) bs p2 e2 l p3 e3) : Take (rdTy n k) bs p0 e0 (.mk kd rg l) p3 e3 :=
  QF h1 (QF h2 (QF h3 (Q36 h3.fine)))
theorem take_to {b : Int} {rs ars : List Int} (h1 : Take (rdLong n) bs p0 e0 b p1 e1) (h2 : Take (Q1Z n) bs p1 e1 rs p2 e2) (h3 : Take (Q1Z n) bs p2 e2 ars p3 e3) : Take (rdTo n) bs p0 e0 ⟨b, rs, ars⟩ p3 e3 :=
  QF h1 (QF h2 (QF h3 (Q36 h3.fine)))
theorem take_ins {op a b c k m : Int} {rs ars : List Int} (h0 : Take (rdLong n) bs p0 e0 op p1 e1) (h1 : Take (rdIf (Qo op / 2 ^ 0 % 2 = 1) 0 (rdLong n)) bs p1 e1 a p2 e2) (h2 : Take (rdIf (Qo op / 2 ^ 1 % 2 = 1) 0 (rdLong n)) bs p2 e2 b p3 e3)
    (h3 : Take (rdIf (Qo op / 2 ^ 2 % 2 = 1) 0 (rdLong n)) bs p3 e3 c p4 e4) (h4 : Take (rdIf (Qo op / 2 ^ 3 % 2 = 1) 0 (rdLong n)) bs p4 e4 k p5 e5) (h5 : Take (rdIf (Qo op / 64 % 2 = 1) 0 (rdLong n)) bs p5 e5 m p6 e6)
    (h6 : Take (rdIf (Qo op / 16 % 2 = 1) [] (Q1Z n)) bs p6 e6 rs p7 e7) (h7 : Take (rdIf (Qo op / 32 % 2 = 1) [] (Q1Z n)) bs p7 e7 ars p8 e8) : Take (Q4g n) bs p0 e0 ⟨op, a, b, c, k, m, rs, ars⟩ p8 e8 :=
  QF h0 (QF h1 (QF h2 (QF h3 (QF h4 (QF h5 (QF h6 (QF h7 (Q36 h7.fine))))))))
theorem QfO {op a : Int} {yes no : To} {ars : List Int} (h0 : Take (rdLong n) bs p0 e0 op p1 e1) (h1 : Take (rdIf (op = 2) 0 (rdLong n)) bs p1 e1 a p2 e2) (h2 : Take (rdIf (op = 1 ∨ op = 2) ⟨0, [], []⟩ (rdTo n)) bs p2 e2 yes p3 e3)
    (h3 : Take (rdIf (op = 2) ⟨0, [], []⟩ (rdTo n)) bs p3 e3 no p4 e4) (h4 : Take (rdIf (op = 3) [] (Q1Z n)) bs p4 e4 ars p5 e5) : Take (Q2q n) bs p0 e0 ⟨op, a, yes, no, ars⟩ p5 e5 :=
  QF h0 (QF h1 (QF h2 (QF h3 (QF h4 (Q36 h4.fine)))))
theorem Quo {op : Int} {yes : To} (h0 : Take (rdLong n) bs p0 e0 op p1 e1) (ho : op = 1) (h2 : Take (rdTo n) bs p1 e1 yes p2 e2) : Take (Q2q n) bs p0 e0 ⟨op, 0, yes, ⟨0, [], []⟩, []⟩ p2 e2 :=
  QfO h0 (Q27 (by omega) h0.fine) (Q2j (.inl ho) h2) (Q27 (by omega) h2.fine) (Q27 (by omega) h2.fine)
theorem Qun {op a : Int} {yes no : To} (h0 : Take (rdLong n) bs p0 e0 op p1 e1) (ho : op = 2) (h1 : Take (rdLong n) bs p1 e1 a p2 e2) (h2 : Take (rdTo n) bs p2 e2 yes p3 e3) (h3 : Take (rdTo n) bs p3 e3 no p4 e4) : Take (Q2q n) bs p0 e0 ⟨op, a, yes, no, []⟩ p4 e4 :=
  QfO h0 (Q2j ho h1) (Q2j (.inr ho) h2) (Q2j ho h3) (Q27 (by omega) h3.fine)
theorem Qum {op : Int} {ars : List Int} (h0 : Take (rdLong n) bs p0 e0 op p1 e1) (ho : op = 3) (h1 : Take (Q1Z n) bs p1 e1 ars p2 e2) : Take (Q2q n) bs p0 e0 ⟨op, 0, ⟨0, [], []⟩, ⟨0, [], []⟩, ars⟩ p2 e2 :=
  QfO h0 (Q27 (by omega) h0.fine) (Q27 (by omega) h0.fine) (Q27 (by omega) h0.fine) (Q2j ho h1)
theorem Qup {op : Int} (h0 : Take (rdLong n) bs p0 e0 op p1 e1) (h1 : op ≠ 1) (h2 : op ≠ 2) (h3 : op ≠ 3) : Take (Q2q n) bs p0 e0 ⟨op, 0, ⟨0, [], []⟩, ⟨0, [], []⟩, []⟩ p1 e1 :=
  QfO h0 (Q27 h2 h0.fine) (Q27 (by omega) h0.fine) (Q27 h2 h0.fine) (Q27 h3 h0.fine)
theorem Q7C {rg : Int} {ps : List Ty} {code : List Ins} {fin : Tail} (h0 : Take (rdLong n) bs p0 e0 rg p1 e1) (h1 : Take (QO n 6) bs p1 e1 ps p2 e2) (h2 : Take (Q14 n (Q4g n)) bs p2 e2 code p3 e3) (h3 : Take (Q2q n) bs p3 e3 fin p4 e4) : Take (Q1I n) bs p0 e0 ⟨rg, ps, code, fin⟩ p4 e4 :=
  QF h0 (QF h1 (QF h2 (QF h3 (Q36 h3.fine))))
theorem take_fun {rg : Int} {ps rs : List Ty} {bl : List Block} (h0 : Take (rdLong n) bs p0 e0 rg p1 e1) (h1 : Take (QO n 6) bs p1 e1 ps p2 e2) (h2 : Take (QO n 6) bs p2 e2 rs p3 e3) (h3 : Take (Q14 n (Q1I n)) bs p3 e3 bl p4 e4) : Take (Q3U n) bs p0 e0 ⟨rg, ps, rs, bl⟩ p4 e4 :=
  QF h0 (QF h1 (QF h2 (QF h3 (Q36 h3.fine))))
theorem Quq (hf : Fine bs p0 e0) {l : List Ty} : Take (QO bs.length 0) bs p0 e0 l p0 (if e0.1 = 0 then (19, (p0 : Int)) else e0) := by
  rcases hf with h | ⟨rfl, h⟩
  · rw [if_neg h]; exact Q7D h
  · rw [if_pos rfl]
    exact Q4k h (by rw [QO, Qaw h]) (by show (19 : Int) ≠ 0; decide)
theorem deep_ne {e : Flt} {x : Int} : (if e.1 = 0 then ((19, x) : Flt) else e).1 ≠ 0 := by
  split
  · exact (by decide : (19 : Int) ≠ 0)
  · assumption
theorem cnt_bad {α : Type} {f : List UInt8 → Got α} {q : Nat} {a : α} (h : Take f bs p0 e0 a p1 e1) (hb : e1.1 ≠ 0) (h2 : Take (Q7R n) bs p1 e1 q p2 e2) : e2 = e1 := by
  rcases h2 with ⟨_, rfl⟩ | ⟨rfl, _⟩
  · rfl
  · exact absurd rfl hb
end
end Go.Lir
namespace Go.Proofs.YtanlkfeogoganaaGreat
open Go.Lir
set_option maxHeartbeats 1000000
attribute [local irreducible] LC.wp Q5 QN Q11 retQ Q1T LO.wp Qr Calls
set_option linter.unusedSimpArgs false
set_option linter.unusedVariables false
attribute [local irreducible] bitI IntKind.wrap Q3n rdU rmap rdLong Q7R Take Fine More QO rdTy Q1Z
variable {cx : Cx} {w : World} {L : List Res}
def TkT (bs : List UInt8) (rb : Nat) (v : Value) (k : Nat) : Prop := ∀ (cx : Cx) (w : World) (L : List Res) (d : Int) (at0 : Nat) (e0 : Flt), 0 ≤ d → d + k = 6 → u8R.sl cx v bs → Fine bs at0 e0 → St cx w (tkb rb v at0 e0 :: L) →
  Rets Tryz.prog Q1g [.pointer (some ⟨rb, 0, none⟩), .int .i64 d] w fun u w' => ∃ l at1 e1 c', Take (QO bs.length k) bs at0 e0 l at1 e1 ∧ l.length ≤ bs.length ∧ cx.Le c' ∧ tyR.sl c' u l ∧ St c' w' (tkb rb v at1 e1 :: L)
theorem Quj {bs : List UInt8} {rb k : Nat} {v : Value} (hb : bs.length ≤ 100000) (hrec : TkT bs rb v k) : TkT bs rb v (k + 1) := by
  intro cx w L d at0 e0 h0 hd hv hf hS
  have hle := St.refl hS
  rw [QrS]
  all_goals refine Q54 ?_
  all_goals (unfold R_taking_types_lc; refine Q0 ?_; refine Q1 ?_; refine zm ?_; refine zn ?_; refine Q0 ?_; refine Q0 ?_; refine Q1 ?_; refine zm ?_)
  all_goals (first | (refine QK ?_) | (refine QM ?_))
  all_goals (refine zn ?_)
  all_goals
    first
    | (refine Q3 rfl ?_ -- Q1g c0
       all_goals (refine Q1 ?_; refine zm ?_; refine zm ?_; refine Qv rfl ?_; refine Q2 rfl ?_; refine zl hS ?_; fail "no contract of Q2S")
       all_goals refine zn ?_)
    | (refine Q4 rfl ?_ -- Q1g c0
       all_goals refine zsk ?_)
  all_goals (refine Q0 ?_; refine Q1 ?_; refine zm ?_; refine zn ?_; refine Q0 ?_; refine Q1 ?_; refine zm ?_; refine zR1 (c := Q4L hv hf hS) (h := ?_); rintro v1 w1 ⟨q, at1, e1, h1, hq, rfl, hS⟩; refine zm ?_; refine zn ?_; refine Q0 ?_; refine Q0 ?_; refine Q1 ?_; refine zm ?_; refine zn ?_; refine Q8 ?_)
  refine zo [0, 1, 6] (fun A ρ' w' => ∃ (k0 : Cx) (j at2 : Nat) (e2 : Flt) (acc : List Ty) (vb : Value) (cb : List (List Value)), Has ρ' A ∧ Has ρ' [(5, vb), (7, .int .i64 j)] ∧ (cx.Le k0) ∧ (j ≤ q) ∧ (acc.length = j) ∧ (More (rdTy bs.length k) bs at0 e0 acc (q - j) at2 e2) ∧ (tyR.ls k0 cb acc) ∧ (oneC vb = true) ∧ St k0 w' (tkb rb v at2 e2 :: sl 112 3 vb cb :: L)) (fun ρ' _ => (q - iv (ρ' 7)).toNat) ?_ ?_
  · exact ⟨cx, 0, at1, e1, [], .slice none 0 0, [], zh, zh, St.refl hS, (by omega), rfl, QpR h1, Rep.LR.nil _ _ _, rfl, by have hS := hS.nil (T := 112) (es := 3); exact hS.sp⟩
  rintro ρ w1 ⟨k0, j, at2, e2, acc, vb, cb, hA, hρ, hle2, hj, hal, hM, hlb, hvb, hS⟩; obtain ⟨ρ, rfl⟩ := env2 hA hρ; have hL0 := hle2; (try have hle := hle.trans hle2); (try have hv := hv.up hle2)
  unfold Q3u
  all_goals (refine Q0 ?_; refine Q0 ?_; refine Q1 ?_; refine zm ?_; refine zm ?_)
  all_goals (first | (refine Q1Q ?_) | (refine Q1R ?_) | (refine QD rfl rfl (fun hc => ?_) (fun hc => ?_)))
  all_goals (refine zm ?_; (first | refine s_gn rfl rfl ?_ | (refine s_gy rfl ?_; refine zm ?_)))
  all_goals (first | refine s_gn rfl rfl ?_ | (refine s_gy rfl ?_; refine zR1 (c := Q5E hS) (h := ?_); rintro v1 w1 ⟨rfl, hS⟩; cases hq2 : decide (e2.1 = 0)))
  all_goals ((first | (refine zpt ?_) | (refine zpf ?_)); refine zn ?_)
  all_goals
    first
    | (refine Q3 rfl ?_ -- Q1g c1
       all_goals (refine zsk ?_; refine Q0 ?_; refine Q8 ?_; refine Q0 ?_; refine Q1 ?_; refine zm ?_; refine zR1 (c := Q3p hv hM.fine hS) (h := ?_); rintro v1 w1 ⟨kd, at3, e3, h3, rfl, hS⟩; refine zb1 [_, _, _] ?_; refine Qb hS ?_; intro p8 w1 hS; refine zsn hS ?_; intro w1 hS; have hS := hS.ns; refine zn ?_)
       refine zM [0, 1, 5, 6, 7, 8] (fun A ρ' w' => ∃ (g : Int) (at4 : Nat) (e4 : Flt), Has ρ' A ∧ Has ρ' [] ∧ (Take (rdIf (kd ≠ 1) 0 (rdLong bs.length)) bs at3 e3 g at4 e4) ∧ St k0 w' (tkb rb v at4 e4 :: blk p8 112 [.int .i64 kd, .int .i64 g, .slice none 0 0] :: sl 112 3 vb cb :: L)) ?_ ?_
       · skip
         all_goals (refine Q0 ?_; refine Q1 ?_; refine Q2 rfl ?_; refine zl hS ?_)
         all_goals (first | (refine Q1c ?_) | (refine Q1d ?_) | (refine Qp rfl rfl (fun hc => ?_) (fun hc => ?_)))
         all_goals (refine zn ?_)
         all_goals
           first
           | (refine Q3 rfl ?_ -- Q1g c2
              all_goals (refine Q1 ?_; refine zm ?_; have hS : St k0 _ (tkb rb v at3 e3 :: blk p8 112 [.int .i64 kd, .int .i64 0, .slice none 0 0] :: sl 112 3 vb cb :: L) := hS.sp; refine zR1 (c := Q3p hv h3.fine hS) (h := ?_); rintro v1 w1 ⟨g, at4, e4, h4, rfl, hS⟩; refine Q2 rfl ?_; refine zst hS ?_; intro w1 hS; have hS := hS.ns)
              all_goals refine zn ?_)
           | (refine Q4 rfl ?_ -- Q1g c2
              all_goals refine zsk ?_)
         all_goals ((first | (exact ⟨g, at4, e4, zh, zh, Q2j (by omega) h4, hS.sp⟩) | (exact ⟨0, at3, e3, zh, zh, Q27 (by omega) h3.fine, hS.sp⟩)))
       rintro ρ w1 ⟨g, at4, e4, hA, hρ, h4, hS⟩; obtain ⟨ρ, rfl⟩ := env2 hA hρ
       have hJ12 := St.refl hS
       refine zM [0, 1, 5, 6, 7, 8] (fun A ρ' w' => ∃ (k12 : Cx) (vl : Value) (lt : List Ty) (at5 : Nat) (e5 : Flt), Has ρ' A ∧ Has ρ' [] ∧ (k0.Le k12) ∧ (Take (rdIf (kd = 3) [] (QO bs.length k)) bs at4 e4 lt at5 e5) ∧ (tyR.sl k12 vl lt) ∧ St k12 w' (tkb rb v at5 e5 :: blk p8 112 [.int .i64 kd, .int .i64 g, vl] :: sl 112 3 vb cb :: L)) ?_ ?_
       · skip
         all_goals (refine Q0 ?_; refine Q1 ?_; refine Q2 rfl ?_; refine zl hS ?_)
         all_goals (first | (refine Qy ?_) | (refine QC ?_) | (refine Qn rfl rfl (fun hc => ?_) (fun hc => ?_)))
         all_goals (refine zm ?_; (first | refine s_gn rfl rfl ?_ | (refine s_gy rfl ?_; refine zm ?_)))
         all_goals (first | refine s_gn rfl rfl ?_ | (refine s_gy rfl ?_; refine zR1 (c := Q5E hS) (h := ?_); rintro v1 w1 ⟨rfl, hS⟩; cases hq4 : decide (e4.1 = 0)))
         all_goals ((first | (refine zpt ?_) | (refine zpf ?_)); refine zn ?_)
         all_goals
           first
           | (refine Q3 rfl ?_ -- Q1g c3
              all_goals (refine Q1 ?_; refine zm ?_; refine zm ?_; refine zad ?_)
              all_goals (refine zR2 (c := hrec _ _ _ (d + 1) at4 e4 (by omega) (by omega) hv h4.fine hS) (h := ?_); rintro v1 w1 ⟨lt, at5, e5, c5, h5, h6, hle2, hkl, hS⟩; (try have hle := hle.trans hle2); (try have hL0 := hL0.trans hle2); (try have hJ12 := hJ12.trans hle2); (try have hv := hv.up hle2); (try have hlb := hlb.up hle2); have ho := Rep.SR.oneC hkl)
              all_goals (refine Q2 rfl ?_; refine zst hS ?_; intro w1 hS; have hS := hS.ns)
              all_goals refine zn ?_)
           | (refine Q4 rfl ?_ -- Q1g c3
              all_goals refine zsk ?_)
         all_goals ((first | (exact ⟨_, _, lt, at5, e5, zh, zh, hJ12, Q2j (by omega) h5, hkl, hS.sp⟩) | (exact ⟨_, _, [], at4, e4, zh, zh, hJ12, (by first | exact Q27 (by omega) h4.fine | exact Q7D (of_decide_eq_false hq4)), Rep.SR.nil _ _ _, hS.sp⟩)))
       rintro ρ w1 ⟨k12, vl, lt, at5, e5, hA, hρ, hle2, h5, hkl, hS⟩; obtain ⟨ρ, rfl⟩ := env2 hA hρ; (try have hle := hle.trans hle2); (try have hL0 := hL0.trans hle2); (try have hJ12 := hJ12.trans hle2); (try have hv := hv.up hle2); (try have hlb := hlb.up hle2)
       all_goals (have hd9 : tyR.at k12 [.int .i64 kd, .int .i64 g, vl] (.mk kd g lt) := QsU hkl; have hM5 := QpQ (k := q - (j + 1)) (by rw [show q - (j + 1) + 1 = q - j by omega]; exact hM) (take_ty h3 h4 h5); refine Q1 ?_; refine zm ?_; refine zv hS ?_; refine zB1 hS [_, _, _] ?_; intro b1 w1 hS; refine za Qvo u_T50 hS ?_; intro vp1 w1 css1 hls1 hv1 hS; have hS := hS.ns; refine zm ?_; refine zn ?_; refine Q1 ?_; refine zm ?_; refine zad ?_; refine zm ?_; refine zn ?_)
       all_goals (exact ⟨⟨_, j + 1, at5, e5, acc ++ [.mk kd g lt], _, _, zh, zh, hL0, (by omega), by simp [hal], hM5, by assumption, by assumption, hS.sp⟩, Qh (by omega)⟩))
    | (refine Q4 rfl ?_ -- Q1g c1
       all_goals (refine zex ?_; have hT := Qaq hM (by first | exact .inl (by omega) | exact .inr (of_decide_eq_false hq2)); obtain ⟨c2, hle2, hS2, hk2⟩ := St.freezeL (r := tyR) (hS.out (r := sl 112 3 vb cb) fd) hlb rfl (by omega); clear hS; have hS := hS2; simp only [List.eraseIdx_cons_zero, List.eraseIdx_cons_succ] at hS; refine Q0 ?_; refine Q1 ?_; refine zm ?_; refine zm ?_; refine zn ?_; refine zr ?_; refine zf ?_)
       all_goals (exact ⟨_, rfl, acc, at2, e2, c2, hT, by omega, hle.trans hle2, hk2, hS.sp⟩))
theorem Qui {bs : List UInt8} {rb : Nat} {v : Value} : TkT bs rb v 0 := by
  intro cx w L d at0 e0 h0 hd hv hf hS
  have hbl := hv.len
  obtain ⟨va, vn, rfl⟩ := Rep.SR.shape hv
  have hle := St.refl hS
  have hT := Quq (l := []) hf
  obtain ⟨e, he⟩ : ∃ e : Flt, (if e0.1 = 0 then ((19, (at0 : Int)) : Flt) else e0) = e := ⟨_, rfl⟩
  have hbad : e.1 ≠ 0 := by rw [← he]; exact deep_ne
  rw [he] at hT
  all_goals refine Q54 ?_
  all_goals (unfold R_taking_types_lc; refine Q0 ?_; refine Q1 ?_; refine zm ?_; refine zn ?_; refine Q0 ?_; refine Q0 ?_; refine Q1 ?_; refine zm ?_)
  all_goals (refine QK ?_)
  all_goals (refine zn ?_)
  all_goals refine Q3 rfl ?_
  all_goals (refine Q1 ?_; refine zm ?_; refine zm ?_; refine Qv rfl ?_; refine Q2 rfl ?_; refine zl hS ?_; refine zR3 (c := Qad hS) (h := ?_); rintro v1 w1 ⟨rfl, hS⟩; rw [he] at hS; refine zn ?_; refine Q0 ?_; refine Q1 ?_; refine zm ?_; refine zn ?_; refine Q0 ?_; refine Q1 ?_; refine zm ?_; refine zR1 (c := Q4L hv hT.fine hS) (h := ?_); rintro v1 w1 ⟨q, at1, e1, h1, hq, rfl, hS⟩; have e9 := cnt_bad hT hbad h1; rw [e9] at hS; refine zm ?_; refine zn ?_; refine Q0 ?_; refine Q0 ?_; refine Q1 ?_; refine zm ?_; refine zn ?_; refine Q8 ?_)
  refine zo [0, 1, 6] (fun A ρ' w' => ∃ (qb : Value) (j : Nat) (qc : Value), Has ρ' A ∧ Has ρ' [(5, qb), (7, .int .i64 j), (8, qc)] ∧ (qb = .slice none 0 0) ∧ St cx w' (tkb rb (.slice va bs.length vn) at1 e :: L)) (fun _ _ => 0) ?_ ?_
  · exact ⟨_, 0, _, zh, zh, rfl, hS.sp⟩
  rintro ρ w1 ⟨qb, j, qc, hA, hρ, hqb, hS⟩; obtain ⟨ρ, rfl⟩ := env2 hA hρ
  unfold Q3u
  all_goals (refine Q0 ?_; refine Q0 ?_; refine Q1 ?_; refine zm ?_; refine zm ?_)
  all_goals (first | (refine Q1Q ?_) | (refine Q1R ?_) | (refine QD rfl rfl (fun hc => ?_) (fun hc => ?_)))
  all_goals (refine zm ?_; (first | refine s_gn rfl rfl ?_ | (refine s_gy rfl ?_; refine zm ?_)); (first | refine s_gn rfl rfl ?_ | (refine s_gy rfl ?_; refine zR1 (c := Q5E hS) (h := ?_); rintro v1 w1 ⟨rfl, hS⟩; rw [decide_eq_false hbad])); (first | (refine zpt ?_) | (refine zpf ?_)); refine zn ?_)
  all_goals refine Q4 rfl ?_
  all_goals (refine zex ?_; refine Q0 ?_; refine Q1 ?_; refine zm ?_; refine zm ?_; refine zn ?_; refine zr ?_; refine zf ?_; subst hqb; exact ⟨_, rfl, [], at1, e, cx, hT.weak_at hbad, by simp, hle, Rep.SR.nil _ _ _, hS.sp⟩)
theorem Qae {bs : List UInt8} {rb : Nat} {v : Value} (hb : bs.length ≤ 100000) : ∀ k, TkT bs rb v k
  | 0 => Qui
  | k + 1 => Quj hb (Qae hb k)
theorem Quk {bs : List UInt8} {rb at0 : Nat} {v : Value} {e0 : Flt} (hb : bs.length ≤ 100000) (hv : u8R.sl cx v bs) (hf : Fine bs at0 e0) (hS : St cx w (tkb rb v at0 e0 :: L)) :
    Rets Tryz.prog Qhx [.pointer (some ⟨rb, 0, none⟩)] w fun u w' => ∃ t at1 e1 c' ds, Take (rdTo bs.length) bs at0 e0 t at1 e1 ∧ cx.Le c' ∧ u = .agg ⟨ds⟩ ∧ toR.at c' ds t ∧ t.Short ∧ St c' w' (tkb rb v at1 e1 :: L) := by
  have hle := St.refl hS
  all_goals refine Qke ?_
  all_goals (unfold R_taking_to_lc; refine Q0 ?_; refine Q1 ?_; refine Qb hS ?_; intro p2 w1 hS; refine zn ?_; refine Q0 ?_; refine Q1 ?_; refine zm ?_; have hS : St cx _ (tkb rb v at0 e0 :: _) := hS.mv1; refine zR1 (c := Q3p hv hf hS) (h := ?_); rintro v1 w1 ⟨b, at1, e1, h1, rfl, hS⟩; refine zb1 [_, _, _] ?_; refine Qb hS ?_; intro p3 w1 hS; refine zsn hS ?_; intro w1 hS; have hS := hS.ns; refine zn ?_; refine Q0 ?_; refine Q1 ?_; refine zm ?_)
  all_goals (have hS : St cx _ (tkb rb v at1 e1 :: blk p3 43 [.int .i64 b, .slice none 0 0, .slice none 0 0] :: blk p2 43 [.int .i64 0, .slice none 0 0, .slice none 0 0] :: L) := hS.sp; refine zR1 (c := Qaf hb hv h1.fine hS) (h := ?_); rintro v1 w1 ⟨l1, at2, e2, c1, h2, hl1, hle2, hk1, hS⟩; (try have hle := hle.trans hle2); (try have hv := hv.up hle2); have ho1 := Rep.SR.oneC hk1)
  all_goals (refine Q2 rfl ?_; refine zst hS ?_; intro w1 hS; have hS := hS.ns; refine zn ?_; refine Q0 ?_; refine Q1 ?_; refine zm ?_)
  all_goals (have hS : St c1 _ (tkb rb v at2 e2 :: blk p3 43 [.int .i64 b, v1, .slice none 0 0] :: blk p2 43 [.int .i64 0, .slice none 0 0, .slice none 0 0] :: L) := hS.sp; refine zR1 (c := Qaf hb hv h2.fine hS) (h := ?_); rintro v2 w1 ⟨l2, at3, e3, c2, h3, hl2, hle2, hk2, hS⟩; (try have hle := hle.trans hle2); (try have hk1 := hk1.up hle2); (try have hv := hv.up hle2); have ho2 := Rep.SR.oneC hk2; have ho1 := Rep.SR.oneC hk1)
  all_goals (refine Q2 rfl ?_; refine zst hS ?_; intro w1 hS; have hS := hS.ns; refine zn ?_; refine Q0 ?_; have hd9 : toR.at c2 [.int .i64 b, v1, v2] ⟨b, l1, l2⟩ := ⟨_, _, rfl, hk1, hk2⟩; refine Q1 ?_; refine zv hS ?_; refine zsn hS ?_; intro w1 hS; have hS := hS.ns; refine zn ?_; refine zr ?_; refine Q20 vw (Q9 (n := 3) (by kernel_rfl) (by kernel_rfl) (hS.blkAt fd) (by rfl) (by rfl)) ?_; exact ⟨_, rfl, _, at3, e3, c2, [.int .i64 b, v1, v2], take_to h1 h2 h3, hle, rfl, hd9, ⟨by show l1.length ≤ _; omega, by show l2.length ≤ _; omega⟩, hS.sp⟩)
end Go.Proofs.YtanlkfeogoganaaGreat
namespace Go.Proofs.YtanlkfeogoganaaGreat
open Go.Lir
set_option maxHeartbeats 1000000
attribute [local irreducible] LC.wp Q5 QN Q11 retQ Q1T LO.wp Qr Calls
set_option linter.unusedSimpArgs false
set_option linter.unusedVariables false
attribute [local irreducible] bitI IntKind.wrap Q3n rdU rmap rdLong Q7R Take Fine More QO rdTy Q1Z Qo
variable {cx : Cx} {w : World} {L : List Res}
theorem tkins_c {bs : List UInt8} {rb at0 : Nat} {v : Value} {e0 : Flt} (hb : bs.length ≤ 100000) (hv : u8R.sl cx v bs) (hf : Fine bs at0 e0) (hS : St cx w (tkb rb v at0 e0 :: L)) :
    Rets Tryz.prog QW [.pointer (some ⟨rb, 0, none⟩)] w fun u w' => ∃ x at1 e1 c' ds, Take (Q4g bs.length) bs at0 e0 x at1 e1 ∧ cx.Le c' ∧ u = .agg ⟨ds⟩ ∧ insR.at c' ds x ∧ x.Short ∧ St c' w' (tkb rb v at1 e1 :: L) := by
  have hle := St.refl hS
  all_goals refine QhM ?_
  all_goals (unfold R_taking_ins_lc; refine Q0 ?_; refine Q1 ?_; refine Qb hS ?_; intro p2 w1 hS; refine zn ?_; refine Q0 ?_; refine Q1 ?_; refine zm ?_; have hS : St cx _ (tkb rb v at0 e0 :: _) := hS.mv1; refine zR1 (c := Q3p hv hf hS) (h := ?_); rintro v1 w1 ⟨op, at1, e1, h1, rfl, hS⟩; obtain ⟨g0, g1, g2, g3, g4, g5, g6⟩ := QgE op; refine zb1 [_, _, _, _, _, _, _, _] ?_; refine Qb hS ?_; intro p3 w1 hS; refine zsn hS ?_; intro w1 hS; have hS := hS.ns; refine zn ?_; refine Q0 ?_; refine Q1 ?_; refine Q2 rfl ?_; refine zl hS ?_; refine zR1 (c := QmF hS) (h := ?_); rintro v2 w1 ⟨rfl, hS⟩; refine zm ?_; refine Q4N rfl rfl ?_; refine Q4N rfl rfl ?_; refine Qb hS ?_; intro p4 w1 hS; refine zsn hS ?_; intro w1 hS; have hS := hS.ns; refine zm ?_; refine zn ?_)
  refine zM [0, 2, 3, 4] (fun A ρ' w' => ∃ (a : Int) (at2 : Nat) (e2 : Flt), Has ρ' A ∧ Has ρ' [] ∧ (Take (rdIf (Qo op / 2 ^ 0 % 2 = 1) 0 (rdLong bs.length)) bs at1 e1 a at2 e2) ∧ St cx w' (tkb rb v at2 e2 :: blk p4 144 [.bool (fA op), .bool (fB op), .bool (fC op), .bool (fK op), .bool (fN op), .bool (fG op), .bool (fR op)] :: blk p3 57 [.int .i64 op, .int .i64 a, .int .i64 0, .int .i64 0, .int .i64 0, .int .i64 0, .slice none 0 0, .slice none 0 0] :: blk p2 57 [.int .i64 0, .int .i64 0, .int .i64 0, .int .i64 0, .int .i64 0, .int .i64 0, .slice none 0 0, .slice none 0 0] :: L)) ?_ ?_
  · skip
    all_goals (refine Q0 ?_; refine Q1 ?_; refine Q2 rfl ?_; refine zl hS ?_; refine zn ?_)
    all_goals (cases hq0 : fA op <;> rw [hq0] at hS)
    all_goals
      first
      | (refine Q3 rfl ?_ -- QW c0
         all_goals (refine Q1 ?_; refine zm ?_; have hS : St cx _ (tkb rb v at1 e1 :: blk p4 144 [.bool true, .bool (fB op), .bool (fC op), .bool (fK op), .bool (fN op), .bool (fG op), .bool (fR op)] :: blk p3 57 [.int .i64 op, .int .i64 0, .int .i64 0, .int .i64 0, .int .i64 0, .int .i64 0, .slice none 0 0, .slice none 0 0] :: blk p2 57 [.int .i64 0, .int .i64 0, .int .i64 0, .int .i64 0, .int .i64 0, .int .i64 0, .slice none 0 0, .slice none 0 0] :: L) := hS.sp; refine zR1 (c := Q3p hv h1.fine hS) (h := ?_); rintro v4 w1 ⟨z0, q0, y0, hz0, rfl, hS⟩; refine Q2 rfl ?_; refine zst hS ?_; intro w1 hS; have hS := hS.ns)
         all_goals refine zn ?_)
      | (refine Q4 rfl ?_ -- QW c0
         all_goals refine zsk ?_)
    all_goals ((first | (exact ⟨z0, q0, y0, zh, zh, Q2j (of_decide_eq_true (g0.symm.trans hq0)) hz0, hS.sp⟩) | (exact ⟨0, at1, e1, zh, zh, Q27 (of_decide_eq_false (g0.symm.trans hq0)) h1.fine, hS.sp⟩)))
  rintro ρ w1 ⟨a, at2, e2, hA, hρ, hT0, hS⟩; obtain ⟨ρ, rfl⟩ := env2 hA hρ
  refine zM [0, 2, 3, 4] (fun A ρ' w' => ∃ (b : Int) (at3 : Nat) (e3 : Flt), Has ρ' A ∧ Has ρ' [] ∧ (Take (rdIf (Qo op / 2 ^ 1 % 2 = 1) 0 (rdLong bs.length)) bs at2 e2 b at3 e3) ∧ St cx w' (tkb rb v at3 e3 :: blk p4 144 [.bool (fA op), .bool (fB op), .bool (fC op), .bool (fK op), .bool (fN op), .bool (fG op), .bool (fR op)] :: blk p3 57 [.int .i64 op, .int .i64 a, .int .i64 b, .int .i64 0, .int .i64 0, .int .i64 0, .slice none 0 0, .slice none 0 0] :: blk p2 57 [.int .i64 0, .int .i64 0, .int .i64 0, .int .i64 0, .int .i64 0, .int .i64 0, .slice none 0 0, .slice none 0 0] :: L)) ?_ ?_
  · skip
    all_goals (refine Q0 ?_; refine Q1 ?_; refine Q2 rfl ?_; refine zl hS ?_; refine zn ?_)
    all_goals (cases hq1 : fB op <;> rw [hq1] at hS)
    all_goals
      first
      | (refine Q3 rfl ?_ -- QW c1
         all_goals (refine Q1 ?_; refine zm ?_; have hS : St cx _ (tkb rb v at2 e2 :: blk p4 144 [.bool (fA op), .bool true, .bool (fC op), .bool (fK op), .bool (fN op), .bool (fG op), .bool (fR op)] :: blk p3 57 [.int .i64 op, .int .i64 a, .int .i64 0, .int .i64 0, .int .i64 0, .int .i64 0, .slice none 0 0, .slice none 0 0] :: blk p2 57 [.int .i64 0, .int .i64 0, .int .i64 0, .int .i64 0, .int .i64 0, .int .i64 0, .slice none 0 0, .slice none 0 0] :: L) := hS.sp; refine zR1 (c := Q3p hv hT0.fine hS) (h := ?_); rintro v4 w1 ⟨z1, q1, y1, hz1, rfl, hS⟩; refine Q2 rfl ?_; refine zst hS ?_; intro w1 hS; have hS := hS.ns)
         all_goals refine zn ?_)
      | (refine Q4 rfl ?_ -- QW c1
         all_goals refine zsk ?_)
    all_goals ((first | (exact ⟨z1, q1, y1, zh, zh, Q2j (of_decide_eq_true (g1.symm.trans hq1)) hz1, hS.sp⟩) | (exact ⟨0, at2, e2, zh, zh, Q27 (of_decide_eq_false (g1.symm.trans hq1)) hT0.fine, hS.sp⟩)))
  rintro ρ w1 ⟨b, at3, e3, hA, hρ, hT1, hS⟩; obtain ⟨ρ, rfl⟩ := env2 hA hρ
  refine zM [0, 2, 3, 4] (fun A ρ' w' => ∃ (c : Int) (at4 : Nat) (e4 : Flt), Has ρ' A ∧ Has ρ' [] ∧ (Take (rdIf (Qo op / 2 ^ 2 % 2 = 1) 0 (rdLong bs.length)) bs at3 e3 c at4 e4) ∧ St cx w' (tkb rb v at4 e4 :: blk p4 144 [.bool (fA op), .bool (fB op), .bool (fC op), .bool (fK op), .bool (fN op), .bool (fG op), .bool (fR op)] :: blk p3 57 [.int .i64 op, .int .i64 a, .int .i64 b, .int .i64 c, .int .i64 0, .int .i64 0, .slice none 0 0, .slice none 0 0] :: blk p2 57 [.int .i64 0, .int .i64 0, .int .i64 0, .int .i64 0, .int .i64 0, .int .i64 0, .slice none 0 0, .slice none 0 0] :: L)) ?_ ?_
  · skip
    all_goals (refine Q0 ?_; refine Q1 ?_; refine Q2 rfl ?_; refine zl hS ?_; refine zn ?_)
    all_goals (cases hq2 : fC op <;> rw [hq2] at hS)
    all_goals
      first
      | (refine Q3 rfl ?_ -- QW c2
         all_goals (refine Q1 ?_; refine zm ?_; have hS : St cx _ (tkb rb v at3 e3 :: blk p4 144 [.bool (fA op), .bool (fB op), .bool true, .bool (fK op), .bool (fN op), .bool (fG op), .bool (fR op)] :: blk p3 57 [.int .i64 op, .int .i64 a, .int .i64 b, .int .i64 0, .int .i64 0, .int .i64 0, .slice none 0 0, .slice none 0 0] :: blk p2 57 [.int .i64 0, .int .i64 0, .int .i64 0, .int .i64 0, .int .i64 0, .int .i64 0, .slice none 0 0, .slice none 0 0] :: L) := hS.sp; refine zR1 (c := Q3p hv hT1.fine hS) (h := ?_); rintro v4 w1 ⟨z2, q2, y2, hz2, rfl, hS⟩; refine Q2 rfl ?_; refine zst hS ?_; intro w1 hS; have hS := hS.ns)
         all_goals refine zn ?_)
      | (refine Q4 rfl ?_ -- QW c2
         all_goals refine zsk ?_)
    all_goals ((first | (exact ⟨z2, q2, y2, zh, zh, Q2j (of_decide_eq_true (g2.symm.trans hq2)) hz2, hS.sp⟩) | (exact ⟨0, at3, e3, zh, zh, Q27 (of_decide_eq_false (g2.symm.trans hq2)) hT1.fine, hS.sp⟩)))
  rintro ρ w1 ⟨c, at4, e4, hA, hρ, hT2, hS⟩; obtain ⟨ρ, rfl⟩ := env2 hA hρ
  refine zM [0, 2, 3, 4] (fun A ρ' w' => ∃ (k : Int) (at5 : Nat) (e5 : Flt), Has ρ' A ∧ Has ρ' [] ∧ (Take (rdIf (Qo op / 2 ^ 3 % 2 = 1) 0 (rdLong bs.length)) bs at4 e4 k at5 e5) ∧ St cx w' (tkb rb v at5 e5 :: blk p4 144 [.bool (fA op), .bool (fB op), .bool (fC op), .bool (fK op), .bool (fN op), .bool (fG op), .bool (fR op)] :: blk p3 57 [.int .i64 op, .int .i64 a, .int .i64 b, .int .i64 c, .int .i64 k, .int .i64 0, .slice none 0 0, .slice none 0 0] :: blk p2 57 [.int .i64 0, .int .i64 0, .int .i64 0, .int .i64 0, .int .i64 0, .int .i64 0, .slice none 0 0, .slice none 0 0] :: L)) ?_ ?_
  · skip
    all_goals (refine Q0 ?_; refine Q1 ?_; refine Q2 rfl ?_; refine zl hS ?_; refine zn ?_)
    all_goals (cases hq3 : fK op <;> rw [hq3] at hS)
    all_goals
      first
      | (refine Q3 rfl ?_ -- QW c3
         all_goals (refine Q1 ?_; refine zm ?_; have hS : St cx _ (tkb rb v at4 e4 :: blk p4 144 [.bool (fA op), .bool (fB op), .bool (fC op), .bool true, .bool (fN op), .bool (fG op), .bool (fR op)] :: blk p3 57 [.int .i64 op, .int .i64 a, .int .i64 b, .int .i64 c, .int .i64 0, .int .i64 0, .slice none 0 0, .slice none 0 0] :: blk p2 57 [.int .i64 0, .int .i64 0, .int .i64 0, .int .i64 0, .int .i64 0, .int .i64 0, .slice none 0 0, .slice none 0 0] :: L) := hS.sp; refine zR1 (c := Q3p hv hT2.fine hS) (h := ?_); rintro v4 w1 ⟨z3, q3, y3, hz3, rfl, hS⟩; refine Q2 rfl ?_; refine zst hS ?_; intro w1 hS; have hS := hS.ns)
         all_goals refine zn ?_)
      | (refine Q4 rfl ?_ -- QW c3
         all_goals refine zsk ?_)
    all_goals ((first | (exact ⟨z3, q3, y3, zh, zh, Q2j (of_decide_eq_true (g3.symm.trans hq3)) hz3, hS.sp⟩) | (exact ⟨0, at4, e4, zh, zh, Q27 (of_decide_eq_false (g3.symm.trans hq3)) hT2.fine, hS.sp⟩)))
  rintro ρ w1 ⟨k, at5, e5, hA, hρ, hT3, hS⟩; obtain ⟨ρ, rfl⟩ := env2 hA hρ
  refine zM [0, 2, 3, 4] (fun A ρ' w' => ∃ (m : Int) (at6 : Nat) (e6 : Flt), Has ρ' A ∧ Has ρ' [] ∧ (Take (rdIf (Qo op / 64 % 2 = 1) 0 (rdLong bs.length)) bs at5 e5 m at6 e6) ∧ St cx w' (tkb rb v at6 e6 :: blk p4 144 [.bool (fA op), .bool (fB op), .bool (fC op), .bool (fK op), .bool (fN op), .bool (fG op), .bool (fR op)] :: blk p3 57 [.int .i64 op, .int .i64 a, .int .i64 b, .int .i64 c, .int .i64 k, .int .i64 m, .slice none 0 0, .slice none 0 0] :: blk p2 57 [.int .i64 0, .int .i64 0, .int .i64 0, .int .i64 0, .int .i64 0, .int .i64 0, .slice none 0 0, .slice none 0 0] :: L)) ?_ ?_
  · skip
    all_goals (refine Q0 ?_; refine Q1 ?_; refine Q2 rfl ?_; refine zl hS ?_; refine zn ?_)
    all_goals (cases hq4 : fN op <;> rw [hq4] at hS)
    all_goals
      first
      | (refine Q3 rfl ?_ -- QW c4
         all_goals (refine Q1 ?_; refine zm ?_; have hS : St cx _ (tkb rb v at5 e5 :: blk p4 144 [.bool (fA op), .bool (fB op), .bool (fC op), .bool (fK op), .bool true, .bool (fG op), .bool (fR op)] :: blk p3 57 [.int .i64 op, .int .i64 a, .int .i64 b, .int .i64 c, .int .i64 k, .int .i64 0, .slice none 0 0, .slice none 0 0] :: blk p2 57 [.int .i64 0, .int .i64 0, .int .i64 0, .int .i64 0, .int .i64 0, .int .i64 0, .slice none 0 0, .slice none 0 0] :: L) := hS.sp; refine zR1 (c := Qmu hv hT3.fine hS) (h := ?_); rintro v4 w1 ⟨z4, q4, y4, hz4, rfl, hS⟩; refine Q2 rfl ?_; refine zst hS ?_; intro w1 hS; have hS := hS.ns)
         all_goals refine zn ?_)
      | (refine Q4 rfl ?_ -- QW c4
         all_goals refine zsk ?_)
    all_goals ((first | (exact ⟨z4, q4, y4, zh, zh, Q2j (of_decide_eq_true (g4.symm.trans hq4)) hz4, hS.sp⟩) | (exact ⟨0, at5, e5, zh, zh, Q27 (of_decide_eq_false (g4.symm.trans hq4)) hT3.fine, hS.sp⟩)))
  rintro ρ w1 ⟨m, at6, e6, hA, hρ, hT4, hS⟩; obtain ⟨ρ, rfl⟩ := env2 hA hρ
  have hJ15 := St.refl hS
  refine zM [0, 2, 3, 4] (fun A ρ' w' => ∃ (k15 : Cx) (vr : Value) (lr : List Int) (at7 : Nat) (e7 : Flt), Has ρ' A ∧ Has ρ' [] ∧ (cx.Le k15) ∧ (Take (rdIf (Qo op / 16 % 2 = 1) [] (Q1Z bs.length)) bs at6 e6 lr at7 e7) ∧ (intR.sl k15 vr lr) ∧ (lr.length ≤ bs.length) ∧ St k15 w' (tkb rb v at7 e7 :: blk p4 144 [.bool (fA op), .bool (fB op), .bool (fC op), .bool (fK op), .bool (fN op), .bool (fG op), .bool (fR op)] :: blk p3 57 [.int .i64 op, .int .i64 a, .int .i64 b, .int .i64 c, .int .i64 k, .int .i64 m, vr, .slice none 0 0] :: blk p2 57 [.int .i64 0, .int .i64 0, .int .i64 0, .int .i64 0, .int .i64 0, .int .i64 0, .slice none 0 0, .slice none 0 0] :: L)) ?_ ?_
  · skip
    all_goals (refine Q0 ?_; refine Q1 ?_; refine Q2 rfl ?_; refine zl hS ?_; refine zn ?_)
    all_goals (cases hq5 : fG op <;> rw [hq5] at hS)
    all_goals
      first
      | (refine Q3 rfl ?_ -- QW c5
         all_goals (refine Q1 ?_; refine zm ?_)
         all_goals (have hS : St cx _ (tkb rb v at6 e6 :: blk p4 144 [.bool (fA op), .bool (fB op), .bool (fC op), .bool (fK op), .bool (fN op), .bool true, .bool (fR op)] :: blk p3 57 [.int .i64 op, .int .i64 a, .int .i64 b, .int .i64 c, .int .i64 k, .int .i64 m, .slice none 0 0, .slice none 0 0] :: blk p2 57 [.int .i64 0, .int .i64 0, .int .i64 0, .int .i64 0, .int .i64 0, .int .i64 0, .slice none 0 0, .slice none 0 0] :: L) := hS.sp; refine zR1 (c := Qaf hb hv hT4.fine hS) (h := ?_); rintro v4 w1 ⟨z5, q5, y5, c4, hz5, hy5, hle2, hkr, hS⟩; (try have hle := hle.trans hle2); (try have hJ15 := hJ15.trans hle2); (try have hv := hv.up hle2); have ho := Rep.SR.oneC hkr)
         all_goals (refine Q2 rfl ?_; refine zst hS ?_; intro w1 hS; have hS := hS.ns)
         all_goals refine zn ?_)
      | (refine Q4 rfl ?_ -- QW c5
         all_goals refine zsk ?_)
    all_goals ((first | (exact ⟨_, _, z5, q5, y5, zh, zh, hJ15, Q2j (of_decide_eq_true (g5.symm.trans hq5)) hz5, hkr, by omega, hS.sp⟩) | (exact ⟨_, _, [], at6, e6, zh, zh, hJ15, Q27 (of_decide_eq_false (g5.symm.trans hq5)) hT4.fine, Rep.SR.nil _ _ _, by simp, hS.sp⟩)))
  rintro ρ w1 ⟨k15, vr, lr, at7, e7, hA, hρ, hle2, hT5, hkr, hs5, hS⟩; obtain ⟨ρ, rfl⟩ := env2 hA hρ; (try have hle := hle.trans hle2); (try have hJ15 := hJ15.trans hle2); (try have hv := hv.up hle2)
  have hJ17 := St.refl hS
  refine zM [2, 3] (fun A ρ' w' => ∃ (k17 : Cx) (va : Value) (la : List Int) (at8 : Nat) (e8 : Flt), Has ρ' A ∧ Has ρ' [] ∧ (k15.Le k17) ∧ (Take (rdIf (Qo op / 32 % 2 = 1) [] (Q1Z bs.length)) bs at7 e7 la at8 e8) ∧ (intR.sl k17 va la) ∧ (la.length ≤ bs.length) ∧ St k17 w' (tkb rb v at8 e8 :: blk p4 144 [.bool (fA op), .bool (fB op), .bool (fC op), .bool (fK op), .bool (fN op), .bool (fG op), .bool (fR op)] :: blk p3 57 [.int .i64 op, .int .i64 a, .int .i64 b, .int .i64 c, .int .i64 k, .int .i64 m, vr, va] :: blk p2 57 [.int .i64 0, .int .i64 0, .int .i64 0, .int .i64 0, .int .i64 0, .int .i64 0, .slice none 0 0, .slice none 0 0] :: L)) ?_ ?_
  · skip
    all_goals (refine Q0 ?_; refine Q1 ?_; refine Q2 rfl ?_; refine zl hS ?_; refine zn ?_)
    all_goals (cases hq6 : fR op <;> rw [hq6] at hS)
    all_goals
      first
      | (refine Q3 rfl ?_ -- QW c6
         all_goals (refine Q1 ?_; refine zm ?_)
         all_goals (have hS : St k15 _ (tkb rb v at7 e7 :: blk p4 144 [.bool (fA op), .bool (fB op), .bool (fC op), .bool (fK op), .bool (fN op), .bool (fG op), .bool true] :: blk p3 57 [.int .i64 op, .int .i64 a, .int .i64 b, .int .i64 c, .int .i64 k, .int .i64 m, vr, .slice none 0 0] :: blk p2 57 [.int .i64 0, .int .i64 0, .int .i64 0, .int .i64 0, .int .i64 0, .int .i64 0, .slice none 0 0, .slice none 0 0] :: L) := hS.sp; refine zR1 (c := Qaf hb hv hT5.fine hS) (h := ?_); rintro v4 w1 ⟨z6, q6, y6, c4, hz6, hy6, hle2, hkg, hS⟩; (try have hle := hle.trans hle2); (try have hJ15 := hJ15.trans hle2); (try have hJ17 := hJ17.trans hle2); (try have hv := hv.up hle2); (try have hkr := hkr.up hle2); have ho := Rep.SR.oneC hkg)
         all_goals (refine Q2 rfl ?_; refine zst hS ?_; intro w1 hS; have hS := hS.ns)
         all_goals refine zn ?_)
      | (refine Q4 rfl ?_ -- QW c6
         all_goals refine zsk ?_)
    all_goals ((first | (exact ⟨_, _, z6, q6, y6, zh, zh, hJ17, Q2j (of_decide_eq_true (g6.symm.trans hq6)) hz6, hkg, by omega, hS.sp⟩) | (exact ⟨_, _, [], at7, e7, zh, zh, hJ17, Q27 (of_decide_eq_false (g6.symm.trans hq6)) hT5.fine, Rep.SR.nil _ _ _, by simp, hS.sp⟩)))
  rintro ρ w1 ⟨k17, va, la, at8, e8, hA, hρ, hle2, hT6, hkg, hs6, hS⟩; obtain ⟨ρ, rfl⟩ := env2 hA hρ; (try have hle := hle.trans hle2); (try have hJ15 := hJ15.trans hle2); (try have hJ17 := hJ17.trans hle2); (try have hv := hv.up hle2); (try have hkr := hkr.up hle2)
  all_goals (refine Q0 ?_; have ho1 := Rep.SR.oneC hkr; have ho2 := Rep.SR.oneC hkg; have hd9 : insR.at k17 [.int .i64 op, .int .i64 a, .int .i64 b, .int .i64 c, .int .i64 k, .int .i64 m, vr, va] ⟨op, a, b, c, k, m, lr, la⟩ := ⟨_, _, rfl, hkr, hkg⟩; refine Q1 ?_; refine zv hS ?_; refine zsn hS ?_; intro w1 hS; have hS := hS.ns; refine zn ?_; refine zr ?_; refine Q20 vw (Q9 (n := 8) (by kernel_rfl) (by kernel_rfl) (hS.blkAt fd) (by rfl) (by rfl)) ?_; exact ⟨_, rfl, _, at8, e8, k17, [.int .i64 op, .int .i64 a, .int .i64 b, .int .i64 c, .int .i64 k, .int .i64 m, vr, va], take_ins h1 hT0 hT1 hT2 hT3 hT4 hT5 hT6, hle, rfl, hd9, ⟨by show lr.length ≤ _; omega, by show la.length ≤ _; omega⟩, hS.sp⟩)
end Go.Proofs.YtanlkfeogoganaaGreat
namespace Go.Proofs.YtanlkfeogoganaaGreat
open Go.Lir
set_option maxHeartbeats 1000000
attribute [local irreducible] LC.wp Q5 QN Q11 retQ Q1T LO.wp Qr Calls
set_option linter.unusedSimpArgs false
set_option linter.unusedVariables false
attribute [local irreducible] bitI IntKind.wrap Q3n rdU rmap rdLong Q7R Take Fine More QO rdTy Q1Z Q4g rdTo Q2q Qo
variable {cx : Cx} {w : World} {L : List Res}
theorem Qul {bs : List UInt8} {rb at0 : Nat} {v : Value} {e0 : Flt} (hb : bs.length ≤ 100000) (hv : u8R.sl cx v bs) (hf : Fine bs at0 e0) (hS : St cx w (tkb rb v at0 e0 :: L)) :
    Rets Tryz.prog Q1h [.pointer (some ⟨rb, 0, none⟩)] w fun u w' => ∃ x at1 e1 c' ds, Take (Q1I bs.length) bs at0 e0 x at1 e1 ∧ cx.Le c' ∧ u = .agg ⟨ds⟩ ∧ blockR.at c' ds x ∧ St c' w' (tkb rb v at1 e1 :: L) := by
  have hle := St.refl hS
  all_goals refine Qdd ?_
  all_goals (unfold R_taking_block_lc; refine Q0 ?_; refine Q1 ?_; refine Qb hS ?_; intro p2 w1 hS; refine zn ?_; refine Q0 ?_; refine Q1 ?_; refine zm ?_; have hS : St cx _ (tkb rb v at0 e0 :: _) := hS.mv1; refine zR1 (c := Q3p hv hf hS) (h := ?_); rintro v1 w1 ⟨rg, at1, e1, h1, rfl, hS⟩; refine zb1 [_, _, _, _, _, _, _, _, _, _, _, _] ?_; refine Qb hS ?_; intro p3 w1 hS; refine zsn hS ?_; intro w1 hS; have hS := hS.ns; refine zn ?_; refine Q0 ?_; refine Q1 ?_; refine zm ?_)
  all_goals (have hS : St cx _ (tkb rb v at1 e1 :: blk p3 79 [.int .i64 rg, .slice none 0 0, .slice none 0 0, .int .i64 0, .int .i64 0, .int .i64 0, .slice none 0 0, .slice none 0 0, .int .i64 0, .slice none 0 0, .slice none 0 0, .slice none 0 0] :: blk p2 79 [.int .i64 0, .slice none 0 0, .slice none 0 0, .int .i64 0, .int .i64 0, .int .i64 0, .slice none 0 0, .slice none 0 0, .int .i64 0, .slice none 0 0, .slice none 0 0, .slice none 0 0] :: L) := hS.sp; refine zR2 (c := Qae hb 6 cx _ _ 0 at1 e1 (by omega) (by omega) hv h1.fine hS) (h := ?_); rintro vps w1 ⟨ps, at2, e2, c2, h2, hlp, hle2, hkp, hS⟩; (try have hle := hle.trans hle2); (try have hv := hv.up hle2); have ho := Rep.SR.oneC hkp)
  all_goals (refine Q2 rfl ?_; refine zst hS ?_; intro w1 hS; have hS := hS.ns; refine zn ?_; refine Q0 ?_; refine Q1 ?_; refine zm ?_; have hS : St c2 _ (tkb rb v at2 e2 :: blk p3 79 [.int .i64 rg, vps, .slice none 0 0, .int .i64 0, .int .i64 0, .int .i64 0, .slice none 0 0, .slice none 0 0, .int .i64 0, .slice none 0 0, .slice none 0 0, .slice none 0 0] :: blk p2 79 [.int .i64 0, .slice none 0 0, .slice none 0 0, .int .i64 0, .int .i64 0, .int .i64 0, .slice none 0 0, .slice none 0 0, .int .i64 0, .slice none 0 0, .slice none 0 0, .slice none 0 0] :: L) := hS.sp; refine zR1 (c := Q4L hv h2.fine hS) (h := ?_); rintro v3 w1 ⟨q, at3, e3, h3, hq, rfl, hS⟩; refine zm ?_; refine zn ?_; refine Q0 ?_; refine Q0 ?_; refine Q1 ?_; refine zm ?_; refine zn ?_; refine Q8 ?_)
  refine zo [0, 2, 3, 4] (fun A ρ' w' => ∃ (k0 : Cx) (j at4 : Nat) (e4 : Flt) (acc : List Ins) (vb : Value) (cb : List (List Value)), Has ρ' A ∧ Has ρ' [(5, .int .i64 j)] ∧ (c2.Le k0) ∧ (j ≤ q) ∧ (acc.length = j) ∧ (More (Q4g bs.length) bs at2 e2 acc (q - j) at4 e4) ∧ (insR.ls k0 cb acc) ∧ (oneC vb = true) ∧ St k0 w' (tkb rb v at4 e4 :: sl 57 8 vb cb :: blk p3 79 [.int .i64 rg, vps, vb, .int .i64 0, .int .i64 0, .int .i64 0, .slice none 0 0, .slice none 0 0, .int .i64 0, .slice none 0 0, .slice none 0 0, .slice none 0 0] :: blk p2 79 [.int .i64 0, .slice none 0 0, .slice none 0 0, .int .i64 0, .int .i64 0, .int .i64 0, .slice none 0 0, .slice none 0 0, .int .i64 0, .slice none 0 0, .slice none 0 0, .slice none 0 0] :: L)) (fun ρ' _ => (q - iv (ρ' 5)).toNat) ?_ ?_
  · exact ⟨c2, 0, at3, e3, [], .slice none 0 0, [], zh, zh, St.refl hS, (by omega), rfl, QpR h3, Rep.LR.nil _ _ _, rfl, by have hS := hS.nil (T := 57) (es := 8); exact hS.sp⟩
  rintro ρ w1 ⟨k0, j, at4, e4, acc, vb, cb, hA, hρ, hle2, hj, hal, hM, hlb, hvb, hS⟩; obtain ⟨ρ, rfl⟩ := env2 hA hρ; have hL0 := hle2; (try have hle := hle.trans hle2); (try have hv := hv.up hle2); (try have hkp := hkp.up hle2)
  unfold Q55
  all_goals (refine Q0 ?_; refine Q0 ?_; refine Q1 ?_; refine zm ?_; refine zm ?_)
  all_goals (first | (refine Q1Q ?_) | (refine Q1R ?_) | (refine QD rfl rfl (fun hc => ?_) (fun hc => ?_)))
  all_goals (refine zm ?_; (first | refine s_gn rfl rfl ?_ | (refine s_gy rfl ?_; refine zm ?_)))
  all_goals (first | refine s_gn rfl rfl ?_ | (refine s_gy rfl ?_; refine zR1 (c := Q5E hS) (h := ?_); rintro v1 w1 ⟨rfl, hS⟩; cases hq2 : decide (e4.1 = 0)))
  all_goals ((first | (refine zpt ?_) | (refine zpf ?_)); refine zn ?_)
  all_goals
    first
    | (refine Q3 rfl ?_ -- Q1h c0
       all_goals (refine zsk ?_; refine Q0 ?_; refine Q8 ?_; refine zC [(0, none), (1, none), (2, none), (3, some (some [1])), (4, some (some [1])), (5, some none), (6, none), (7, some none)] ?_; have hS := hS.drew; refine s_cq ?_; refine Q2 rfl ?_; refine zt ?_; refine s_cq ?_; refine zl hS ?_; refine zt ?_; refine s_cq ?_; refine zm ?_; refine zt ?_; refine Ql ?_)
       all_goals (refine zR1 (c := tkins_c hb hv hM.fine hS) (h := ?_); rintro v4 w1 ⟨x, at5, e5, c5, ds, h5, hle2, rfl, hx5, -, hS⟩; (try have hle := hle.trans hle2); (try have hL0 := hL0.trans hle2); (try have hv := hv.up hle2); (try have hkp := hkp.up hle2); (try have hlb := hlb.up hle2); have hd9 := hx5; obtain ⟨r5, a5, rfl, hr5, ha5⟩ := Q22 hx5; have hM5 := QpQ (k := q - (j + 1)) (by rw [show q - (j + 1) + 1 = q - j by omega]; exact hM) h5)
       all_goals (refine zt ?_; refine zy ?_; refine Ql ?_; refine zB1 hS [_, _, _, _, _, _, _, _] ?_; intro b1 w1 hS; refine zt ?_; refine zy ?_; refine s_cf ?_; refine za Qvp u_T40 hS ?_; intro vp1 w1 css1 hls1 hv1 hS; have hS := hS.ns; refine zt ?_; refine s_cq ?_; refine Q2 rfl ?_; refine zt ?_; refine s_cf ?_; refine zst hS ?_; intro w1 hS; have hS := hS.ns; refine zt ?_; refine zcn ?_; refine Q1 ?_; refine zm ?_; refine zad ?_; refine zm ?_; refine zn ?_)
       all_goals (exact ⟨⟨_, j + 1, at5, e5, acc ++ [x], _, _, zh, zh, hL0, (by omega), by simp [hal], hM5, by assumption, by assumption, hS.sp⟩, Qh (by omega)⟩))
    | (refine Q4 rfl ?_ -- Q1h c0
       all_goals (refine zex ?_)
       all_goals (have hT := Qaq hM (by first | exact .inl (by omega) | exact .inr (of_decide_eq_false hq2)); obtain ⟨c6, hle2, hS2, hkc⟩ := St.freezeL (r := insR) (hS.out (r := sl 57 8 vb cb) fd) hlb rfl (by omega); clear hS; have hS := hS2; simp only [List.eraseIdx_cons_zero, List.eraseIdx_cons_succ] at hS; (try have hle := hle.trans hle2); (try have hL0 := hL0.trans hle2); (try have hv := hv.up hle2); (try have hkp := hkp.up hle2); (try have hlb := hlb.up hle2))
       all_goals (refine Q0 ?_; refine Q1 ?_; refine zm ?_; refine zR1 (c := Q3p hv hT.fine hS) (h := ?_); rintro v6 w1 ⟨op, at6, e6, h6, rfl, hS⟩; refine Q2 rfl ?_; (first | refine Q2 rfl ?_ | refine Q1r rfl ?_); refine zst hS ?_; intro w1 hS; have hS := hS.ns; refine zn ?_; refine Q0 ?_; refine Q0 ?_; refine Q1 ?_; refine Q2 rfl ?_; (first | refine Q2 rfl ?_ | refine Q1r rfl ?_); refine zl hS ?_; refine zn ?_; refine Q8 ?_; refine Q0 ?_; refine Q1 ?_)
       all_goals (first | (refine Qy ?_) | (refine QC ?_) | (refine Qn rfl rfl (fun hc => ?_) (fun hc => ?_)))
       all_goals (refine zm ?_; refine zn ?_)
       all_goals
         first
         | (refine Q3 rfl ?_ -- Q1h c1
            all_goals (refine Q1 ?_; refine zm ?_)
            all_goals (have hS : St c6 _ (tkb rb v at6 e6 :: blk p3 79 [.int .i64 rg, vps, vb, .int .i64 op, .int .i64 0, .int .i64 0, .slice none 0 0, .slice none 0 0, .int .i64 0, .slice none 0 0, .slice none 0 0, .slice none 0 0] :: blk p2 79 [.int .i64 0, .slice none 0 0, .slice none 0 0, .int .i64 0, .int .i64 0, .int .i64 0, .slice none 0 0, .slice none 0 0, .int .i64 0, .slice none 0 0, .slice none 0 0, .slice none 0 0] :: L) := hS.sp; refine zR1 (c := Quk hb hv h6.fine hS) (h := ?_); rintro v7 w1 ⟨ty, at7, e7, c7, ds, h7, hle2, rfl, hx7, -, hS⟩; obtain ⟨y1, y2, rfl, hy1, hy2⟩ := Q2W hx7; (try have hle := hle.trans hle2); (try have hL0 := hL0.trans hle2); (try have hv := hv.up hle2); (try have hkp := hkp.up hle2); (try have hlb := hlb.up hle2); (try have hkc := hkc.up hle2); have ho1 := Rep.SR.oneC hy1; have ho2 := Rep.SR.oneC hy2)
            all_goals (refine Q2 rfl ?_; (first | refine Q2 rfl ?_ | refine Q1r rfl ?_); (first | (refine zsn hS ?_; intro w1 hS; have hS := hS.ns) | (refine zsm hS ?_; intro w1 hS; have hS := hS.ns)))
            all_goals refine zn ?_)
         | (refine Q4 rfl ?_ -- Q1h c1
            all_goals (refine Q0 ?_; refine Q1 ?_)
            all_goals (first | (refine Qy ?_) | (refine QC ?_) | (refine Qn rfl rfl (fun hc => ?_) (fun hc => ?_)))
            all_goals (refine zm ?_; refine zn ?_)
            all_goals
              first
              | (refine Q3 rfl ?_ -- Q1h c2
                 all_goals (refine Q0 ?_; refine Q1 ?_; refine zm ?_; have hS : St c6 _ (tkb rb v at6 e6 :: blk p3 79 [.int .i64 rg, vps, vb, .int .i64 op, .int .i64 0, .int .i64 0, .slice none 0 0, .slice none 0 0, .int .i64 0, .slice none 0 0, .slice none 0 0, .slice none 0 0] :: blk p2 79 [.int .i64 0, .slice none 0 0, .slice none 0 0, .int .i64 0, .int .i64 0, .int .i64 0, .slice none 0 0, .slice none 0 0, .int .i64 0, .slice none 0 0, .slice none 0 0, .slice none 0 0] :: L) := hS.sp; refine zR1 (c := Q3p hv h6.fine hS) (h := ?_); rintro v8 w1 ⟨ea, at7, e7, h7, rfl, hS⟩; refine Q2 rfl ?_; (first | refine Q2 rfl ?_ | refine Q1r rfl ?_); refine zst hS ?_; intro w1 hS; have hS := hS.ns; refine zn ?_; refine Q0 ?_; refine Q1 ?_; refine zm ?_)
                 all_goals (have hS : St c6 _ (tkb rb v at7 e7 :: blk p3 79 [.int .i64 rg, vps, vb, .int .i64 op, .int .i64 ea, .int .i64 0, .slice none 0 0, .slice none 0 0, .int .i64 0, .slice none 0 0, .slice none 0 0, .slice none 0 0] :: blk p2 79 [.int .i64 0, .slice none 0 0, .slice none 0 0, .int .i64 0, .int .i64 0, .int .i64 0, .slice none 0 0, .slice none 0 0, .int .i64 0, .slice none 0 0, .slice none 0 0, .slice none 0 0] :: L) := hS.sp; refine zR1 (c := Quk hb hv h7.fine hS) (h := ?_); rintro v7 w1 ⟨ty, at8, e8, c8, ds, h8, hle2, rfl, hx7, -, hS⟩; obtain ⟨y1, y2, rfl, hy1, hy2⟩ := Q2W hx7; (try have hle := hle.trans hle2); (try have hL0 := hL0.trans hle2); (try have hv := hv.up hle2); (try have hkp := hkp.up hle2); (try have hlb := hlb.up hle2); (try have hkc := hkc.up hle2); have ho1 := Rep.SR.oneC hy1; have ho2 := Rep.SR.oneC hy2)
                 all_goals (refine Q2 rfl ?_; (first | refine Q2 rfl ?_ | refine Q1r rfl ?_); (first | (refine zsn hS ?_; intro w1 hS; have hS := hS.ns) | (refine zsm hS ?_; intro w1 hS; have hS := hS.ns)); refine zn ?_; refine Q1 ?_; refine zm ?_)
                 all_goals (have hS : St c8 _ (tkb rb v at8 e8 :: blk p3 79 [.int .i64 rg, vps, vb, .int .i64 op, .int .i64 ea, .int .i64 ty.block, y1, y2, .int .i64 0, .slice none 0 0, .slice none 0 0, .slice none 0 0] :: blk p2 79 [.int .i64 0, .slice none 0 0, .slice none 0 0, .int .i64 0, .int .i64 0, .int .i64 0, .slice none 0 0, .slice none 0 0, .int .i64 0, .slice none 0 0, .slice none 0 0, .slice none 0 0] :: L) := hS.sp; refine zR1 (c := Quk hb hv h8.fine hS) (h := ?_); rintro v7 w1 ⟨tn, at9, e9, c9, ds, h9, hle2, rfl, hx8, -, hS⟩; obtain ⟨n1, n2, rfl, hn1, hn2⟩ := Q2W hx8; (try have hle := hle.trans hle2); (try have hL0 := hL0.trans hle2); (try have hv := hv.up hle2); (try have hkp := hkp.up hle2); (try have hlb := hlb.up hle2); (try have hkc := hkc.up hle2); (try have hy1 := hy1.up hle2); (try have hy2 := hy2.up hle2); have ho3 := Rep.SR.oneC hn1; have ho4 := Rep.SR.oneC hn2)
                 all_goals (refine Q2 rfl ?_; (first | refine Q2 rfl ?_ | refine Q1r rfl ?_); (first | (refine zsn hS ?_; intro w1 hS; have hS := hS.ns) | (refine zsm hS ?_; intro w1 hS; have hS := hS.ns)))
                 all_goals refine zn ?_)
              | (refine Q4 rfl ?_ -- Q1h c2
                 all_goals (refine Q0 ?_; refine Q1 ?_)
                 all_goals (first | (refine Qy ?_) | (refine QC ?_) | (refine Qn rfl rfl (fun hc => ?_) (fun hc => ?_)))
                 all_goals (refine zm ?_; refine zn ?_)
                 all_goals
                   first
                   | (refine Q3 rfl ?_ -- Q1h c3
                      all_goals (refine Q1 ?_; refine zm ?_)
                      all_goals (have hS : St c6 _ (tkb rb v at6 e6 :: blk p3 79 [.int .i64 rg, vps, vb, .int .i64 op, .int .i64 0, .int .i64 0, .slice none 0 0, .slice none 0 0, .int .i64 0, .slice none 0 0, .slice none 0 0, .slice none 0 0] :: blk p2 79 [.int .i64 0, .slice none 0 0, .slice none 0 0, .int .i64 0, .int .i64 0, .int .i64 0, .slice none 0 0, .slice none 0 0, .int .i64 0, .slice none 0 0, .slice none 0 0, .slice none 0 0] :: L) := hS.sp; refine zR1 (c := Qaf hb hv h6.fine hS) (h := ?_); rintro vg w1 ⟨lg, at7, e7, c7, h7, hl7, hle2, hkg, hS⟩; (try have hle := hle.trans hle2); (try have hL0 := hL0.trans hle2); (try have hv := hv.up hle2); (try have hkp := hkp.up hle2); (try have hlb := hlb.up hle2); (try have hkc := hkc.up hle2); have ho1 := Rep.SR.oneC hkg)
                      all_goals (refine Q2 rfl ?_; (first | refine Q2 rfl ?_ | refine Q1r rfl ?_); refine zst hS ?_; intro w1 hS; have hS := hS.ns)
                      all_goals refine zn ?_)
                   | (refine Q4 rfl ?_ -- Q1h c3
                      all_goals refine zsk ?_)))
       all_goals (refine Q0 ?_; (first | (have hd9 : blockR.at c7 [.int .i64 rg, vps, vb, .int .i64 op, .int .i64 0, .int .i64 ty.block, y1, y2, .int .i64 0, .slice none 0 0, .slice none 0 0, .slice none 0 0] ⟨rg, ps, acc, ⟨op, 0, ty, ⟨0, [], []⟩, []⟩⟩ := Q2R (x := ⟨rg, ps, acc, ⟨op, 0, ty, ⟨0, [], []⟩, []⟩⟩) hkp hkc hy1 hy2 (Rep.SR.nil _ _ _) (Rep.SR.nil _ _ _) (Rep.SR.nil _ _ _)) | (have hd9 : blockR.at c9 [.int .i64 rg, vps, vb, .int .i64 op, .int .i64 ea, .int .i64 ty.block, y1, y2, .int .i64 tn.block, n1, n2, .slice none 0 0] ⟨rg, ps, acc, ⟨op, ea, ty, tn, []⟩⟩ := Q2R (x := ⟨rg, ps, acc, ⟨op, ea, ty, tn, []⟩⟩) hkp hkc hy1 hy2 hn1 hn2 (Rep.SR.nil _ _ _)) | (have hd9 : blockR.at c7 [.int .i64 rg, vps, vb, .int .i64 op, .int .i64 0, .int .i64 0, .slice none 0 0, .slice none 0 0, .int .i64 0, .slice none 0 0, .slice none 0 0, vg] ⟨rg, ps, acc, ⟨op, 0, ⟨0, [], []⟩, ⟨0, [], []⟩, lg⟩⟩ := Q2R (x := ⟨rg, ps, acc, ⟨op, 0, ⟨0, [], []⟩, ⟨0, [], []⟩, lg⟩⟩) hkp hkc (Rep.SR.nil _ _ _) (Rep.SR.nil _ _ _) (Rep.SR.nil _ _ _) (Rep.SR.nil _ _ _) hkg) | (have hd9 : blockR.at c6 [.int .i64 rg, vps, vb, .int .i64 op, .int .i64 0, .int .i64 0, .slice none 0 0, .slice none 0 0, .int .i64 0, .slice none 0 0, .slice none 0 0, .slice none 0 0] ⟨rg, ps, acc, ⟨op, 0, ⟨0, [], []⟩, ⟨0, [], []⟩, []⟩⟩ := Q2R (x := ⟨rg, ps, acc, ⟨op, 0, ⟨0, [], []⟩, ⟨0, [], []⟩, []⟩⟩) hkp hkc (Rep.SR.nil _ _ _) (Rep.SR.nil _ _ _) (Rep.SR.nil _ _ _) (Rep.SR.nil _ _ _) (Rep.SR.nil _ _ _))); refine Q1 ?_)
       all_goals (refine zv hS ?_; refine zsn hS ?_; intro w1 hS; have hS := hS.ns; refine zn ?_; refine zr ?_; refine Q20 vw (Q9 (n := 12) (by kernel_rfl) (by kernel_rfl) (hS.blkAt fd) (by rfl) (by rfl)) ?_)
       all_goals ((first | exact ⟨_, rfl, ⟨rg, ps, acc, ⟨op, 0, ty, ⟨0, [], []⟩, []⟩⟩, at7, e7, c7, [.int .i64 rg, vps, vb, .int .i64 op, .int .i64 0, .int .i64 ty.block, y1, y2, .int .i64 0, .slice none 0 0, .slice none 0 0, .slice none 0 0], Q7C h1 h2 hT (Quo h6 (by omega) h7), hle, rfl, Q2R (x := ⟨rg, ps, acc, ⟨op, 0, ty, ⟨0, [], []⟩, []⟩⟩) hkp hkc hy1 hy2 (Rep.SR.nil _ _ _) (Rep.SR.nil _ _ _) (Rep.SR.nil _ _ _), hS.sp⟩ | exact ⟨_, rfl, ⟨rg, ps, acc, ⟨op, ea, ty, tn, []⟩⟩, at9, e9, c9, [.int .i64 rg, vps, vb, .int .i64 op, .int .i64 ea, .int .i64 ty.block, y1, y2, .int .i64 tn.block, n1, n2, .slice none 0 0], Q7C h1 h2 hT (Qun h6 (by omega) h7 h8 h9), hle, rfl, Q2R (x := ⟨rg, ps, acc, ⟨op, ea, ty, tn, []⟩⟩) hkp hkc hy1 hy2 hn1 hn2 (Rep.SR.nil _ _ _), hS.sp⟩ | exact ⟨_, rfl, ⟨rg, ps, acc, ⟨op, 0, ⟨0, [], []⟩, ⟨0, [], []⟩, lg⟩⟩, at7, e7, c7, [.int .i64 rg, vps, vb, .int .i64 op, .int .i64 0, .int .i64 0, .slice none 0 0, .slice none 0 0, .int .i64 0, .slice none 0 0, .slice none 0 0, vg], Q7C h1 h2 hT (Qum h6 (by omega) h7), hle, rfl, Q2R (x := ⟨rg, ps, acc, ⟨op, 0, ⟨0, [], []⟩, ⟨0, [], []⟩, lg⟩⟩) hkp hkc (Rep.SR.nil _ _ _) (Rep.SR.nil _ _ _) (Rep.SR.nil _ _ _) (Rep.SR.nil _ _ _) hkg, hS.sp⟩ | exact ⟨_, rfl, ⟨rg, ps, acc, ⟨op, 0, ⟨0, [], []⟩, ⟨0, [], []⟩, []⟩⟩, at6, e6, c6, [.int .i64 rg, vps, vb, .int .i64 op, .int .i64 0, .int .i64 0, .slice none 0 0, .slice none 0 0, .int .i64 0, .slice none 0 0, .slice none 0 0, .slice none 0 0], Q7C h1 h2 hT (Qup h6 (by omega) (by omega) (by omega)), hle, rfl, Q2R (x := ⟨rg, ps, acc, ⟨op, 0, ⟨0, [], []⟩, ⟨0, [], []⟩, []⟩⟩) hkp hkc (Rep.SR.nil _ _ _) (Rep.SR.nil _ _ _) (Rep.SR.nil _ _ _) (Rep.SR.nil _ _ _) (Rep.SR.nil _ _ _), hS.sp⟩)))
end Go.Proofs.YtanlkfeogoganaaGreat
namespace Go.Lir
section
variable {bs : List UInt8} {a b c x : UInt8} {N i : Nat} {cr : BitVec 32}
theorem head3 (h0 : bs[0]? = some a) (h1 : bs[1]? = some b) (h2 : bs[2]? = some c) : bs.take 3 = [a, b, c] := by
  match bs, h0, h1, h2 with
  | x :: y :: z :: r, h0, h1, h2 =>
    simp only [List.getElem?_cons_zero, List.getElem?_cons_succ, Option.some.injEq] at h0 h1 h2
    subst h0 h1 h2
    rfl
theorem head_ok (h : bs.take 3 = [a, b, c]) (h0 : a.toNat = 67) (h1 : b.toNat = 72) (h2 : c.toNat = 1) : ¬ bs.take 3 ≠ [67, 72, 1] := by
  rw [h, show a = 67 from UInt8.toNat_inj.1 h0, show b = 72 from UInt8.toNat_inj.1 h1, show c = 1 from UInt8.toNat_inj.1 h2]
  exact fun h => h rfl
theorem QbP (h : bs.take 3 = [a, b, c]) (h0 : a.toNat ≠ 67 ∨ b.toNat ≠ 72 ∨ c.toNat ≠ 1) : bs.take 3 ≠ [67, 72, 1] := by
  rw [h]
  intro he
  simp only [List.cons.injEq, and_true] at he
  obtain ⟨rfl, rfl, rfl⟩ := he
  rcases h0 with h | h | h <;> exact h rfl
def QtQ (cr : BitVec 32) (bs : List UInt8) (N i : Nat) : Prop := ∀ k, k < i → bs[N + k]? = some (UInt8.ofNat (cr >>> (8 * k)).toNat)
theorem sumTo_0 : QtQ cr bs N 0 := fun k h => by omega
theorem sumTo_1 (h : QtQ cr bs N i) (hx : bs[N + i]? = some x) (he : (x.toNat : Int) = ((UInt8.ofNat (cr >>> (8 * i)).toNat).toNat : Int)) : QtQ cr bs N (i + 1) := fun k hk => by
  rcases Nat.lt_or_ge k i with h1 | h1
  · exact h k h1
  · obtain rfl : k = i := by omega
    rw [hx, show x = _ from UInt8.toNat_inj.1 (Int.ofNat.inj he)]
theorem sum_all (hN : bs.length = N + 4) (h : QtQ cr bs N i) (hi : i = 4) : ¬ sumB cr ≠ bs.drop N := by
  subst hi
  have e0 := h 0 (by decide)
  have e1 := h 1 (by decide)
  have e2 := h 2 (by decide)
  have e3 := h 3 (by decide)
  rw [drop4 hN e0 e1 e2 e3, ← Qvw]
  intro h9
  apply h9
  simp [crc4]
theorem Qpz (hN : bs.length = N + 4) (hi : i < 4) (hx : bs[N + i]? = some x) (he : (x.toNat : Int) ≠ ((UInt8.ofNat (cr >>> (8 * i)).toNat).toNat : Int)) : sumB cr ≠ bs.drop N := by
  intro h
  rw [← Qvw] at h
  apply he
  have h1 : (bs.drop N)[i]? = some x := by rw [List.getElem?_drop]; exact hx
  rw [← h] at h1
  unfold crc4 at h1
  rcases (show i = 0 ∨ i = 1 ∨ i = 2 ∨ i = 3 by omega) with rfl | rfl | rfl | rfl <;> simp at h1 <;> subst h1 <;> simp
theorem fine_3 (h : 3 ≤ bs.length) : Fine bs 3 (0, 0) := .inr ⟨rfl, h⟩
theorem take_e {α : Type} {rd : List UInt8 → Got α} {p0 p1 : Nat} {a : α} {e : Flt} (h : Take rd bs p0 (0, 0) a p1 e) (he : e.1 ≠ 0) : rd (bs.drop p0) = .error e := by
  rcases h with ⟨h, _⟩ | ⟨_, _, ⟨_, rfl, _⟩ | ⟨h, _⟩⟩
  · exact absurd rfl h
  · exact absurd rfl he
  · exact h
theorem take_o {α : Type} {rd : List UInt8 → Got α} {p0 p1 : Nat} {a : α} {e : Flt} (h : Take rd bs p0 (0, 0) a p1 e) (he : e.1 = 0) : rd (bs.drop p0) = .ok (a, bs.drop p1) ∧ e = (0, 0) ∧ p1 ≤ bs.length := by
  rcases h with ⟨h, _⟩ | ⟨_, _, ⟨h, rfl, _, h2⟩ | ⟨_, h⟩⟩
  · exact absurd rfl h
  · exact ⟨h, rfl, h2⟩
  · exact absurd he h
end
end Go.Lir
namespace Go.Proofs.YtanlkfeogoganaaGreat
open Go.Lir
set_option maxHeartbeats 1000000
attribute [local irreducible] LC.wp Q5 QN Q11 retQ Q1T LO.wp Qr Calls
set_option linter.unusedSimpArgs false
set_option linter.unusedVariables false
attribute [local irreducible] bitI IntKind.wrap Q3n rdU rmap rdLong Q7R Take Fine More QO rdTy Q1Z Q4g rdTo Q2q Q1I Q3U rdMany Q14 Qo Q3B Module.fault Lir.decode sumB QtQ
variable {cx : Cx} {w : World} {L : List Res}
theorem Qvs {bs : List UInt8} {v : Value} (hv : u8R.sl cx v bs) (hS : St cx w L) : Rets Tryz.prog Q1f [v] w fun u w' =>
    (∃ e, Lir.decode bs = .error e ∧ u = .tuple #[.agg ⟨[vn]⟩, fltV e] ∧ St cx w' L) ∨ (∃ m c' vf, Lir.decode bs = .ok m ∧ u = .tuple #[.agg ⟨[vf]⟩, fltV (0, 0)] ∧ cx.Le c' ∧ modR.at c' [vf] m ∧ St c' w' L) := by
  have hle := St.refl hS
  have hvl := hv.len
  have ho := Rep.SR.oneC hv
  have mod0 : ∀ c : Cx, modR.at c [.slice none 0 0] ⟨[]⟩ := fun c => ⟨_, rfl, Rep.SR.nil _ _ _⟩
  all_goals refine Qrv ?_
  all_goals (unfold R_Decoded_lc; refine Q0 ?_; refine Q1 ?_; refine Qb hS ?_; intro p2 w1 hS; refine Qb hS ?_; intro p3 w1 hS; refine zn ?_; refine Q0 ?_; refine Q0 ?_; refine Q1 ?_; refine zm ?_; refine zL ?_)
  all_goals (first | (refine Q1Q ?_) | (refine Q1R ?_) | (refine QD rfl rfl (fun hc => ?_) (fun hc => ?_)))
  all_goals (refine zn ?_)
  all_goals
    first
    | (refine Q3 rfl ?_ -- Q1f c0
       all_goals (refine Q0 ?_; refine Q1 ?_; refine zb0 [_] ?_; refine zm ?_; refine zL ?_; refine zR2 (c := rF_c hS) (h := ?_); rintro v1 w1 ⟨rfl, hS⟩; refine zsn hS ?_; intro w1 hS; have hS := hS.ns; refine zsn hS ?_; intro w1 hS; have hS := hS.ns; refine zn ?_; refine zr ?_; refine Q2L vw (Q9 (n := 1) (by kernel_rfl) (by kernel_rfl) (hS.blkAt fd) (by rfl) (by rfl)) vw (Q9 (n := 2) (by kernel_rfl) (by kernel_rfl) (hS.blkAt fd) (by rfl) (by rfl)) ?_)
       all_goals (exact ⟨_, rfl, .inl ⟨_, Q1N (by omega), rfl, hS.sp⟩⟩))
    | (refine Q4 rfl ?_ -- Q1f c0
       all_goals refine zsk ?_)
  all_goals (refine Q0 ?_; refine Q0 ?_; refine Q1 ?_; refine zm ?_; refine zL ?_)
  all_goals (first | (refine QK ?_) | (refine QM ?_) | (refine Qi rfl rfl (fun hc => ?_) (fun hc => ?_)))
  all_goals (refine zn ?_)
  all_goals
    first
    | (refine Q3 rfl ?_ -- Q1f c1
       all_goals (refine Q0 ?_; refine Q1 ?_; refine zb0 [_] ?_; refine zR2 (c := rF_c hS) (h := ?_); rintro v1 w1 ⟨rfl, hS⟩; refine zsn hS ?_; intro w1 hS; have hS := hS.ns; refine zsn hS ?_; intro w1 hS; have hS := hS.ns; refine zn ?_; refine zr ?_; refine Q2L vw (Q9 (n := 1) (by kernel_rfl) (by kernel_rfl) (hS.blkAt fd) (by rfl) (by rfl)) vw (Q9 (n := 2) (by kernel_rfl) (by kernel_rfl) (hS.blkAt fd) (by rfl) (by rfl)) ?_)
       all_goals ((first | exact ⟨_, rfl, .inl ⟨_, Q1N (by omega), rfl, hS.sp⟩⟩ | exact ⟨_, rfl, .inl ⟨_, Q2y (by omega) (by omega), rfl, hS.sp⟩⟩)))
    | (refine Q4 rfl ?_ -- Q1f c1
       all_goals refine zsk ?_)
  all_goals (refine Q0 ?_; refine Q0 ?_; obtain ⟨y0, hy0⟩ : ∃ x, bs[0]? = some x := ⟨_, List.getElem?_eq_getElem (by omega)⟩; obtain ⟨y1, hy1⟩ : ∃ x, bs[1]? = some x := ⟨_, List.getElem?_eq_getElem (by omega)⟩; obtain ⟨y2, hy2⟩ : ∃ x, bs[2]? = some x := ⟨_, List.getElem?_eq_getElem (by omega)⟩; have h3 := head3 hy0 hy1 hy2; refine Q1 ?_; refine zm ?_; refine Q44 (m := 0) vw rfl hv rfl (by omega) ?_; intro b7 o7 cs7 x7 hat7 hx7 he7; obtain rfl : y0 = x7 := Option.some.inj (hy0.symm.trans hx7); obtain rfl := Q35 he7; (first | (refine zl hS ?_) | (refine zlk hS ?_)))
  all_goals (first | (refine Q1c ?_) | (refine Q1d ?_) | (refine Qp rfl rfl (fun hc => ?_) (fun hc => ?_)))
  all_goals (refine zm ?_; (first | refine s_gn rfl rfl ?_ | (refine s_gy rfl ?_; refine zm ?_)); (first | refine s_gn rfl rfl ?_ | (refine s_gy rfl ?_; refine Q44 (m := 1) vw rfl hv rfl (by omega) ?_; intro b8 o8 cs8 x8 hat8 hx8 he8; obtain rfl : y1 = x8 := Option.some.inj (hy1.symm.trans hx8); obtain rfl := Q35 he8)); (first | refine s_gn rfl rfl ?_ | (refine s_gy rfl ?_; (first | (refine zl hS ?_) | (refine zlk hS ?_)))))
  all_goals (first | refine s_gn rfl rfl ?_ | (refine s_gy rfl ?_; (first | (refine Q1c ?_) | (refine Q1d ?_) | (refine Qp rfl rfl (fun hc => ?_) (fun hc => ?_)))))
  all_goals ((first | (refine zpt ?_) | (refine zpf ?_)); refine zm ?_; (first | refine s_gn rfl rfl ?_ | (refine s_gy rfl ?_; refine zm ?_)); (first | refine s_gn rfl rfl ?_ | (refine s_gy rfl ?_; refine Q44 (m := 2) vw rfl hv rfl (by omega) ?_; intro b9 o9 cs9 x9 hat9 hx9 he9; obtain rfl : y2 = x9 := Option.some.inj (hy2.symm.trans hx9); obtain rfl := Q35 he9)); (first | refine s_gn rfl rfl ?_ | (refine s_gy rfl ?_; (first | (refine zl hS ?_) | (refine zlk hS ?_)))))
  all_goals (first | refine s_gn rfl rfl ?_ | (refine s_gy rfl ?_; (first | (refine Q1c ?_) | (refine Q1d ?_) | (refine Qp rfl rfl (fun hc => ?_) (fun hc => ?_)))))
  all_goals ((first | (refine zpt ?_) | (refine zpf ?_)); refine zn ?_)
  all_goals
    first
    | (refine Q3 rfl ?_ -- Q1f c2
       all_goals (refine Q0 ?_; refine Q1 ?_; refine zb0 [_] ?_; refine zR2 (c := rF_c hS) (h := ?_); rintro v1 w1 ⟨rfl, hS⟩; refine zsn hS ?_; intro w1 hS; have hS := hS.ns; refine zsn hS ?_; intro w1 hS; have hS := hS.ns; refine zn ?_; refine zr ?_; refine Q2L vw (Q9 (n := 1) (by kernel_rfl) (by kernel_rfl) (hS.blkAt fd) (by rfl) (by rfl)) vw (Q9 (n := 2) (by kernel_rfl) (by kernel_rfl) (hS.blkAt fd) (by rfl) (by rfl)) ?_)
       all_goals ((first | exact ⟨_, rfl, .inl ⟨_, Q1N (by omega), rfl, hS.sp⟩⟩ | exact ⟨_, rfl, .inl ⟨_, Q2y (by omega) (by omega), rfl, hS.sp⟩⟩ | exact ⟨_, rfl, .inl ⟨_, Q3c (by omega) (by omega) (QbP h3 (by omega)), rfl, hS.sp⟩⟩)))
    | (refine Q4 rfl ?_ -- Q1f c2
       all_goals refine zsk ?_)
  all_goals (refine Q0 ?_; have hh := head_ok h3 (by omega) (by omega) (by omega); obtain ⟨N, hN⟩ : ∃ N, bs.length = N + 4 := ⟨bs.length - 4, by omega⟩; refine Q1 ?_; refine zm ?_; refine zL ?_; refine s_subi rfl rfl (by omega) (by omega) ?_; rw [show ((bs.length : Int) - 4) = (N : Int) by omega]; refine zm ?_; refine zn ?_; refine Q0 ?_; refine Q1 ?_; refine zm ?_; refine zm ?_; refine QpB vw hv rfl rfl (h' := N) ⟨_, rfl⟩ rfl (by omega) (by omega) ?_; intro v5 hs5; rw [List.drop_zero] at hs5; refine zR1 (c := QmJ hs5 hS) (h := ?_); rintro v1 w1 ⟨rfl, hS⟩; obtain ⟨cr, hcr⟩ : ∃ c, Q3B (bs.take N) = c := ⟨_, rfl⟩; rw [hcr]; refine zm ?_; refine zn ?_; refine Q0 ?_; refine Q0 ?_; refine Q1 ?_; refine zm ?_; refine zn ?_; refine Q8 ?_)
  refine zoL hS [0, 2, 3, 4, 5] (fun A LL ρ' w' => ∃ (i : Nat), Has ρ' A ∧ Has ρ' [(6, .int .i64 i)] ∧ (i ≤ 4) ∧ (QtQ cr bs N i) ∧ St cx w' (LL)) (fun ρ' _ => (4 - iv (ρ' 6)).toNat) ?_ ?_
  · exact ⟨0, zh, zh, (by omega), sumTo_0, hS.sp⟩
  rintro ρ w1 ⟨i, hA, hρ, hi, hI, hS⟩; obtain ⟨ρ, rfl⟩ := env2 hA hρ
  unfold QbC
  all_goals (refine Q0 ?_; refine Q0 ?_; refine Q1 ?_; refine zm ?_; refine Qt rfl rfl ?_; refine zn ?_)
  refine Qm rfl (fun hc => ?_) (fun hc => ?_)
  · skip
    all_goals (refine zsk ?_; refine Q0 ?_; refine Q8 ?_; refine Q0 ?_; refine Q1 ?_; refine zm ?_; refine zm ?_; refine zm ?_; refine zad ?_; refine Q44 (m := N + i) vw rfl hv rfl (by omega) ?_; intro b7 o7 cs7 x7 hat7 hx7 he7; obtain rfl := Q35 he7; (first | (refine zl hS ?_) | (refine zlk hS ?_)); refine zm ?_; refine zm ?_; refine s_mul rfl rfl (by omega) (by omega) ?_; rw [show (8 : Int) * (i : Int) = ((8 * i : Nat) : Int) by omega]; refine Q28 rfl ?_; rw [Q1X (n := 8 * i) (by omega)]; refine Q7Q rfl rfl (by omega) ?_; rw [Q7s _ (8 * i) (by omega)]; refine Q28 rfl ?_; rw [Q3V])
    all_goals (first | (refine Q1c ?_) | (refine Q1d ?_) | (refine Qp rfl rfl (fun hc => ?_) (fun hc => ?_)))
    all_goals (refine zn ?_)
    all_goals
      first
      | (refine Q3 rfl ?_ -- Q1f c4
         all_goals (refine Q0 ?_; refine Q1 ?_; refine zb0 [_] ?_; refine zm ?_; refine zR2 (c := rF_c hS) (h := ?_); rintro v1 w1 ⟨rfl, hS⟩; refine zsn hS ?_; intro w1 hS; have hS := hS.ns; refine zsn hS ?_; intro w1 hS; have hS := hS.ns; refine zn ?_; refine zr ?_; refine Q2L vw (Q9 (n := 1) (by kernel_rfl) (by kernel_rfl) (hS.blkAt fd) (by rfl) (by rfl)) vw (Q9 (n := 2) (by kernel_rfl) (by kernel_rfl) (hS.blkAt fd) (by rfl) (by rfl)) ?_)
         all_goals ((first | exact ⟨_, rfl, .inl ⟨_, Q1N (by omega), rfl, hS.sp⟩⟩ | exact ⟨_, rfl, .inl ⟨_, Q2y (by omega) (by omega), rfl, hS.sp⟩⟩ | exact ⟨_, rfl, .inl ⟨_, Q3c (by omega) (by omega) (QbP h3 (by omega)), rfl, hS.sp⟩⟩ | exact ⟨_, rfl, .inl ⟨_, Q5d hN (by omega) (by omega) hh (by rw [hcr]; exact Qpz hN (by omega) hx7 (by omega)), rfl, hS.sp⟩⟩)))
      | (refine Q4 rfl ?_ -- Q1f c4
         all_goals refine zsk ?_)
    all_goals (refine Q1 ?_; refine zm ?_; refine zad ?_; refine zm ?_; refine zn ?_; exact ⟨⟨i + 1, zh, zh, (by omega), sumTo_1 hI hx7 (by omega), hS.sp⟩, Qh (by omega)⟩)
  · skip
    all_goals (refine zex ?_; have hs : ¬ sumB (Q3B (bs.take N)) ≠ bs.drop N := (by rw [hcr]; exact sum_all hN hI (by omega)); have hl6 : (bs.take N).length = N := (by simp [hN]); refine Q0 ?_; refine Q1 ?_; refine zm ?_; refine zm ?_; refine QpB vw hv rfl rfl (h' := N) ⟨_, rfl⟩ rfl (by omega) (by omega) ?_; intro v6 hbv; rw [List.drop_zero] at hbv; obtain ⟨bt, hbt⟩ : ∃ bt, bs.take N = bt := ⟨_, rfl⟩; rw [hbt] at hbv hl6; have hl7 : bt.length ≤ 100000 := (by omega); obtain ⟨a6, n6, rfl⟩ := Rep.SR.shape hbv; refine zb2 [_, _, _, _] ?_; refine zb hS ?_; intro p75 w1 hS; refine zm ?_; refine zn ?_; refine Q0 ?_; refine Q1 ?_; refine Qb hS ?_; intro p8 w1 hS; refine zn ?_; refine Q0 ?_; refine Q1 ?_; refine zm ?_; have hS : St cx _ (tkb p75 (.slice a6 bt.length n6) 3 (0, 0) :: blk p8 24 [.slice none 0 0] :: blk p2 24 [.slice none 0 0] :: blk p3 30 [.int .i64 0, .int .i64 0] :: L) := hS.sp; refine zR1 (c := Q4L hbv (fine_3 (by omega)) hS) (h := ?_); rintro v3 w1 ⟨q, at1, e1, h1, hq, rfl, hS⟩; refine zm ?_; refine zn ?_; refine Q0 ?_; refine Q0 ?_; refine Q1 ?_; refine zm ?_; refine zn ?_; refine Q8 ?_)
    refine zo [2, 3, 4, 7, 8, 9] (fun A ρ' w' => ∃ (k1 : Cx) (f at2 : Nat) (e2 : Flt) (acc : List Fun) (vb : Value) (cb : List (List Value)), Has ρ' A ∧ Has ρ' [(10, .int .i64 f)] ∧ (cx.Le k1) ∧ (f ≤ q) ∧ (acc.length = f) ∧ (More (Q3U bt.length) bt 3 (0, 0) acc (q - f) at2 e2) ∧ (funcR.ls k1 cb acc) ∧ (oneC vb = true) ∧ St k1 w' (tkb p75 (.slice a6 bt.length n6) at2 e2 :: sl 53 4 vb cb :: blk p8 24 [vb] :: blk p2 24 [.slice none 0 0] :: blk p3 30 [.int .i64 0, .int .i64 0] :: L)) (fun ρ' _ => (q - iv (ρ' 10)).toNat) ?_ ?_
    · exact ⟨cx, 0, at1, e1, [], .slice none 0 0, [], zh, zh, St.refl hS, (by omega), rfl, QpR h1, Rep.LR.nil _ _ _, rfl, by have hS := hS.nil (T := 53) (es := 4); exact hS.sp⟩
    rintro ρ w1 ⟨k1, f, at2, e2, acc, vb, cb, hA, hρ, hle2, hf, hal, hM, hlb, hvb, hS⟩; obtain ⟨ρ, rfl⟩ := env2 hA hρ; have hL1 := hle2; (try have hle := hle.trans hle2); (try have hbv := hbv.up hle2)
    unfold QbB
    all_goals (refine Q0 ?_; refine Q0 ?_; refine Q1 ?_; refine zm ?_; refine zm ?_)
    all_goals (first | (refine Q1Q ?_) | (refine Q1R ?_) | (refine QD rfl rfl (fun hc => ?_) (fun hc => ?_)))
    all_goals (refine zm ?_; (first | refine s_gn rfl rfl ?_ | (refine s_gy rfl ?_; refine zm ?_)))
    all_goals (first | refine s_gn rfl rfl ?_ | (refine s_gy rfl ?_; refine zR1 (c := Q5E hS) (h := ?_); rintro v1 w1 ⟨rfl, hS⟩; cases hq2 : decide (e2.1 = 0)))
    all_goals ((first | (refine zpt ?_) | (refine zpf ?_)); refine zn ?_)
    all_goals
      first
      | (refine Q3 rfl ?_ -- Q1f c5
         all_goals (refine zsk ?_; refine Q0 ?_; refine Q8 ?_; refine Q0 ?_; refine Q1 ?_; refine zm ?_; refine zR1 (c := Q3p hbv hM.fine hS) (h := ?_); rintro v4 w1 ⟨rg, at3, e3, h3, rfl, hS⟩; refine zb1 [_, _, _, _] ?_; refine Qb hS ?_; intro p11 w1 hS; refine zsn hS ?_; intro w1 hS; have hS := hS.ns; refine zn ?_; refine Q0 ?_; refine Q1 ?_; refine zm ?_)
         all_goals (have hS : St k1 _ (tkb p75 (.slice a6 bt.length n6) at3 e3 :: blk p11 53 [.int .i64 rg, .slice none 0 0, .slice none 0 0, .slice none 0 0] :: sl 53 4 vb cb :: blk p8 24 [vb] :: blk p2 24 [.slice none 0 0] :: blk p3 30 [.int .i64 0, .int .i64 0] :: L) := hS.sp; refine zR2 (c := Qae hl7 6 _ _ _ 0 at3 e3 (by omega) (by omega) hbv h3.fine hS) (h := ?_); rintro vps w1 ⟨ps, at4, e4, c4, h4, -, hle2, hkp, hS⟩; (try have hle := hle.trans hle2); (try have hL1 := hL1.trans hle2); (try have hbv := hbv.up hle2); (try have hlb := hlb.up hle2); have ho1 := Rep.SR.oneC hkp)
         all_goals (refine Q2 rfl ?_; refine zst hS ?_; intro w1 hS; have hS := hS.ns; refine zn ?_; refine Q0 ?_; refine Q1 ?_; refine zm ?_)
         all_goals (have hS : St c4 _ (tkb p75 (.slice a6 bt.length n6) at4 e4 :: blk p11 53 [.int .i64 rg, vps, .slice none 0 0, .slice none 0 0] :: sl 53 4 vb cb :: blk p8 24 [vb] :: blk p2 24 [.slice none 0 0] :: blk p3 30 [.int .i64 0, .int .i64 0] :: L) := hS.sp; refine zR2 (c := Qae hl7 6 _ _ _ 0 at4 e4 (by omega) (by omega) hbv h4.fine hS) (h := ?_); rintro vrs w1 ⟨rs, at5, e5, c5, h5, -, hle2, hkr, hS⟩; (try have hle := hle.trans hle2); (try have hL1 := hL1.trans hle2); (try have hbv := hbv.up hle2); (try have hkp := hkp.up hle2); (try have hlb := hlb.up hle2); have ho2 := Rep.SR.oneC hkr)
         all_goals (refine Q2 rfl ?_; refine zst hS ?_; intro w1 hS; have hS := hS.ns; refine zn ?_; refine Q0 ?_; refine Q1 ?_; refine zm ?_; have hS : St c5 _ (tkb p75 (.slice a6 bt.length n6) at5 e5 :: blk p11 53 [.int .i64 rg, vps, vrs, .slice none 0 0] :: sl 53 4 vb cb :: blk p8 24 [vb] :: blk p2 24 [.slice none 0 0] :: blk p3 30 [.int .i64 0, .int .i64 0] :: L) := hS.sp; refine zR1 (c := Q4L hbv h5.fine hS) (h := ?_); rintro v6 w1 ⟨q2, at6, e6, h6, hq6, rfl, hS⟩; refine zm ?_; refine zn ?_; refine Q0 ?_; refine Q0 ?_; refine Q1 ?_; refine zm ?_; refine zn ?_; refine Q8 ?_)
         refine zo [2, 3, 4, 7, 8, 9, 10, 11, 12] (fun A ρ' w' => ∃ (k2 : Cx) (i at7 : Nat) (e7 : Flt) (acc2 : List Block) (vd : Value) (cd : List (List Value)), Has ρ' A ∧ Has ρ' [(13, .int .i64 i)] ∧ (c5.Le k2) ∧ (i ≤ q2) ∧ (acc2.length = i) ∧ (More (Q1I bt.length) bt at5 e5 acc2 (q2 - i) at7 e7) ∧ (blockR.ls k2 cd acc2) ∧ (oneC vd = true) ∧ St k2 w' (tkb p75 (.slice a6 bt.length n6) at7 e7 :: sl 79 12 vd cd :: blk p11 53 [.int .i64 rg, vps, vrs, vd] :: sl 53 4 vb cb :: blk p8 24 [vb] :: blk p2 24 [.slice none 0 0] :: blk p3 30 [.int .i64 0, .int .i64 0] :: L)) (fun ρ' _ => (q2 - iv (ρ' 13)).toNat) ?_ ?_
         · exact ⟨c5, 0, at6, e6, [], .slice none 0 0, [], zh, zh, St.refl hS, (by omega), rfl, QpR h6, Rep.LR.nil _ _ _, rfl, by have hS := hS.nil (T := 79) (es := 12); exact hS.sp⟩
         rintro ρ w1 ⟨k2, i, at7, e7, acc2, vd, cd, hA, hρ, hle2, hi, hal2, hM2, hld, hvd, hS⟩; obtain ⟨ρ, rfl⟩ := env2 hA hρ; have hL2 := hle2; (try have hle := hle.trans hle2); (try have hL1 := hL1.trans hle2); (try have hbv := hbv.up hle2); (try have hkp := hkp.up hle2); (try have hkr := hkr.up hle2); (try have hlb := hlb.up hle2)
         unfold QbA
         all_goals (refine Q0 ?_; refine Q0 ?_; refine Q1 ?_; refine zm ?_; refine zm ?_)
         all_goals (first | (refine Q1Q ?_) | (refine Q1R ?_) | (refine QD rfl rfl (fun hc => ?_) (fun hc => ?_)))
         all_goals (refine zm ?_; (first | refine s_gn rfl rfl ?_ | (refine s_gy rfl ?_; refine zm ?_)))
         all_goals (first | refine s_gn rfl rfl ?_ | (refine s_gy rfl ?_; refine zR1 (c := Q5E hS) (h := ?_); rintro v1 w1 ⟨rfl, hS⟩; cases hq7 : decide (e7.1 = 0)))
         all_goals ((first | (refine zpt ?_) | (refine zpf ?_)); refine zn ?_)
         all_goals
           first
           | (refine Q3 rfl ?_ -- Q1f c6
              all_goals (refine zsk ?_; refine Q0 ?_; refine Q8 ?_; refine zC [(0, none), (1, none), (2, none), (3, some (some [1])), (4, some (some [1])), (5, some none), (6, none), (7, some none)] ?_; have hS := hS.drew; refine s_cq ?_; refine Q2 rfl ?_; refine zt ?_; refine s_cq ?_; refine zl hS ?_; refine zt ?_; refine s_cq ?_; refine zm ?_; refine zt ?_; refine Ql ?_)
              all_goals (refine zR1 (c := Qul hl7 hbv hM2.fine hS) (h := ?_); rintro v8 w1 ⟨x, at8, e8, c8, ds, h8, hle2, rfl, hx8, hS⟩; (try have hle := hle.trans hle2); (try have hL1 := hL1.trans hle2); (try have hL2 := hL2.trans hle2); (try have hbv := hbv.up hle2); (try have hkp := hkp.up hle2); (try have hkr := hkr.up hle2); (try have hlb := hlb.up hle2); (try have hld := hld.up hle2); have hd9 := hx8; obtain ⟨z1, z2, z3, z4, z5, z6, z7, rfl, -⟩ := Q1w hx8; have hM8 := QpQ (k := q2 - (i + 1)) (by rw [show q2 - (i + 1) + 1 = q2 - i by omega]; exact hM2) h8)
              all_goals (refine zt ?_; refine zy ?_; refine Ql ?_; refine zB1 hS [_, _, _, _, _, _, _, _, _, _, _, _] ?_; intro b1 w1 hS; refine zt ?_; refine zy ?_; refine s_cf ?_; refine za Qvn u_T51 hS ?_; intro vp1 w1 css1 hls1 hv1 hS; have hS := hS.ns; refine zt ?_; refine s_cq ?_; refine Q2 rfl ?_; refine zt ?_; refine s_cf ?_; refine zst hS ?_; intro w1 hS; have hS := hS.ns; refine zt ?_; refine zcn ?_; refine Q1 ?_; refine zm ?_; refine zad ?_; refine zm ?_; refine zn ?_)
              all_goals (exact ⟨⟨_, i + 1, at8, e8, acc2 ++ [x], _, _, zh, zh, hL2, (by omega), by simp [hal2], hM8, by assumption, by assumption, hS.sp⟩, Qh (by omega)⟩))
           | (refine Q4 rfl ?_ -- Q1f c6
              all_goals (refine zex ?_)
              all_goals (have hT2 := Qaq hM2 (by first | exact .inl (by omega) | exact .inr (of_decide_eq_false hq7)); obtain ⟨c9, hle2, hS2, hkb⟩ := St.freezeL (r := blockR) (hS.out (r := sl 79 12 vd cd) fd) hld rfl (by omega); clear hS; have hS := hS2; simp only [List.eraseIdx_cons_zero, List.eraseIdx_cons_succ] at hS; (try have hle := hle.trans hle2); (try have hL1 := hL1.trans hle2); (try have hL2 := hL2.trans hle2); (try have hbv := hbv.up hle2); (try have hkp := hkp.up hle2); (try have hkr := hkr.up hle2); (try have hlb := hlb.up hle2); (try have hld := hld.up hle2))
              all_goals (have hd9 : funcR.at c9 [.int .i64 rg, vps, vrs, vd] ⟨rg, ps, rs, acc2⟩ := ⟨_, _, _, rfl, hkp, hkr, hkb⟩; have hM9 := QpQ (k := q - (f + 1)) (by rw [show q - (f + 1) + 1 = q - f by omega]; exact hM) (take_fun h3 h4 h5 hT2))
              all_goals (refine Q1 ?_; refine Q2 rfl ?_; refine zl hS ?_; refine zv hS ?_; refine zB1 hS [_, _, _, _] ?_; intro b1 w1 hS; refine za Qvq u_T22 hS ?_; intro vp2 w2 css2 hls2 hv2 hS; have hS := hS.ns; refine Q2 rfl ?_; refine zst hS ?_; intro w1 hS; have hS := hS.ns; refine zn ?_; refine Q1 ?_; refine zm ?_; refine zad ?_; refine zm ?_; refine zn ?_)
              all_goals (exact ⟨⟨_, f + 1, at7, e7, acc ++ [⟨rg, ps, rs, acc2⟩], _, _, zh, zh, hL1, (by omega), by simp [hal], hM9, by assumption, by assumption, hS.sp⟩, Qh (by omega)⟩)))
      | (refine Q4 rfl ?_ -- Q1f c5
         all_goals (refine zex ?_)
         all_goals (have hT := Qaq hM (by first | exact .inl (by omega) | exact .inr (of_decide_eq_false hq2)); obtain ⟨c7, hle2, hS2, hkf⟩ := St.freezeL (r := funcR) (hS.out (r := sl 53 4 vb cb) fd) hlb rfl (by omega); clear hS; have hS := hS2; simp only [List.eraseIdx_cons_zero, List.eraseIdx_cons_succ] at hS; (try have hle := hle.trans hle2); (try have hL1 := hL1.trans hle2); (try have hbv := hbv.up hle2); (try have hlb := hlb.up hle2); have hx' : modR.at c7 [vb] ⟨acc⟩ := ⟨_, rfl, hkf⟩)
         all_goals (refine Q0 ?_; refine Q0 ?_; refine Q1 ?_; refine zm ?_)
         all_goals (refine zR1 (c := Q5E hS) (h := ?_); rintro v1 w1 ⟨rfl, hS⟩; cases hq9 : decide (e2.1 = 0))
         all_goals (refine Q2b rfl ?_; refine zn ?_)
         all_goals
           first
           | (refine Q3 rfl ?_ -- Q1f c7
              all_goals (refine Q0 ?_; have e9 := take_e hT (of_decide_eq_false hq9); rw [hl6, ← hbt] at e9; refine zC [(0, none), (1, none), (2, none), (3, none), (4, none), (5, some (some [4])), (6, some none)] ?_; have hS := hS.drew; refine s_cq ?_; refine zb0 [_] ?_; refine zt ?_; refine s_cq ?_; refine zm ?_; refine zt ?_; refine s_cq ?_; refine Qv rfl ?_; refine zt ?_; refine s_cq ?_; refine Q2 rfl ?_; refine zt ?_; refine s_cq ?_; refine zv hS ?_; refine zt ?_; refine Ql ?_; refine zsn hS ?_; intro w1 hS; have hS := hS.ns; refine zt ?_; refine zy ?_; refine s_cf ?_; refine zsn hS ?_; intro w1 hS; have hS := hS.ns; refine zt ?_; refine zcn ?_; refine zr ?_; refine Q2L vw (Q9 (n := 1) (by kernel_rfl) (by kernel_rfl) (hS.blkAt fd) (by rfl) (by rfl)) vw (Q9 (n := 2) (by kernel_rfl) (by kernel_rfl) (hS.blkAt fd) (by rfl) (by rfl)) ?_)
              all_goals ((first | exact ⟨_, rfl, .inl ⟨_, Q1N (by omega), rfl, hS.sp⟩⟩ | exact ⟨_, rfl, .inl ⟨_, Q2y (by omega) (by omega), rfl, hS.sp⟩⟩ | exact ⟨_, rfl, .inl ⟨_, Q3c (by omega) (by omega) (QbP h3 (by omega)), rfl, hS.sp⟩⟩ | exact ⟨_, rfl, .inl ⟨_, Q5d hN (by omega) (by omega) hh (by rw [hcr]; exact Qpz hN (by omega) hx7 (by omega)), rfl, hS.sp⟩⟩ | exact ⟨_, rfl, .inl ⟨e2, Qvu hN (by omega) (by omega) hh hs e9, rfl, St.weak hS.sp hle⟩⟩)))
           | (refine Q4 rfl ?_ -- Q1f c7
              all_goals refine zsk ?_)
         all_goals (refine Q0 ?_; refine Q0 ?_; obtain ⟨e9, he9, hat9⟩ := take_o hT (of_decide_eq_true hq9); rw [hl6, ← hbt] at e9; have hms := QdH (by omega) e9; refine Q1 ?_; refine zm ?_; refine Qv rfl ?_; refine Q2 rfl ?_; refine zl hS ?_; refine zm ?_)
         all_goals (first | (refine Q1Q ?_) | (refine Q1R ?_) | (refine QD rfl rfl (fun hc => ?_) (fun hc => ?_)))
         all_goals (refine zn ?_)
         all_goals
           first
           | (refine Q3 rfl ?_ -- Q1f c8
              all_goals (refine Q0 ?_; refine Q1 ?_; refine zb0 [_] ?_; refine zm ?_; refine Qv rfl ?_; refine Q2 rfl ?_; refine zl hS ?_; refine zR2 (c := rF_c hS) (h := ?_); rintro v1 w1 ⟨rfl, hS⟩; refine zsn hS ?_; intro w1 hS; have hS := hS.ns; refine zsn hS ?_; intro w1 hS; have hS := hS.ns; refine zn ?_; refine zr ?_; refine Q2L vw (Q9 (n := 1) (by kernel_rfl) (by kernel_rfl) (hS.blkAt fd) (by rfl) (by rfl)) vw (Q9 (n := 2) (by kernel_rfl) (by kernel_rfl) (hS.blkAt fd) (by rfl) (by rfl)) ?_)
              all_goals ((first | exact ⟨_, rfl, .inl ⟨_, Q1N (by omega), rfl, hS.sp⟩⟩ | exact ⟨_, rfl, .inl ⟨_, Q2y (by omega) (by omega), rfl, hS.sp⟩⟩ | exact ⟨_, rfl, .inl ⟨_, Q3c (by omega) (by omega) (QbP h3 (by omega)), rfl, hS.sp⟩⟩ | exact ⟨_, rfl, .inl ⟨_, Q5d hN (by omega) (by omega) hh (by rw [hcr]; exact Qpz hN (by omega) hx7 (by omega)), rfl, hS.sp⟩⟩ | exact ⟨_, rfl, .inl ⟨e2, Qvu hN (by omega) (by omega) hh hs e9, rfl, St.weak hS.sp hle⟩⟩ | exact ⟨_, rfl, .inl ⟨_, Q4P hN (by omega) (by omega) hh hs e9 (by omega), rfl, St.weak hS.sp hle⟩⟩)))
           | (refine Q4 rfl ?_ -- Q1f c8
              all_goals refine zsk ?_)
         all_goals (refine Q0 ?_; refine Q0 ?_; refine Q1 ?_; refine zv hS ?_; refine zR1 (c := Qt3 hms hx' hS) (h := ?_); rintro v1 w1 ⟨rfl, hS⟩; unfold fltV; refine s_fldv rfl rfl ?_)
         all_goals (first | (refine Q1c ?_) | (refine Q1d ?_) | (refine Qp rfl rfl (fun hc => ?_) (fun hc => ?_)))
         all_goals (refine zn ?_)
         all_goals
           first
           | (refine Q3 rfl ?_ -- Q1f c9
              all_goals (refine Q0 ?_; refine Q1 ?_; refine zb0 [_] ?_; refine zm ?_; refine zR2 (c := rF_c hS) (h := ?_); rintro v1 w1 ⟨rfl, hS⟩; refine zsn hS ?_; intro w1 hS; have hS := hS.ns; refine zsn hS ?_; intro w1 hS; have hS := hS.ns; refine zn ?_; refine zr ?_; refine Q2L vw (Q9 (n := 1) (by kernel_rfl) (by kernel_rfl) (hS.blkAt fd) (by rfl) (by rfl)) vw (Q9 (n := 2) (by kernel_rfl) (by kernel_rfl) (hS.blkAt fd) (by rfl) (by rfl)) ?_)
              all_goals ((first | exact ⟨_, rfl, .inl ⟨_, Q1N (by omega), rfl, hS.sp⟩⟩ | exact ⟨_, rfl, .inl ⟨_, Q2y (by omega) (by omega), rfl, hS.sp⟩⟩ | exact ⟨_, rfl, .inl ⟨_, Q3c (by omega) (by omega) (QbP h3 (by omega)), rfl, hS.sp⟩⟩ | exact ⟨_, rfl, .inl ⟨_, Q5d hN (by omega) (by omega) hh (by rw [hcr]; exact Qpz hN (by omega) hx7 (by omega)), rfl, hS.sp⟩⟩ | exact ⟨_, rfl, .inl ⟨e2, Qvu hN (by omega) (by omega) hh hs e9, rfl, St.weak hS.sp hle⟩⟩ | exact ⟨_, rfl, .inl ⟨_, Q4P hN (by omega) (by omega) hh hs e9 (by omega), rfl, St.weak hS.sp hle⟩⟩ | exact ⟨_, rfl, .inl ⟨_, Qax hN (by omega) (by omega) hh hs e9 (Q7O hN (by omega)) (by omega), rfl, St.weak hS.sp hle⟩⟩)))
           | (refine Q4 rfl ?_ -- Q1f c9
              all_goals refine zsk ?_)
         all_goals (refine Q0 ?_; refine Q1 ?_; refine zv hS ?_; refine zb0 [_, _] ?_; refine zsn hS ?_; intro w1 hS; have hS := hS.ns; refine zsn hS ?_; intro w1 hS; have hS := hS.ns; refine zn ?_; refine zr ?_; refine Q2L vw (Q9 (n := 1) (by kernel_rfl) (by kernel_rfl) (hS.blkAt fd) (by rfl) (by rfl)) vw (Q9 (n := 2) (by kernel_rfl) (by kernel_rfl) (hS.blkAt fd) (by rfl) (by rfl)) ?_)
         all_goals ((first | exact ⟨_, rfl, .inl ⟨_, Q1N (by omega), rfl, hS.sp⟩⟩ | exact ⟨_, rfl, .inl ⟨_, Q2y (by omega) (by omega), rfl, hS.sp⟩⟩ | exact ⟨_, rfl, .inl ⟨_, Q3c (by omega) (by omega) (QbP h3 (by omega)), rfl, hS.sp⟩⟩ | exact ⟨_, rfl, .inl ⟨_, Q5d hN (by omega) (by omega) hh (by rw [hcr]; exact Qpz hN (by omega) hx7 (by omega)), rfl, hS.sp⟩⟩ | exact ⟨_, rfl, .inl ⟨e2, Qvu hN (by omega) (by omega) hh hs e9, rfl, St.weak hS.sp hle⟩⟩ | exact ⟨_, rfl, .inl ⟨_, Q4P hN (by omega) (by omega) hh hs e9 (by omega), rfl, St.weak hS.sp hle⟩⟩ | exact ⟨_, rfl, .inl ⟨_, Qax hN (by omega) (by omega) hh hs e9 (Q7O hN (by omega)) (by omega), rfl, St.weak hS.sp hle⟩⟩ | exact ⟨_, rfl, .inr ⟨_, c7, vb, dec_ok hN (by omega) (by omega) hh hs e9 (Q7O hN (by omega)) (by omega), rfl, hle, hx', hS.sp⟩⟩)))
end Go.Proofs.YtanlkfeogoganaaGreat
namespace Go.Proofs.YtanlkfeogoganaaGreat
open Go.Lir
set_option maxRecDepth 100000

/- 6 -/
def Qdx : List GO := [qk 0 (.bool false)]
def Qdw : List GO := [⟨none, .call (some 6) 36 []⟩, ⟨none, .call (some 7) 9 [(.tmp 6)]⟩, qm 5 7, qx 8 5 0, qx 9 5 1, ⟨none, .alloc 2 30 [(vi 0), (vi 0)]⟩, qm 1 8, qw 2 2 9]
def Qdv : List GO := [⟨none, .call (some 11) 13 [(.const vn)]⟩, qm 10 11, qx 12 10 0, qx 13 10 1, ⟨none, .alloc 3 24 [vn]⟩, ⟨none, .alloc 4 30 [(vi 0), (vi 0)]⟩, qw 1 3 12, qw 2 4 13]
def Qdu : List GO := [qf 14 2 0, ql 15 14, qj 16 .eql 3 15 0, qm 17 16, qg 17 true (qm 18 1), qg 17 true (qL 19 18), qg 17 true (qj 20 .eql 3 19 17), ⟨none, .pick 21 (.tmp 17) (.tmp 20) (.const (.bool false))⟩, qm 22 21, qg 22 true (qm 23 1), ⟨some (22, true), .idx 24 1 (.tmp 23) (.const (vi 3))⟩, qg 22 true (ql 25 24), ⟨some (22, true), .bin 26 .eql 5 (.tmp 25) (.const (.int .u8 2))⟩, ⟨none, .pick 27 (.tmp 22) (.tmp 26) (.const (.bool false))⟩, qm 28 27, qg 28 true (qf 29 4 0), qg 28 true (ql 30 29), qg 28 true (qj 31 .eql 3 30 5), ⟨none, .pick 32 (.tmp 28) (.tmp 31) (.const (.bool false))⟩, qm 33 32, ⟨some (33, true), .buildS 34 5 9 [(.int .u8 0), (.int .u8 0), (.int .u8 0), (.int .u8 0), (.int .u8 0), (.int .u8 0), (.int .u8 0), (.int .u8 0), (.int .u8 0)] [(0, (1, (.const (.int .u8 49)))), (1, (1, (.const (.int .u8 50)))), (2, (1, (.const (.int .u8 51)))), (3, (1, (.const (.int .u8 52)))), (4, (1, (.const (.int .u8 53)))), (5, (1, (.const (.int .u8 54)))), (6, (1, (.const (.int .u8 55)))), (7, (1, (.const (.int .u8 56)))), (8, (1, (.const (.int .u8 57))))]⟩, ⟨some (33, true), .raw ⟨(some 35), (.convert 25 25 (.tmp 34)), 25, "", #[], none⟩⟩, ⟨some (33, true), .call (some 36) 15 [(.tmp 35)]⟩, ⟨some (33, true), .bin 37 .eql 37 (.tmp 36) (.const (.int .u32 3421780262))⟩, ⟨none, .pick 38 (.tmp 33) (.tmp 37) (.const (.bool false))⟩, qm 0 38]
def Law_codecBegun_lc : LC := (.seq (.ops Qdx) (.seq (.ops Qdw) (.seq (.ops Qdv) (.seq (.ops Qdu) .ret))))
@[reducible] def Q8X : FuncId := 6
theorem QbD : lowF Tryz.prog Tryz.f6 = some Law_codecBegun_lc := by kernel_rfl
theorem Qdy {w : World} {R : Ending → World → Prop} (h : Law_codecBegun_lc.wp Tryz.prog (retQ Tryz.prog [.tmp 0] R) (Qg []) w) : Calls Tryz.prog Q8X ⟨[]⟩ w R :=
  Q6 Tryz.func6 QbD (by kernel_rfl) (by kernel_rfl) h

/- 9 -/
def QgX : List GO := [qb 1 24 0, qk 2 vn, ⟨none, .alloc 3 30 [(vi 0), (vi 0)]⟩]
def QgW : List GO := [qV 13 1 1, ⟨none, .call (some 14) 41 [(.tmp 13)]⟩, ⟨none, .alloc 4 30 [(vi 0), (vi 0)]⟩, qw 2 4 14]
def QgV : List GO := [qf 15 4 0, ql 16 15, qj 17 .neq 3 16 0]
def QgU : List GO := [qV 18 2 4, qk 2 vn, qw 2 3 18]
def QgZ : List (List Nat) := [[],[],[0,1,0,1]]
def QgT : List GO := [⟨none, .buildS 19 5 3 [(.int .u8 0), (.int .u8 0), (.int .u8 0)] [(0, (1, (.const (.int .u8 67)))), (1, (1, (.const (.int .u8 72)))), (2, (1, (.const (.int .u8 1))))]⟩, ⟨none, .raw ⟨(some 20), (.convert 25 25 (.tmp 19)), 25, "", #[], none⟩⟩, ⟨none, .build 21 [vn] [(0, (1, (.tmp 20)))]⟩, qb 22 85 21, qm 5 22]
def QgS : List GO := [qm 23 5, qf 24 1 0, ql 25 24, qL 26 25, ⟨none, .buildS 27 3 1 [(vi 0)] [(0, (1, (.tmp 26)))]⟩, ⟨none, .call (some 28) 42 [(.tmp 23), (.tmp 27)]⟩]
def QgR : List GO := [qf 29 1 0, ql 30 29, qL 31 30, qk 32 (vi 0)]
def QgQ : List GO := [qt 33 .lss 3 32 31]
def QgP : List GO := [qi 34 4 30 32, qV 35 4 34, ⟨none, .alloc 7 53 [(vi 0), vn, vn, vn]⟩, qw 4 7 35]
def QgO : List GO := [qm 36 5, qf 37 7 0, ql 38 37, ⟨none, .buildS 39 3 1 [(vi 0)] [(0, (1, (.tmp 38)))]⟩, ⟨none, .call (some 40) 42 [(.tmp 36), (.tmp 39)]⟩]
def Qec : List GO := [qm 41 5, qf 42 7 1, ql 43 42, ⟨none, .call (some 44) 43 [(.tmp 41), (.tmp 43)]⟩]
def Qeb : List GO := [qm 45 5, qf 46 7 2, ql 47 46, ⟨none, .call (some 48) 43 [(.tmp 45), (.tmp 47)]⟩]
def Qea : List GO := [qm 49 5, qf 50 7 3, ql 51 50, qL 52 51, ⟨none, .buildS 53 3 1 [(vi 0)] [(0, (1, (.tmp 52)))]⟩, ⟨none, .call (some 54) 42 [(.tmp 49), (.tmp 53)]⟩]
def Qe9 : List GO := [qf 55 7 3, ql 56 55, qL 57 56, qk 58 (vi 0)]
def Qe8 : List GO := [qt 59 .lss 3 58 57]
def Qe7 : List GO := [qi 60 12 56 58, qV 61 12 60, ⟨none, .alloc 9 79 [(vi 0), vn, vn, (vi 0), (vi 0), (vi 0), vn, vn, (vi 0), vn, vn, vn]⟩, qw 12 9 61]
def Qe6 : List GO := [qm 62 5, qf 63 9 0, ql 64 63, ⟨none, .buildS 65 3 1 [(vi 0)] [(0, (1, (.tmp 64)))]⟩, ⟨none, .call (some 66) 42 [(.tmp 62), (.tmp 65)]⟩]
def Qe5 : List GO := [qm 67 5, qf 68 9 1, ql 69 68, ⟨none, .call (some 70) 43 [(.tmp 67), (.tmp 69)]⟩]
def Qe4 : List GO := [qm 71 5, qf 72 9 2, ql 73 72, qL 74 73, ⟨none, .buildS 75 3 1 [(vi 0)] [(0, (1, (.tmp 74)))]⟩, ⟨none, .call (some 76) 42 [(.tmp 71), (.tmp 75)]⟩]
def Qe3 : List GO := [qf 77 9 2, ql 78 77, qL 79 78, qk 80 (vi 0)]
def Qe2 : List GO := [qt 81 .lss 3 80 79]
def Qe1 : List GO := [qi 82 8 78 80, qV 83 8 82, ⟨none, .alloc 11 57 [(vi 0), (vi 0), (vi 0), (vi 0), (vi 0), (vi 0), vn, vn]⟩, qw 8 11 83]
def Qe0 : List GO := [qm 84 5, qV 85 8 11, ⟨none, .call (some 86) 44 [(.tmp 84), (.tmp 85)]⟩]
def QdZ : List GO := [qj 87 .add 3 80 1, qm 80 87]
def Q5F : LC := (.seq (.ops Qe2) (.seq (.cond (.tmp 81) .skip (.exit 4)) (.seq (.block 5 (.seq (.ops Qe1) (.ops Qe0))) (.ops QdZ))))
def QdY : List GO := [qm 88 5, qf 89 9 3, qV 90 9 89, ⟨none, .call (some 91) 45 [(.tmp 88), (.tmp 90)]⟩]
def QdX : List GO := [qj 92 .add 3 58 1, qm 58 92]
def Q5G : LC := (.seq (.ops Qe8) (.seq (.cond (.tmp 59) .skip (.exit 2)) (.seq (.block 3 (.seq (.ops Qe7) (.seq (.ops Qe6) (.seq (.ops Qe5) (.seq (.ops Qe4) (.seq (.seq (.ops Qe3) (.block 4 (.loop Q5F))) (.ops QdY))))))) (.ops QdX))))
def QdW : List GO := [qj 93 .add 3 32 1, qm 32 93]
def Q7p : LC := (.seq (.ops QgQ) (.seq (.cond (.tmp 33) .skip (.exit 0)) (.seq (.block 1 (.seq (.ops QgP) (.seq (.ops QgO) (.seq (.ops Qec) (.seq (.ops Qeb) (.seq (.ops Qea) (.seq (.ops Qe9) (.block 2 (.loop Q5G))))))))) (.ops QdW))))
def QdV : List GO := [qm 94 5, qn 95 94, qf 96 95 0, ql 97 96, qL 98 97, qj 99 .add 3 98 4, qj 100 .gtr 3 99 20000]
def QdU : List GO := [⟨none, .build 101 [(vi 0), (vi 0)] [(0, (1, (.const (vi 2)))), (1, (1, (.const (vi (-1)))))]⟩, qk 2 vn, qw 2 3 101]
def QdT : List GO := [qm 102 5, qn 103 102, qf 104 103 0, ql 105 104, ⟨none, .call (some 106) 15 [(.tmp 105)]⟩, qm 12 106]
def QdS : List GO := [qm 107 5, qn 108 107, qf 109 108 0, ql 110 109, qm 111 12, ⟨none, .conv 112 .u8 (.tmp 111)⟩, qm 113 12, ⟨none, .bin 114 .shr 37 (.tmp 113) (.const (.int .u64 8))⟩, ⟨none, .conv 115 .u8 (.tmp 114)⟩, qm 116 12, ⟨none, .bin 117 .shr 37 (.tmp 116) (.const (.int .u64 16))⟩, ⟨none, .conv 118 .u8 (.tmp 117)⟩, qm 119 12, ⟨none, .bin 120 .shr 37 (.tmp 119) (.const (.int .u64 24))⟩, ⟨none, .conv 121 .u8 (.tmp 120)⟩, ⟨none, .buildS 122 5 4 [(.int .u8 0), (.int .u8 0), (.int .u8 0), (.int .u8 0)] [(0, (1, (.tmp 112))), (1, (1, (.tmp 115))), (2, (1, (.tmp 118))), (3, (1, (.tmp 121)))]⟩, ⟨none, .raw ⟨(some 123), (.call ⟨(.builtin .append), #[(.tmp 110), (.tmp 122)], #[25, 25]⟩), 25, "", #[], none⟩⟩, ⟨none, .build 124 [(vi 0), (vi 0)] []⟩, qm 2 123, qw 2 3 124]
def codec_Encode_lc : LC := (.seq (.ops QgX) (.seq (.seq (.ops QgW) (.seq (.ops QgV) (.cond (.tmp 17) (.seq (.draw QgU QgZ) .ret) .skip))) (.seq (.ops QgT) (.seq (.ops QgS) (.seq (.seq (.ops QgR) (.block 0 (.loop Q7p))) (.seq (.seq (.ops QdV) (.cond (.tmp 100) (.seq (.ops QdU) .ret) .skip)) (.seq (.ops QdT) (.seq (.ops QdS) .ret))))))))
@[reducible] def Q2c : FuncId := 9
theorem Qed : lowF Tryz.prog Tryz.f9 = some codec_Encode_lc := by kernel_rfl
theorem QgY {a0 : Value} {w : World} {R : Ending → World → Prop} (h : codec_Encode_lc.wp Tryz.prog (retQ Tryz.prog [.tmp 2, .cell 3 30] R) (Qg [a0]) w) : Calls Tryz.prog Q2c ⟨[a0]⟩ w R :=
  Q6 Tryz.func9 Qed (by kernel_rfl) (by kernel_rfl) h

/- 13 -/
def Qh9 : List GO := [⟨none, .alloc 2 24 [vn]⟩, ⟨none, .alloc 3 30 [(vi 0), (vi 0)]⟩]
def Qh8 : List GO := [⟨none, .mkfn 8 53 [(.tmp 2), (.tmp 3)]⟩]
def Qh7 : List GO := []
def Qh6 : List GO := [qm 9 0, qL 10 9, qj 11 .sub 3 10 4, qm 4 11]
def Qh5 : List GO := [qm 12 4, qj 13 .lss 3 12 3]
def Qh4 : List GO := [qV 14 1 2, qm 15 0, qL 16 15, ⟨none, .build 17 [(vi 0), (vi 0)] [(0, (1, (.const (vi 5)))), (1, (1, (.tmp 16)))]⟩, qw 1 2 14, qw 2 3 17]
def Qh3 : List GO := [qm 18 0, qL 19 18, qj 20 .gtr 3 19 20000]
def Qh2 : List GO := [qV 21 1 2, ⟨none, .build 22 [(vi 0), (vi 0)] [(0, (1, (.const (vi 2)))), (1, (1, (.const (vi 20000))))]⟩, qw 1 2 21, qw 2 3 22]
def Qh1 : List GO := [qm 23 0, ⟨none, .sub 24 1 (.tmp 23) none (some (.const (vi 3))) none⟩, ⟨none, .raw ⟨(some 25), (.convert 25 9 (.tmp 24)), 9, "", #[], none⟩⟩, ⟨none, .bin 26 .neq 9 (.tmp 25) (.const (.string ⟨#[67, 72, 1]⟩))⟩]
def Qh0 : List GO := [qV 27 1 2, ⟨none, .build 28 [(vi 0), (vi 0)] [(0, (1, (.const (vi 4)))), (1, (1, (.const (vi 0))))]⟩, qw 1 2 27, qw 2 3 28]
def Qeo : List GO := [qm 29 0, qm 30 4, qi 31 1 29 30, ql 32 31, ⟨none, .conv 33 .u32 (.tmp 32)⟩, qm 34 0, qm 35 4, qj 36 .add 3 35 1, qi 37 1 34 36, ql 38 37, ⟨none, .conv 39 .u32 (.tmp 38)⟩, ⟨none, .bin 40 .shl 37 (.tmp 39) (.const (.int .u64 8))⟩, qt 41 .or 37 33 40, qm 42 0, qm 43 4, qj 44 .add 3 43 2, qi 45 1 42 44, ql 46 45, ⟨none, .conv 47 .u32 (.tmp 46)⟩, ⟨none, .bin 48 .shl 37 (.tmp 47) (.const (.int .u64 16))⟩, qt 49 .or 37 41 48, qm 50 0, qm 51 4, qj 52 .add 3 51 3, qi 53 1 50 52, ql 54 53, ⟨none, .conv 55 .u32 (.tmp 54)⟩, ⟨none, .bin 56 .shl 37 (.tmp 55) (.const (.int .u64 24))⟩, qt 57 .or 37 49 56, qm 5 57]
def Qer : List (List Nat) := [[],[],[0,1],[2],[3],[],[],[6],[5,7],[8],[9],[10],[4,11],[],[],[14],[13,15],[16],[17],[18],[12,19],[],[],[22],[21,23],[24],[25],[26],[20,27],[28,0,1,2,3,4,5,6,7,8,9,10,11,12,13,14,15,16,17,18,19,20,21,22,23,24,25,26,27,28]]
def Qen : List GO := [qm 58 0, qm 59 4, ⟨none, .sub 60 1 (.tmp 58) none (some (.tmp 59)) none⟩, ⟨none, .call (some 61) 15 [(.tmp 60)]⟩, qm 62 5, qt 63 .neq 37 61 62]
def Qem : List GO := [qV 64 1 2, qm 65 4, ⟨none, .build 66 [(vi 0), (vi 0)] [(0, (1, (.const (vi 16)))), (1, (1, (.tmp 65)))]⟩, qw 1 2 64, qw 2 3 66]
def Qel : List GO := [qm 67 0, qm 68 4, ⟨none, .sub 69 1 (.tmp 67) none (some (.tmp 68)) none⟩, ⟨none, .build 70 [vn, (vi 0)] [(0, (1, (.tmp 69))), (1, (1, (.const (vi 3))))]⟩, qb 71 102 70, qm 6 71]
def Qek : List GO := [qm 72 6, qm 73 6, ⟨none, .raw ⟨(some 74), (.makeFunc (.func 55) #[(.tmp 73)] #[]), 104, "", #[], none⟩⟩, ⟨none, .call (some 75) 54 [(.tmp 72), (.tmp 74)]⟩, qf 76 2 0, qs 76 75]
def Qej : List GO := [qm 77 6, qn 78 77, qf 79 78 1, ql 80 79, qm 81 4, qt 82 .lss 3 80 81]
def Qei : List GO := [⟨none, .build 83 [vn] []⟩, qm 84 6, qn 85 84, qf 86 85 1, ql 87 86, ⟨none, .build 88 [(vi 0), (vi 0)] [(0, (1, (.const (vi 4)))), (1, (1, (.tmp 87)))]⟩, qw 1 2 83, qw 2 3 88]
def Qeq : List (List Nat) := [[],[],[1],[2],[3],[4],[0,0],[5,6,0,1,2,3,4,5,6]]
def Qeh : List GO := [qV 89 1 2, ⟨none, .call (some 90) 41 [(.tmp 89)]⟩, ⟨none, .alloc 7 30 [(vi 0), (vi 0)]⟩, qw 2 7 90]
def Qeg : List GO := [qf 91 7 0, ql 92 91, qj 93 .neq 3 92 0]
def Qef : List GO := [⟨none, .build 94 [vn] []⟩, qm 95 4, ⟨none, .build 96 [(vi 0), (vi 0)] [(0, (1, (.const (vi 3)))), (1, (1, (.tmp 95)))]⟩, qw 1 2 94, qw 2 3 96]
def Qee : List GO := [qV 97 1 2, ⟨none, .build 98 [(vi 0), (vi 0)] []⟩, qw 1 2 97, qw 2 3 98]
def codec_Decode_ld : LD := (.seq (.pl (.ops Qh9)) (.seq (.sp Qh8 (.dfr none (.tmp 8)) Qh7) (.pl (.seq (.ops Qh6) (.seq (.seq (.ops Qh5) (.cond (.tmp 13) (.seq (.ops Qh4) .ret) .skip)) (.seq (.seq (.ops Qh3) (.cond (.tmp 20) (.seq (.ops Qh2) .ret) .skip)) (.seq (.seq (.ops Qh1) (.cond (.tmp 26) (.seq (.ops Qh0) .ret) .skip)) (.seq (.draw Qeo Qer) (.seq (.seq (.ops Qen) (.cond (.tmp 63) (.seq (.ops Qem) .ret) .skip)) (.seq (.ops Qel) (.seq (.ops Qek) (.seq (.seq (.ops Qej) (.cond (.tmp 82) (.seq (.draw Qei Qeq) .ret) .skip)) (.seq (.seq (.ops Qeh) (.seq (.ops Qeg) (.cond (.tmp 93) (.seq (.ops Qef) .ret) .skip))) (.seq (.ops Qee) .ret))))))))))))))
@[reducible] def Q1P : FuncId := 13
theorem Qep : QtC Tryz.prog Tryz.f13 = some codec_Decode_ld := by kernel_rfl
theorem Qha {a0 : Value} {w : World} {R : Ending → World → Prop} (h : codec_Decode_ld.wpD Tryz.prog (retD Tryz.prog [.cell 2 24, .cell 3 30] R) [] (Qg [a0]) w) : Calls Tryz.prog Q1P ⟨[a0]⟩ w R :=
  Qn6 Tryz.func13 Qep (by kernel_rfl) (by kernel_rfl) h
/- 11 -/
def Qla : List GO := [qk 4 (.bool false)]
def Ql9 : List GO := [qm 5 0, ⟨none, .raw ⟨(some 6), (.convert 25 9 (.tmp 5)), 9, "", #[], none⟩⟩, qm 7 1, ⟨none, .raw ⟨(some 8), (.convert 25 9 (.tmp 7)), 9, "", #[], none⟩⟩, qt 9 .eql 9 6 8, qm 4 9]
def R_SameBytes_lc : LC := (.seq (.ops Qla) (.seq (.ops Ql9) .ret))
@[reducible] def Qir : FuncId := 11
theorem Qiq : lowF Tryz.prog Tryz.f11 = some R_SameBytes_lc := by kernel_rfl
theorem Qlb {a0 a1 : Value} {w : World} {R : Ending → World → Prop} (h : R_SameBytes_lc.wp Tryz.prog (retQ Tryz.prog [.tmp 4] R) (Qg [a0, a1]) w) : Calls Tryz.prog Qir ⟨[a0, a1]⟩ w R :=
  Q6 Tryz.func11 Qiq (by kernel_rfl) (by kernel_rfl) h

/- 15 -/
def Qqe : List GO := [qk 2 (.int .u32 0)]
def Qqd : List GO := [qk 3 (.int .u32 4294967295)]
def Qqc : List GO := [qm 6 0, qL 7 6, qk 8 (vi 0)]
def Qqb : List GO := [qt 9 .lss 3 8 7]
def Qqa : List GO := [qi 10 1 6 8, ql 11 10, qm 5 11]
def Qq9 : List GO := [qm 12 3, qm 13 5, ⟨none, .conv 14 .u32 (.tmp 13)⟩, qt 15 .xor 37 12 14, qm 3 15]
def Qq8 : List GO := [qk 16 (vi 0)]
def Qq7 : List GO := [qj 17 .lss 3 16 8]
def Qq6 : List GO := [qm 18 3, ⟨none, .bin 19 .shr 37 (.tmp 18) (.const (.int .u64 1))⟩, qm 20 3, ⟨none, .bin 21 .and 37 (.tmp 20) (.const (.int .u32 1))⟩, ⟨none, .un 22 .neg (.tmp 21)⟩, ⟨none, .bin 23 .and 37 (.const (.int .u32 3988292384)) (.tmp 22)⟩, qt 24 .xor 37 19 23, qm 3 24]
def Qq5 : List GO := [qj 25 .add 3 16 1, qm 16 25]
def QdI : LC := (.seq (.ops Qq7) (.seq (.cond (.tmp 17) .skip (.exit 2)) (.seq (.block 3 (.ops Qq6)) (.ops Qq5))))
def QmM : List GO := [qj 26 .add 3 8 1, qm 8 26]
def QdJ : LC := (.seq (.ops Qqb) (.seq (.cond (.tmp 9) .skip (.exit 0)) (.seq (.block 1 (.seq (.ops Qqa) (.seq (.ops Qq9) (.seq (.ops Qq8) (.block 2 (.loop QdI)))))) (.ops QmM))))
def QmL : List GO := [qm 27 3, ⟨none, .un 28 .xor (.tmp 27)⟩, qm 2 28]
def codec_Sum_lc : LC := (.seq (.ops Qqe) (.seq (.ops Qqd) (.seq (.seq (.ops Qqc) (.block 0 (.loop QdJ))) (.seq (.ops QmL) .ret))))
@[reducible] def Qqg : FuncId := 15
theorem QmN : lowF Tryz.prog Tryz.f15 = some codec_Sum_lc := by kernel_rfl
theorem Qqf {a0 : Value} {w : World} {R : Ending → World → Prop} (h : codec_Sum_lc.wp Tryz.prog (retQ Tryz.prog [.tmp 2] R) (Qg [a0]) w) : Calls Tryz.prog Qqg ⟨[a0]⟩ w R :=
  Q6 Tryz.func15 QmN (by kernel_rfl) (by kernel_rfl) h

/- 42 -/
def Q97 : List GO := [qm 6 1, qL 7 6, qk 8 (vi 0)]
def Q96 : List GO := [qt 9 .lss 3 8 7]
def Q95 : List GO := [qi 10 1 6 8, ql 11 10, qm 5 11]
def Q94 : List GO := [qm 12 0, qm 13 5, ⟨none, .buildS 14 2 1 [(vi 0)] [(0, (1, (.tmp 13)))]⟩, ⟨none, .call (some 15) 94 [(.tmp 12), (.tmp 14)]⟩]
def Q93 : List GO := [qj 16 .add 3 8 1, qm 8 16]
def Q4a : LC := (.seq (.ops Q96) (.seq (.cond (.tmp 9) .skip (.exit 0)) (.seq (.block 1 (.seq (.ops Q95) (.ops Q94))) (.ops Q93))))
def codec_writer_int_lc : LC := (.seq (.ops Q97) (.block 0 (.loop Q4a)))
@[reducible] def Q3I : FuncId := 42
theorem Q85 : lowF Tryz.prog Tryz.f42 = some codec_writer_int_lc := by kernel_rfl
theorem Q98 {a0 a1 : Value} {w : World} {R : Ending → World → Prop} (h : codec_writer_int_lc.wp Tryz.prog (retQ Tryz.prog [] R) (Qg [a0, a1]) w) : Calls Tryz.prog Q3I ⟨[a0, a1]⟩ w R :=
  Q6 Tryz.func42 Q85 (by kernel_rfl) (by kernel_rfl) h

/- 43 -/
def Q6P : List GO := [qm 6 0, qm 7 1, qL 8 7, ⟨none, .buildS 9 3 1 [(vi 0)] [(0, (1, (.tmp 8)))]⟩, ⟨none, .call (some 10) 42 [(.tmp 6), (.tmp 9)]⟩]
def Q6O : List GO := [qm 11 1, qL 12 11, qk 13 (vi 0)]
def Q6N : List GO := [qt 14 .lss 3 13 12]
def Q6M : List GO := [qi 15 3 11 13, qV 16 3 15, ⟨none, .alloc 5 112 [(vi 0), (vi 0), vn]⟩, qw 3 5 16]
def Q6L : List GO := [qm 17 0, qf 18 5 0, ql 19 18, ⟨none, .buildS 20 3 1 [(vi 0)] [(0, (1, (.tmp 19)))]⟩, ⟨none, .call (some 21) 42 [(.tmp 17), (.tmp 20)]⟩]
def Q6K : List GO := [qf 22 5 0, ql 23 22, qj 24 .neq 3 23 1]
def Q6J : List GO := [qm 25 0, qf 26 5 1, ql 27 26, ⟨none, .buildS 28 3 1 [(vi 0)] [(0, (1, (.tmp 27)))]⟩, ⟨none, .call (some 29) 42 [(.tmp 25), (.tmp 28)]⟩]
def Q6I : List GO := [qf 30 5 0, ql 31 30, qj 32 .eql 3 31 3]
def Q6H : List GO := [qm 33 0, qf 34 5 2, ql 35 34, ⟨none, .call (some 36) 43 [(.tmp 33), (.tmp 35)]⟩]
def Q6G : List GO := [qj 37 .add 3 13 1, qm 13 37]
def Q3C : LC := (.seq (.ops Q6N) (.seq (.cond (.tmp 14) .skip (.exit 0)) (.seq (.block 1 (.seq (.ops Q6M) (.seq (.ops Q6L) (.seq (.seq (.ops Q6K) (.cond (.tmp 24) (.ops Q6J) .skip)) (.seq (.ops Q6I) (.cond (.tmp 32) (.ops Q6H) .skip)))))) (.ops Q6G))))
def codec_writer_types_lc : LC := (.seq (.ops Q6P) (.seq (.ops Q6O) (.block 0 (.loop Q3C))))
@[reducible] def Q10 : FuncId := 43
theorem Q5R : lowF Tryz.prog Tryz.f43 = some codec_writer_types_lc := by kernel_rfl
theorem Q6Q {a0 a1 : Value} {w : World} {R : Ending → World → Prop} (h : codec_writer_types_lc.wp Tryz.prog (retQ Tryz.prog [] R) (Qg [a0, a1]) w) : Calls Tryz.prog Q10 ⟨[a0, a1]⟩ w R :=
  Q6 Tryz.func43 Q5R (by kernel_rfl) (by kernel_rfl) h

/- 44 -/
def Q9i : List GO := [qb 3 57 1]
def Q9h : List GO := [qf 7 3 0, ql 8 7, ⟨none, .call (some 9) 95 [(.tmp 8)]⟩, qm 4 9]
def Q9g : List GO := [qm 10 0, qf 11 3 0, ql 12 11, ⟨none, .buildS 13 3 1 [(vi 0)] [(0, (1, (.tmp 12)))]⟩, ⟨none, .call (some 14) 42 [(.tmp 10), (.tmp 13)]⟩]
def Q9f : List GO := [qf 15 3 1, ql 16 15, qf 17 3 2, ql 18 17, qf 19 3 3, ql 20 19, qf 21 3 4, ql 22 21, ⟨none, .buildS 23 3 4 [(vi 0), (vi 0), (vi 0), (vi 0)] [(0, (1, (.tmp 16))), (1, (1, (.tmp 18))), (2, (1, (.tmp 20))), (3, (1, (.tmp 22)))]⟩, qL 24 23, qk 25 (vi 0)]
def Q9e : List GO := [qt 26 .lss 3 25 24]
def Q9d : List GO := [qm 27 25, qi 28 1 23 25, ql 29 28, qm 5 27, qm 6 29]
def Q9c : List GO := [qm 30 4, qm 31 5, qt 32 .shr 3 30 31, qj 33 .and 3 32 1, qj 34 .eql 3 33 1]
def Q9b : List GO := [qm 35 0, qm 36 6, ⟨none, .buildS 37 3 1 [(vi 0)] [(0, (1, (.tmp 36)))]⟩, ⟨none, .call (some 38) 42 [(.tmp 35), (.tmp 37)]⟩]
def Q9a : List GO := [qj 39 .add 3 25 1, qm 25 39]
def Q4b : LC := (.seq (.ops Q9e) (.seq (.cond (.tmp 26) .skip (.exit 0)) (.seq (.block 1 (.seq (.ops Q9d) (.seq (.ops Q9c) (.cond (.tmp 34) (.ops Q9b) .skip)))) (.ops Q9a))))
def Q99 : List GO := [qm 40 4, qj 41 .and 3 40 64, qj 42 .neq 3 41 0]
def Q8a : List GO := [qm 43 0, qf 44 3 5, ql 45 44, ⟨none, .buildS 46 2 1 [(vi 0)] [(0, (1, (.tmp 45)))]⟩, ⟨none, .call (some 47) 94 [(.tmp 43), (.tmp 46)]⟩]
def Q89 : List GO := [qm 48 4, qj 49 .and 3 48 16, qj 50 .neq 3 49 0]
def Q88 : List GO := [qm 51 0, qf 52 3 6, ql 53 52, ⟨none, .call (some 54) 96 [(.tmp 51), (.tmp 53)]⟩]
def Q87 : List GO := [qm 55 4, qj 56 .and 3 55 32, qj 57 .neq 3 56 0]
def Q86 : List GO := [qm 58 0, qf 59 3 7, ql 60 59, ⟨none, .call (some 61) 96 [(.tmp 58), (.tmp 60)]⟩]
def codec_writer_ins_lc : LC := (.seq (.ops Q9i) (.seq (.ops Q9h) (.seq (.ops Q9g) (.seq (.seq (.ops Q9f) (.block 0 (.loop Q4b))) (.seq (.seq (.ops Q99) (.cond (.tmp 42) (.ops Q8a) .skip)) (.seq (.seq (.ops Q89) (.cond (.tmp 50) (.ops Q88) .skip)) (.seq (.ops Q87) (.cond (.tmp 57) (.ops Q86) .skip))))))))
@[reducible] def Q15 : FuncId := 44
theorem Q8b : lowF Tryz.prog Tryz.f44 = some codec_writer_ins_lc := by kernel_rfl
theorem Q9j {a0 a1 : Value} {w : World} {R : Ending → World → Prop} (h : codec_writer_ins_lc.wp Tryz.prog (retQ Tryz.prog [] R) (Qg [a0, a1]) w) : Calls Tryz.prog Q15 ⟨[a0, a1]⟩ w R :=
  Q6 Tryz.func44 Q8b (by kernel_rfl) (by kernel_rfl) h

/- 45 -/
def Q9t : List GO := [qb 3 45 1]
def Q9s : List GO := [qm 4 0, qf 5 3 0, ql 6 5, ⟨none, .buildS 7 3 1 [(vi 0)] [(0, (1, (.tmp 6)))]⟩, ⟨none, .call (some 8) 42 [(.tmp 4), (.tmp 7)]⟩]
def Q9r : List GO := [qf 9 3 0, ql 10 9]
def Q9q : List GO := [qj 12 .eql 3 10 1, qm 11 12]
def Q9p : List GO := [qm 13 0, qf 14 3 2, qV 15 3 14, ⟨none, .call (some 16) 97 [(.tmp 13), (.tmp 15)]⟩]
def Q9o : List GO := [qj 18 .eql 3 10 2, qm 17 18]
def Q9n : List GO := [qm 19 0, qf 20 3 1, ql 21 20, ⟨none, .buildS 22 3 1 [(vi 0)] [(0, (1, (.tmp 21)))]⟩, ⟨none, .call (some 23) 42 [(.tmp 19), (.tmp 22)]⟩]
def Q9m : List GO := [qm 24 0, qf 25 3 2, qV 26 3 25, ⟨none, .call (some 27) 97 [(.tmp 24), (.tmp 26)]⟩]
def Q9l : List GO := [qm 28 0, qf 29 3 5, qV 30 3 29, ⟨none, .call (some 31) 97 [(.tmp 28), (.tmp 30)]⟩]
def Q9k : List GO := [qj 33 .eql 3 10 3, qm 32 33]
def Q8c : List GO := [qm 34 0, qf 35 3 8, ql 36 35, ⟨none, .call (some 37) 96 [(.tmp 34), (.tmp 36)]⟩]
def codec_writer_end_lc : LC := (.seq (.ops Q9t) (.seq (.ops Q9s) (.seq (.ops Q9r) (.block 0 (.seq (.ops Q9q) (.cond (.tmp 11) (.ops Q9p) (.seq (.ops Q9o) (.cond (.tmp 17) (.seq (.ops Q9n) (.seq (.ops Q9m) (.ops Q9l))) (.seq (.ops Q9k) (.cond (.tmp 32) (.ops Q8c) .skip))))))))))
@[reducible] def Q1j : FuncId := 45
theorem Q8d : lowF Tryz.prog Tryz.f45 = some codec_writer_end_lc := by kernel_rfl
theorem Q9u {a0 a1 : Value} {w : World} {R : Ending → World → Prop} (h : codec_writer_end_lc.wp Tryz.prog (retQ Tryz.prog [] R) (Qg [a0, a1]) w) : Calls Tryz.prog Q1j ⟨[a0, a1]⟩ w R :=
  Q6 Tryz.func45 Q8d (by kernel_rfl) (by kernel_rfl) h

/- 53 -/
def Qca : List GO := []
def Qc9 : List GO := [qm 2 5]
def Qc8 : List GO := [qm 6 2, ⟨none, .bin 7 .neq 20 (.tmp 6) (.const .nilIface)⟩]
def Qc7 : List GO := [qm 9 2, ⟨none, .raw ⟨(some 10), (.typeAssert (.tmp 9) 20 98 true), 99, "", #[], none⟩⟩, qm 8 10, qx 11 8 0, qx 12 8 1, ⟨none, .alloc 3 98 [(vi 0), (vi 0)]⟩, qw 2 3 11, qm 4 12]
def Qc6 : List GO := [qm 13 4, ⟨none, .un 14 .not (.tmp 13)⟩]
def Qc5 : List GO := [qm 15 2, ⟨none, .raw ⟨none, (.panic (.tmp 15)), 0, "", #[], none⟩⟩]
def Qc4 : List GO := [⟨none, .build 16 [vn] []⟩, qV 17 2 3, qw 1 0 16, qw 2 1 17]
def Qcb : List (List Nat) := [[],[],[0,0],[1,2,0,1,2]]
def codec_Decode_1_ld : LD := (.seq (.sp Qca (.rcv (some 5)) Qc9) (.pl (.seq (.ops Qc8) (.cond (.tmp 7) (.seq (.ops Qc7) (.seq (.seq (.ops Qc6) (.cond (.tmp 14) (.ops Qc5) .skip)) (.draw Qc4 Qcb))) .skip))))
@[reducible] def Q4J : FuncId := 53
theorem QaL : QtC Tryz.prog Tryz.f53 = some codec_Decode_1_ld := by kernel_rfl
theorem Q4o {a0 a1 : Value} {u : FrameMode} {w : World} {R : Ending → FrameMode → World → Prop} (h : codec_Decode_1_ld.wpR Tryz.prog (retR Tryz.prog [] R) u (Qg [a0, a1]) w) : CallsD Tryz.prog Q4J ⟨[a0, a1]⟩ u w R :=
  QjK Tryz.func53 QaL (by kernel_rfl) (by kernel_rfl) h

/- 94 -/
def Q80 : List GO := [qm 7 1, qL 8 7, qk 9 (vi 0)]
def Q7Z : List GO := [qt 10 .lss 3 9 8]
def Q7Y : List GO := [qi 11 1 7 9, ql 12 11, qm 5 12]
def Q7X : List GO := [qm 13 5, ⟨none, .conv 14 .u64 (.tmp 13)⟩, ⟨none, .bin 15 .shl 171 (.tmp 14) (.const (.int .u64 1))⟩, qm 16 5, ⟨none, .bin 17 .shr 2 (.tmp 16) (.const (.int .u64 63))⟩, ⟨none, .conv 18 .u64 (.tmp 17)⟩, qt 19 .xor 171 15 18, qm 6 19]
def Q7W : List GO := [qm 20 6, ⟨none, .bin 21 .geq 171 (.tmp 20) (.const (.int .u64 128))⟩]
def Q7V : List GO := [qm 24 0, qm 25 0, qn 26 25, qf 27 26 0, ql 28 27, qm 29 6, ⟨none, .conv 30 .u8 (.tmp 29)⟩, ⟨none, .bin 31 .or 5 (.tmp 30) (.const (.int .u8 128))⟩, ⟨none, .buildS 32 5 1 [(.int .u8 0)] [(0, (1, (.tmp 31)))]⟩, ⟨none, .raw ⟨(some 33), (.call ⟨(.builtin .append), #[(.tmp 28), (.tmp 32)], #[25, 25]⟩), 25, "", #[], none⟩⟩, qn 34 24, qf 35 34 0, qs 35 33]
def Q7U : List GO := [qm 22 6, ⟨none, .bin 23 .shr 171 (.tmp 22) (.const (.int .u64 7))⟩, qm 6 23]
def Q3N : LC := (.seq (.seq (.ops Q7W) (.cond (.tmp 21) .skip (.exit 2))) (.seq (.block 3 (.ops Q7V)) (.ops Q7U)))
def Q7T : List GO := [qm 36 0, qm 37 0, qn 38 37, qf 39 38 0, ql 40 39, qm 41 6, ⟨none, .conv 42 .u8 (.tmp 41)⟩, ⟨none, .buildS 43 5 1 [(.int .u8 0)] [(0, (1, (.tmp 42)))]⟩, ⟨none, .raw ⟨(some 44), (.call ⟨(.builtin .append), #[(.tmp 40), (.tmp 43)], #[25, 25]⟩), 25, "", #[], none⟩⟩, qn 45 36, qf 46 45 0, qs 46 44]
def Q7S : List GO := [qj 47 .add 3 9 1, qm 9 47]
def Q3O : LC := (.seq (.ops Q7Z) (.seq (.cond (.tmp 10) .skip (.exit 0)) (.seq (.block 1 (.seq (.ops Q7Y) (.seq (.ops Q7X) (.seq (.block 2 (.loop Q3N)) (.ops Q7T))))) (.ops Q7S))))
def codec_writer_long_lc : LC := (.seq (.ops Q80) (.block 0 (.loop Q3O)))
@[reducible] def Q3s : FuncId := 94
theorem Q6S : lowF Tryz.prog Tryz.f94 = some codec_writer_long_lc := by kernel_rfl
theorem Q81 {a0 a1 : Value} {w : World} {R : Ending → World → Prop} (h : codec_writer_long_lc.wp Tryz.prog (retQ Tryz.prog [] R) (Qg [a0, a1]) w) : Calls Tryz.prog Q3s ⟨[a0, a1]⟩ w R :=
  Q6 Tryz.func94 Q6S (by kernel_rfl) (by kernel_rfl) h

/- 95 -/
def QgM : List GO := [qk 2 (vi 0)]
def QgL : List GO := [qm 3 0, qj 4 .lss 3 3 0, qm 5 4, qg 5 false (qm 6 0), qg 5 false (qj 7 .gtr 3 6 14), ⟨none, .pick 8 (.tmp 5) (.const (.bool true)) (.tmp 7)⟩]
def QgK : List GO := [qk 2 (vi 0)]
def QgJ : List GO := [⟨none, .build 9 [(vi 0), (vi 0), (vi 0), (vi 0), (vi 0), (vi 0), (vi 0), (vi 0), (vi 0), (vi 0), (vi 0), (vi 0), (vi 0), (vi 0), (vi 0)] [(0, (1, (.const (vi 0)))), (1, (1, (.const (vi 64)))), (2, (1, (.const (vi 11)))), (3, (1, (.const (vi 0)))), (4, (1, (.const (vi 1)))), (5, (1, (.const (vi 33)))), (6, (1, (.const (vi 9)))), (7, (1, (.const (vi 11)))), (8, (1, (.const (vi 3)))), (9, (1, (.const (vi 3)))), (10, (1, (.const (vi 7)))), (11, (1, (.const (vi 1)))), (12, (1, (.const (vi 0)))), (13, (1, (.const (vi 1)))), (14, (1, (.const (vi 56))))]⟩, qm 10 0, ⟨none, .raw ⟨(some 11), (.index 172 (.tmp 9) (.tmp 10)), 3, "", #[], none⟩⟩, qm 2 11]
def codec_fields_lc : LC := (.seq (.ops QgM) (.seq (.seq (.ops QgL) (.cond (.tmp 8) (.seq (.ops QgK) .ret) .skip)) (.seq (.ops QgJ) .ret)))
@[reducible] def Q4n : FuncId := 95
theorem QdR : lowF Tryz.prog Tryz.f95 = some codec_fields_lc := by kernel_rfl
theorem QgN {a0 : Value} {w : World} {R : Ending → World → Prop} (h : codec_fields_lc.wp Tryz.prog (retQ Tryz.prog [.tmp 2] R) (Qg [a0]) w) : Calls Tryz.prog Q4n ⟨[a0]⟩ w R :=
  Q6 Tryz.func95 QdR (by kernel_rfl) (by kernel_rfl) h

/- 96 -/
def Q83 : List GO := [qm 4 0, qm 5 1, qL 6 5, ⟨none, .buildS 7 3 1 [(vi 0)] [(0, (1, (.tmp 6)))]⟩, ⟨none, .call (some 8) 42 [(.tmp 4), (.tmp 7)]⟩]
def Q82 : List GO := [qm 9 0, qm 10 1, ⟨none, .call (some 11) 42 [(.tmp 9), (.tmp 10)]⟩]
def codec_writer_ints_lc : LC := (.seq (.ops Q83) (.ops Q82))
@[reducible] def Q4Q : FuncId := 96
theorem Q6T : lowF Tryz.prog Tryz.f96 = some codec_writer_ints_lc := by kernel_rfl
theorem Q84 {a0 a1 : Value} {w : World} {R : Ending → World → Prop} (h : codec_writer_ints_lc.wp Tryz.prog (retQ Tryz.prog [] R) (Qg [a0, a1]) w) : Calls Tryz.prog Q4Q ⟨[a0, a1]⟩ w R :=
  Q6 Tryz.func96 Q6T (by kernel_rfl) (by kernel_rfl) h

/- 97 -/
def QaB : List GO := [qb 3 43 1]
def QaA : List GO := [qm 4 0, qf 5 3 0, ql 6 5, ⟨none, .buildS 7 3 1 [(vi 0)] [(0, (1, (.tmp 6)))]⟩, ⟨none, .call (some 8) 42 [(.tmp 4), (.tmp 7)]⟩]
def Qaz : List GO := [qm 9 0, qf 10 3 1, ql 11 10, ⟨none, .call (some 12) 96 [(.tmp 9), (.tmp 11)]⟩]
def Qay : List GO := [qm 13 0, qf 14 3 2, ql 15 14, ⟨none, .call (some 16) 96 [(.tmp 13), (.tmp 15)]⟩]
def codec_writer_to_lc : LC := (.seq (.ops QaB) (.seq (.ops QaA) (.seq (.ops Qaz) (.ops Qay))))
@[reducible] def Q6R : FuncId := 97
theorem Q92 : lowF Tryz.prog Tryz.f97 = some codec_writer_to_lc := by kernel_rfl
theorem QaC {a0 a1 : Value} {w : World} {R : Ending → World → Prop} (h : codec_writer_to_lc.wp Tryz.prog (retQ Tryz.prog [] R) (Qg [a0, a1]) w) : Calls Tryz.prog Q6R ⟨[a0, a1]⟩ w R :=
  Q6 Tryz.func97 Q92 (by kernel_rfl) (by kernel_rfl) h

end Go.Proofs.YtanlkfeogoganaaGreat
namespace Go.Proofs.YtanlkfeogoganaaGreat
open Go.Lir
set_option maxRecDepth 100000

/- 54 -/
def Q6h : List GO := [qk 4 vn]
def Q6g : List GO := [qm 8 0, qn 9 8, qf 10 9 1, ql 11 10, qm 5 11]
def Q6f : List GO := [qm 12 0, ⟨none, .call (some 13) 102 [(.tmp 12)]⟩, qm 6 13]
def Q6e : List GO := [qm 14 6, qj 15 .lss 2 14 0, qm 16 15, qg 16 false (qm 17 6), qg 16 false (qm 18 0), qg 16 false (qn 19 18), qg 16 false (qf 20 19 0), qg 16 false (ql 21 20), qg 16 false (qL 22 21), qg 16 false (qm 23 0), qg 16 false (qn 24 23), qg 16 false (qf 25 24 1), qg 16 false (ql 26 25), qg 16 false (qt 27 .sub 3 22 26), qg 16 false (qt 28 .gtr 2 17 27), ⟨none, .pick 29 (.tmp 16) (.const (.bool true)) (.tmp 28)⟩]
def Q6j : List (List Nat) := [[],[0],[1],[2],[2],[4,2],[5,2],[6,2],[7,2],[2],[9,2],[10,2],[11,2],[8,12,2],[3,13,2],[2,14]]
def Q6d : List GO := [qm 30 5, ⟨none, .build 31 [(vi 0), (vi 0)] [(0, (1, (.const (vi 2)))), (1, (1, (.tmp 30)))]⟩, ⟨none, .mki 32 98 (.tmp 31)⟩, ⟨none, .raw ⟨none, (.panic (.tmp 32)), 0, "", #[], none⟩⟩]
def Q6c : List GO := [qk 7 vn]
def Q6b : List GO := [qm 33 6, qk 34 (vi 0)]
def Q6a : List GO := [qt 35 .lss 2 34 33]
def Q69 : List GO := [qm 36 7, qm 37 1, ⟨none, .callv (some 38) (.tmp 37) []⟩, ⟨none, .buildS 39 53 1 [(vi 0), vn, vn, vn] [(0, (4, (.tmp 38)))]⟩, ⟨none, .raw ⟨(some 40), (.call ⟨(.builtin .append), #[(.tmp 36), (.tmp 39)], #[22, 22]⟩), 22, "", #[], none⟩⟩, qm 7 40]
def Q68 : List GO := [qj 41 .add 2 34 1, qm 34 41]
def Q3l : LC := (.seq (.ops Q6a) (.seq (.cond (.tmp 35) .skip (.exit 0)) (.seq (.block 1 (.ops Q69)) (.ops Q68))))
def Q5o : List GO := [qm 42 7, qm 4 42]
def codec_list_api_Func_lc : LC := (.seq (.ops Q6h) (.seq (.ops Q6g) (.seq (.ops Q6f) (.seq (.seq (.draw Q6e Q6j) (.cond (.tmp 29) (.ops Q6d) .skip)) (.seq (.ops Q6c) (.seq (.seq (.ops Q6b) (.block 0 (.loop Q3l))) (.seq (.ops Q5o) .ret)))))))
@[reducible] def Q2e : FuncId := 54
theorem Q5p : lowF Tryz.prog Tryz.f54 = some codec_list_api_Func_lc := by kernel_rfl
theorem Q6i {a0 a1 : Value} {w : World} {R : Ending → World → Prop} (h : codec_list_api_Func_lc.wp Tryz.prog (retQ Tryz.prog [.tmp 4] R) (Qg [a0, a1]) w) : Calls Tryz.prog Q2e ⟨[a0, a1]⟩ w R :=
  Q6 Tryz.func54 Q5p (by kernel_rfl) (by kernel_rfl) h

/- 55 -/
def Q4Y : List GO := [⟨none, .alloc 2 53 [(vi 0), vn, vn, vn]⟩]
def Q4X : List GO := [qm 4 0, ⟨none, .call (some 5) 103 [(.tmp 4)]⟩, ⟨none, .build 6 [(vi 0), vn, vn, vn] [(0, (1, (.tmp 5)))]⟩, ⟨none, .alloc 3 53 [(vi 0), vn, vn, vn]⟩, qw 4 3 6]
def Q4W : List GO := [qm 7 0, ⟨none, .call (some 8) 104 [(.tmp 7), (.const (vi 0))]⟩, qf 9 3 1, qs 9 8]
def Q4V : List GO := [qm 10 0, ⟨none, .call (some 11) 104 [(.tmp 10), (.const (vi 0))]⟩, qf 12 3 2, qs 12 11]
def Q4U : List GO := [qm 13 0, qm 14 0, ⟨none, .raw ⟨(some 15), (.makeFunc (.func 106) #[(.tmp 14)] #[]), 109, "", #[], none⟩⟩, ⟨none, .call (some 16) 105 [(.tmp 13), (.tmp 15)]⟩, qf 17 3 3, qs 17 16]
def Q4T : List GO := [qV 18 4 3, qw 4 2 18]
def codec_reader_function_lc : LC := (.seq (.ops Q4Y) (.seq (.ops Q4X) (.seq (.ops Q4W) (.seq (.ops Q4V) (.seq (.ops Q4U) (.seq (.ops Q4T) .ret))))))
@[reducible] def Q2v : FuncId := 55
theorem Q4I : lowF Tryz.prog Tryz.f55 = some codec_reader_function_lc := by kernel_rfl
theorem Q4Z {a0 : Value} {w : World} {R : Ending → World → Prop} (h : codec_reader_function_lc.wp Tryz.prog (retQ Tryz.prog [.cell 2 53] R) (Qg [a0]) w) : Calls Tryz.prog Q2v ⟨[a0]⟩ w R :=
  Q6 Tryz.func55 Q4I (by kernel_rfl) (by kernel_rfl) h

/- 102 -/
def Q8n : List GO := [qk 2 (vi 0)]
def Q8m : List GO := [qk 3 (.int .u64 0)]
def Q8l : List GO := [qk 6 (vi 0)]
def Q8k : List GO := [qj 7 .lss 3 6 10]
def Q8j : List GO := [qm 8 6, qm 4 8]
def Q8i : List GO := [qm 9 0, qn 10 9, qf 11 10 1, ql 12 11, qm 13 0, qn 14 13, qf 15 14 0, ql 16 15, qL 17 16, qt 18 .geq 3 12 17]
def Q8q : List (List Nat) := [[],[0],[1],[2],[],[4],[5],[6],[7],[3,8]]
def Q8h : List GO := [qm 19 0, qn 20 19, qf 21 20 0, ql 22 21, qL 23 22, ⟨none, .build 24 [(vi 0), (vi 0)] [(0, (1, (.const (vi 5)))), (1, (1, (.tmp 23)))]⟩, ⟨none, .mki 25 98 (.tmp 24)⟩, ⟨none, .raw ⟨none, (.panic (.tmp 25)), 0, "", #[], none⟩⟩]
def Q8g : List GO := [qm 26 0, qn 27 26, qf 28 27 0, ql 29 28, qm 30 0, qn 31 30, qf 32 31 1, ql 33 32, qi 34 1 29 33, ql 35 34, qm 5 35]
def Q8p : List (List Nat) := [[],[0],[1],[2],[],[4],[5],[6],[3,7],[8],[9,0,1,2,3,4,5,6,7,8,9]]
def Q8f : List GO := [qm 36 4, qj 37 .eql 3 36 9, qm 38 37, qg 38 true (qm 39 5), ⟨some (38, true), .bin 40 .gtr 5 (.tmp 39) (.const (.int .u8 1))⟩, ⟨none, .pick 41 (.tmp 38) (.tmp 40) (.const (.bool false))⟩, qm 42 41, qg 42 false (qm 43 4), qg 42 false (qj 44 .gtr 3 43 0), qg 42 false (qm 45 44), qg 45 true (qm 46 5), ⟨some (45, true), .bin 47 .eql 5 (.tmp 46) (.const (.int .u8 0))⟩, ⟨some (42, false), .pick 48 (.tmp 45) (.tmp 47) (.const (.bool false))⟩, ⟨none, .pick 49 (.tmp 42) (.const (.bool true)) (.tmp 48)⟩]
def Q8e : List GO := [qm 50 0, qn 51 50, qf 52 51 1, ql 53 52, ⟨none, .build 54 [(vi 0), (vi 0)] [(0, (1, (.const (vi 1)))), (1, (1, (.tmp 53)))]⟩, ⟨none, .mki 55 98 (.tmp 54)⟩, ⟨none, .raw ⟨none, (.panic (.tmp 55)), 0, "", #[], none⟩⟩]
def Q73 : List GO := [qm 56 0, qn 57 56, qf 58 57 1, ql 59 58, qj 60 .add 3 59 1, qn 61 56, qf 62 61 1, qs 62 60]
def Q72 : List GO := [qm 63 3, qm 64 5, ⟨none, .bin 65 .and 5 (.tmp 64) (.const (.int .u8 127))⟩, ⟨none, .conv 66 .u64 (.tmp 65)⟩, qm 67 4, ⟨none, .bin 68 .mul 3 (.const (vi 7)) (.tmp 67)⟩, qt 69 .shl 171 66 68, qt 70 .or 171 63 69, qm 3 70]
def Q71 : List GO := [qm 71 5, ⟨none, .bin 72 .lss 5 (.tmp 71) (.const (.int .u8 128))⟩]
def Q70 : List GO := [qj 73 .add 3 6 1, qm 6 73]
def Q3P : LC := (.seq (.ops Q8k) (.seq (.cond (.tmp 7) .skip (.exit 0)) (.seq (.block 1 (.seq (.ops Q8j) (.seq (.seq (.draw Q8i Q8q) (.cond (.tmp 18) (.ops Q8h) .skip)) (.seq (.draw Q8g Q8p) (.seq (.seq (.ops Q8f) (.cond (.tmp 49) (.ops Q8e) .skip)) (.seq (.ops Q73) (.seq (.ops Q72) (.seq (.ops Q71) (.cond (.tmp 72) (.exit 0) .skip))))))))) (.ops Q70))))
def Q6Z : List GO := [qm 74 3, ⟨none, .bin 75 .shr 171 (.tmp 74) (.const (.int .u64 1))⟩, ⟨none, .conv 76 .i64 (.tmp 75)⟩, qm 77 3, ⟨none, .bin 78 .and 171 (.tmp 77) (.const (.int .u64 1))⟩, ⟨none, .conv 79 .i64 (.tmp 78)⟩, ⟨none, .un 80 .neg (.tmp 79)⟩, qt 81 .xor 2 76 80, qm 2 81]
def codec_reader_long_lc : LC := (.seq (.ops Q8n) (.seq (.ops Q8m) (.seq (.seq (.ops Q8l) (.block 0 (.loop Q3P))) (.seq (.ops Q6Z) .ret))))
@[reducible] def Q1e : FuncId := 102
theorem Q74 : lowF Tryz.prog Tryz.f102 = some codec_reader_long_lc := by kernel_rfl
theorem Q8o {a0 : Value} {w : World} {R : Ending → World → Prop} (h : codec_reader_long_lc.wp Tryz.prog (retQ Tryz.prog [.tmp 2] R) (Qg [a0]) w) : Calls Tryz.prog Q1e ⟨[a0]⟩ w R :=
  Q6 Tryz.func102 Q74 (by kernel_rfl) (by kernel_rfl) h

/- 103 -/
def Q9x : List GO := [qk 2 (vi 0)]
def Q9w : List GO := [qm 3 0, ⟨none, .call (some 4) 102 [(.tmp 3)]⟩, qm 2 4]
def codec_reader_int_lc : LC := (.seq (.ops Q9x) (.seq (.ops Q9w) .ret))
@[reducible] def Q3J : FuncId := 103
theorem Q8u : lowF Tryz.prog Tryz.f103 = some codec_reader_int_lc := by kernel_rfl
theorem Q9y {a0 : Value} {w : World} {R : Ending → World → Prop} (h : codec_reader_int_lc.wp Tryz.prog (retQ Tryz.prog [.tmp 2] R) (Qg [a0]) w) : Calls Tryz.prog Q3J ⟨[a0]⟩ w R :=
  Q6 Tryz.func103 Q8u (by kernel_rfl) (by kernel_rfl) h

/- 104 -/
def Q6X : List GO := [qb 2 100 0, qb 3 3 1, qk 4 vn]
def Q6W : List GO := [ql 5 3, qj 6 .gtr 3 5 5]
def Q6V : List GO := [ql 7 2, qn 8 7, qf 9 8 1, ql 10 9, ⟨none, .build 11 [(vi 0), (vi 0)] [(0, (1, (.const (vi 19)))), (1, (1, (.tmp 10)))]⟩, ⟨none, .mki 12 98 (.tmp 11)⟩, ⟨none, .raw ⟨none, (.panic (.tmp 12)), 0, "", #[], none⟩⟩]
def Q6U : List GO := [ql 13 2, ⟨none, .mkfn 14 147 [(.tmp 2), (.tmp 3)]⟩, ⟨none, .call (some 15) 146 [(.tmp 13), (.tmp 14)]⟩, qm 4 15]
def codec_reader_types_lc : LC := (.seq (.ops Q6X) (.seq (.seq (.ops Q6W) (.cond (.tmp 6) (.ops Q6V) .skip)) (.seq (.ops Q6U) .ret)))
@[reducible] def Q23 : FuncId := 104
theorem Q5S : lowF Tryz.prog Tryz.f104 = some codec_reader_types_lc := by kernel_rfl
theorem Q3D {a0 a1 : Value} {w : World} {R : Ending → World → Prop} (h : codec_reader_types_lc.wp Tryz.prog (retQ Tryz.prog [.tmp 4] R) (Qg [a0, a1]) w) : Calls Tryz.prog Q23 ⟨[a0, a1]⟩ w R :=
  Q6 Tryz.func104 Q5S (by kernel_rfl) (by kernel_rfl) h

/- 105 -/
def Q5z : List GO := [qk 4 vn]
def Q5y : List GO := [qm 8 0, qn 9 8, qf 10 9 1, ql 11 10, qm 5 11]
def Q5x : List GO := [qm 12 0, ⟨none, .call (some 13) 102 [(.tmp 12)]⟩, qm 6 13]
def Q5w : List GO := [qm 14 6, qj 15 .lss 2 14 0, qm 16 15, qg 16 false (qm 17 6), qg 16 false (qm 18 0), qg 16 false (qn 19 18), qg 16 false (qf 20 19 0), qg 16 false (ql 21 20), qg 16 false (qL 22 21), qg 16 false (qm 23 0), qg 16 false (qn 24 23), qg 16 false (qf 25 24 1), qg 16 false (ql 26 25), qg 16 false (qt 27 .sub 3 22 26), qg 16 false (qt 28 .gtr 2 17 27), ⟨none, .pick 29 (.tmp 16) (.const (.bool true)) (.tmp 28)⟩]
def Q5B : List (List Nat) := [[],[0],[1],[2],[2],[4,2],[5,2],[6,2],[7,2],[2],[9,2],[10,2],[11,2],[8,12,2],[3,13,2],[2,14]]
def Q5v : List GO := [qm 30 5, ⟨none, .build 31 [(vi 0), (vi 0)] [(0, (1, (.const (vi 2)))), (1, (1, (.tmp 30)))]⟩, ⟨none, .mki 32 98 (.tmp 31)⟩, ⟨none, .raw ⟨none, (.panic (.tmp 32)), 0, "", #[], none⟩⟩]
def Q5u : List GO := [qk 7 vn]
def Q5t : List GO := [qm 33 6, qk 34 (vi 0)]
def Q5s : List GO := [qt 35 .lss 2 34 33]
def Q5r : List GO := [qm 36 7, qm 37 1, ⟨none, .callv (some 38) (.tmp 37) []⟩, ⟨none, .buildS 39 79 1 [(vi 0), vn, vn, (vi 0), (vi 0), (vi 0), vn, vn, (vi 0), vn, vn, vn] [(0, (12, (.tmp 38)))]⟩, ⟨none, .raw ⟨(some 40), (.call ⟨(.builtin .append), #[(.tmp 36), (.tmp 39)], #[51, 51]⟩), 51, "", #[], none⟩⟩, qm 7 40]
def Q5q : List GO := [qj 41 .add 2 34 1, qm 34 41]
def Q3e : LC := (.seq (.ops Q5s) (.seq (.cond (.tmp 35) .skip (.exit 0)) (.seq (.block 1 (.ops Q5r)) (.ops Q5q))))
def Q51 : List GO := [qm 42 7, qm 4 42]
def codec_list_api_Block_lc : LC := (.seq (.ops Q5z) (.seq (.ops Q5y) (.seq (.ops Q5x) (.seq (.seq (.draw Q5w Q5B) (.cond (.tmp 29) (.ops Q5v) .skip)) (.seq (.ops Q5u) (.seq (.seq (.ops Q5t) (.block 0 (.loop Q3e))) (.seq (.ops Q51) .ret)))))))
@[reducible] def Q26 : FuncId := 105
theorem Q52 : lowF Tryz.prog Tryz.f105 = some codec_list_api_Block_lc := by kernel_rfl
theorem Q5A {a0 a1 : Value} {w : World} {R : Ending → World → Prop} (h : codec_list_api_Block_lc.wp Tryz.prog (retQ Tryz.prog [.tmp 4] R) (Qg [a0, a1]) w) : Calls Tryz.prog Q26 ⟨[a0, a1]⟩ w R :=
  Q6 Tryz.func105 Q52 (by kernel_rfl) (by kernel_rfl) h

/- 106 -/
def Q7b : List GO := [⟨none, .alloc 2 79 [(vi 0), vn, vn, (vi 0), (vi 0), (vi 0), vn, vn, (vi 0), vn, vn, vn]⟩]
def Q7a : List GO := [qm 4 0, ⟨none, .call (some 5) 103 [(.tmp 4)]⟩, ⟨none, .build 6 [(vi 0), vn, vn, (vi 0), (vi 0), (vi 0), vn, vn, (vi 0), vn, vn, vn] [(0, (1, (.tmp 5)))]⟩, ⟨none, .alloc 3 79 [(vi 0), vn, vn, (vi 0), (vi 0), (vi 0), vn, vn, (vi 0), vn, vn, vn]⟩, qw 12 3 6]
def Q79 : List GO := [qm 7 0, ⟨none, .call (some 8) 104 [(.tmp 7), (.const (vi 0))]⟩, qf 9 3 1, qs 9 8]
def Q78 : List GO := [qm 10 0, qm 11 0, ⟨none, .raw ⟨(some 12), (.makeFunc (.func 149) #[(.tmp 11)] #[]), 151, "", #[], none⟩⟩, ⟨none, .call (some 13) 148 [(.tmp 10), (.tmp 12)]⟩, qf 14 3 2, qs 14 13]
def Q77 : List GO := [qm 15 0, ⟨none, .call (some 16) 150 [(.tmp 15)]⟩, qf 17 3 3, qw 9 17 16]
def Q76 : List GO := [qV 18 12 3, qw 12 2 18]
def codec_reader_block_lc : LC := (.seq (.ops Q7b) (.seq (.ops Q7a) (.seq (.ops Q79) (.seq (.ops Q78) (.seq (.ops Q77) (.seq (.ops Q76) .ret))))))
@[reducible] def Q3d : FuncId := 106
theorem Q5T : lowF Tryz.prog Tryz.f106 = some codec_reader_block_lc := by kernel_rfl
theorem Q7c {a0 : Value} {w : World} {R : Ending → World → Prop} (h : codec_reader_block_lc.wp Tryz.prog (retQ Tryz.prog [.cell 2 79] R) (Qg [a0]) w) : Calls Tryz.prog Q3d ⟨[a0]⟩ w R :=
  Q6 Tryz.func106 Q5T (by kernel_rfl) (by kernel_rfl) h

/- 146 -/
def Q63 : List GO := [qk 4 vn]
def Q62 : List GO := [qm 8 0, qn 9 8, qf 10 9 1, ql 11 10, qm 5 11]
def Q61 : List GO := [qm 12 0, ⟨none, .call (some 13) 102 [(.tmp 12)]⟩, qm 6 13]
def Q60 : List GO := [qm 14 6, qj 15 .lss 2 14 0, qm 16 15, qg 16 false (qm 17 6), qg 16 false (qm 18 0), qg 16 false (qn 19 18), qg 16 false (qf 20 19 0), qg 16 false (ql 21 20), qg 16 false (qL 22 21), qg 16 false (qm 23 0), qg 16 false (qn 24 23), qg 16 false (qf 25 24 1), qg 16 false (ql 26 25), qg 16 false (qt 27 .sub 3 22 26), qg 16 false (qt 28 .gtr 2 17 27), ⟨none, .pick 29 (.tmp 16) (.const (.bool true)) (.tmp 28)⟩]
def Q65 : List (List Nat) := [[],[0],[1],[2],[2],[4,2],[5,2],[6,2],[7,2],[2],[9,2],[10,2],[11,2],[8,12,2],[3,13,2],[2,14]]
def Q5Z : List GO := [qm 30 5, ⟨none, .build 31 [(vi 0), (vi 0)] [(0, (1, (.const (vi 2)))), (1, (1, (.tmp 30)))]⟩, ⟨none, .mki 32 98 (.tmp 31)⟩, ⟨none, .raw ⟨none, (.panic (.tmp 32)), 0, "", #[], none⟩⟩]
def Q5Y : List GO := [qk 7 vn]
def Q5X : List GO := [qm 33 6, qk 34 (vi 0)]
def Q5W : List GO := [qt 35 .lss 2 34 33]
def Q5V : List GO := [qm 36 7, qm 37 1, ⟨none, .callv (some 38) (.tmp 37) []⟩, ⟨none, .buildS 39 112 1 [(vi 0), (vi 0), vn] [(0, (3, (.tmp 38)))]⟩, ⟨none, .raw ⟨(some 40), (.call ⟨(.builtin .append), #[(.tmp 36), (.tmp 39)], #[50, 50]⟩), 50, "", #[], none⟩⟩, qm 7 40]
def Q5U : List GO := [qj 41 .add 2 34 1, qm 34 41]
def Q3k : LC := (.seq (.ops Q5W) (.seq (.cond (.tmp 35) .skip (.exit 0)) (.seq (.block 1 (.ops Q5V)) (.ops Q5U))))
def Q5m : List GO := [qm 42 7, qm 4 42]
def codec_list_api_Type_lc : LC := (.seq (.ops Q63) (.seq (.ops Q62) (.seq (.ops Q61) (.seq (.seq (.draw Q60 Q65) (.cond (.tmp 29) (.ops Q5Z) .skip)) (.seq (.ops Q5Y) (.seq (.seq (.ops Q5X) (.block 0 (.loop Q3k))) (.seq (.ops Q5m) .ret)))))))
@[reducible] def Q1W : FuncId := 146
theorem Q5n : lowF Tryz.prog Tryz.f146 = some codec_list_api_Type_lc := by kernel_rfl
theorem Q64 {a0 a1 : Value} {w : World} {R : Ending → World → Prop} (h : codec_list_api_Type_lc.wp Tryz.prog (retQ Tryz.prog [.tmp 4] R) (Qg [a0, a1]) w) : Calls Tryz.prog Q1W ⟨[a0, a1]⟩ w R :=
  Q6 Tryz.func146 Q5n (by kernel_rfl) (by kernel_rfl) h

/- 147 -/
def Q5k : List GO := [⟨none, .alloc 2 112 [(vi 0), (vi 0), vn]⟩]
def Q5j : List GO := [ql 4 0, ⟨none, .call (some 5) 103 [(.tmp 4)]⟩, ⟨none, .build 6 [(vi 0), (vi 0), vn] [(0, (1, (.tmp 5)))]⟩, ⟨none, .alloc 3 112 [(vi 0), (vi 0), vn]⟩, qw 3 3 6]
def Q5i : List GO := [qf 7 3 0, ql 8 7, qj 9 .neq 3 8 1]
def Q5h : List GO := [ql 10 0, ⟨none, .call (some 11) 103 [(.tmp 10)]⟩, qf 12 3 1, qs 12 11]
def Q5g : List GO := [qf 13 3 0, ql 14 13, qj 15 .eql 3 14 3]
def Q5f : List GO := [ql 16 0, ql 17 1, qj 18 .add 3 17 1, ⟨none, .call (some 19) 104 [(.tmp 16), (.tmp 18)]⟩, qf 20 3 2, qs 20 19]
def Q5e : List GO := [qV 21 3 3, qw 3 2 21]
def codec_reader_types_1_lc : LC := (.seq (.ops Q5k) (.seq (.ops Q5j) (.seq (.seq (.ops Q5i) (.cond (.tmp 9) (.ops Q5h) .skip)) (.seq (.seq (.ops Q5g) (.cond (.tmp 15) (.ops Q5f) .skip)) (.seq (.ops Q5e) .ret)))))
@[reducible] def Q17 : FuncId := 147
theorem Q4R : lowF Tryz.prog Tryz.f147 = some codec_reader_types_1_lc := by kernel_rfl
theorem Q5l {a0 a1 : Value} {w : World} {R : Ending → World → Prop} (h : codec_reader_types_1_lc.wp Tryz.prog (retQ Tryz.prog [.cell 2 112] R) (Qg [a0, a1]) w) : Calls Tryz.prog Q17 ⟨[a0, a1]⟩ w R :=
  Q6 Tryz.func147 Q4R (by kernel_rfl) (by kernel_rfl) h

/- 148 -/
def Q7m : List GO := [qk 4 vn]
def Q7l : List GO := [qm 8 0, qn 9 8, qf 10 9 1, ql 11 10, qm 5 11]
def Q7k : List GO := [qm 12 0, ⟨none, .call (some 13) 102 [(.tmp 12)]⟩, qm 6 13]
def Q7j : List GO := [qm 14 6, qj 15 .lss 2 14 0, qm 16 15, qg 16 false (qm 17 6), qg 16 false (qm 18 0), qg 16 false (qn 19 18), qg 16 false (qf 20 19 0), qg 16 false (ql 21 20), qg 16 false (qL 22 21), qg 16 false (qm 23 0), qg 16 false (qn 24 23), qg 16 false (qf 25 24 1), qg 16 false (ql 26 25), qg 16 false (qt 27 .sub 3 22 26), qg 16 false (qt 28 .gtr 2 17 27), ⟨none, .pick 29 (.tmp 16) (.const (.bool true)) (.tmp 28)⟩]
def Q7o : List (List Nat) := [[],[0],[1],[2],[2],[4,2],[5,2],[6,2],[7,2],[2],[9,2],[10,2],[11,2],[8,12,2],[3,13,2],[2,14]]
def Q7i : List GO := [qm 30 5, ⟨none, .build 31 [(vi 0), (vi 0)] [(0, (1, (.const (vi 2)))), (1, (1, (.tmp 30)))]⟩, ⟨none, .mki 32 98 (.tmp 31)⟩, ⟨none, .raw ⟨none, (.panic (.tmp 32)), 0, "", #[], none⟩⟩]
def Q7h : List GO := [qk 7 vn]
def Q7g : List GO := [qm 33 6, qk 34 (vi 0)]
def Q7f : List GO := [qt 35 .lss 2 34 33]
def Q7e : List GO := [qm 36 7, qm 37 1, ⟨none, .callv (some 38) (.tmp 37) []⟩, ⟨none, .buildS 39 57 1 [(vi 0), (vi 0), (vi 0), (vi 0), (vi 0), (vi 0), vn, vn] [(0, (8, (.tmp 38)))]⟩, ⟨none, .raw ⟨(some 40), (.call ⟨(.builtin .append), #[(.tmp 36), (.tmp 39)], #[40, 40]⟩), 40, "", #[], none⟩⟩, qm 7 40]
def Q7d : List GO := [qj 41 .add 2 34 1, qm 34 41]
def Q3E : LC := (.seq (.ops Q7f) (.seq (.cond (.tmp 35) .skip (.exit 0)) (.seq (.block 1 (.ops Q7e)) (.ops Q7d))))
def Q66 : List GO := [qm 42 7, qm 4 42]
def codec_list_api_Ins_lc : LC := (.seq (.ops Q7m) (.seq (.ops Q7l) (.seq (.ops Q7k) (.seq (.seq (.draw Q7j Q7o) (.cond (.tmp 29) (.ops Q7i) .skip)) (.seq (.ops Q7h) (.seq (.seq (.ops Q7g) (.block 0 (.loop Q3E))) (.seq (.ops Q66) .ret)))))))
@[reducible] def Q2m : FuncId := 148
theorem Q67 : lowF Tryz.prog Tryz.f148 = some codec_list_api_Ins_lc := by kernel_rfl
theorem Q7n {a0 a1 : Value} {w : World} {R : Ending → World → Prop} (h : codec_list_api_Ins_lc.wp Tryz.prog (retQ Tryz.prog [.tmp 4] R) (Qg [a0, a1]) w) : Calls Tryz.prog Q2m ⟨[a0, a1]⟩ w R :=
  Q6 Tryz.func148 Q67 (by kernel_rfl) (by kernel_rfl) h

/- 149 -/
def Q9I : List GO := [⟨none, .alloc 2 57 [(vi 0), (vi 0), (vi 0), (vi 0), (vi 0), (vi 0), vn, vn]⟩]
def Q9H : List GO := [qm 7 0, ⟨none, .call (some 8) 103 [(.tmp 7)]⟩, ⟨none, .build 9 [(vi 0), (vi 0), (vi 0), (vi 0), (vi 0), (vi 0), vn, vn] [(0, (1, (.tmp 8)))]⟩, ⟨none, .alloc 3 57 [(vi 0), (vi 0), (vi 0), (vi 0), (vi 0), (vi 0), vn, vn]⟩, qw 8 3 9]
def Q9G : List GO := [qf 10 3 0, ql 11 10, ⟨none, .call (some 12) 95 [(.tmp 11)]⟩, qm 4 12]
def Q9F : List GO := [qf 13 3 1, qf 14 3 2, qf 15 3 3, qf 16 3 4, ⟨none, .buildS 17 181 4 [(.pointer none), (.pointer none), (.pointer none), (.pointer none)] [(0, (1, (.tmp 13))), (1, (1, (.tmp 14))), (2, (1, (.tmp 15))), (3, (1, (.tmp 16)))]⟩, qL 18 17, qk 19 (vi 0)]
def Q9E : List GO := [qt 20 .lss 3 19 18]
def Q9D : List GO := [qm 21 19, qi 22 1 17 19, ql 23 22, qm 5 21, qm 6 23]
def Q9C : List GO := [qm 24 4, qm 25 5, qt 26 .shr 3 24 25, qj 27 .and 3 26 1, qj 28 .eql 3 27 1]
def Q9B : List GO := [qm 29 6, qm 30 0, ⟨none, .call (some 31) 103 [(.tmp 30)]⟩, qn 32 29, qs 32 31]
def Q9A : List GO := [qj 33 .add 3 19 1, qm 19 33]
def Q4c : LC := (.seq (.ops Q9E) (.seq (.cond (.tmp 20) .skip (.exit 0)) (.seq (.block 1 (.seq (.ops Q9D) (.seq (.ops Q9C) (.cond (.tmp 28) (.ops Q9B) .skip)))) (.ops Q9A))))
def Q9z : List GO := [qm 34 4, qj 35 .and 3 34 64, qj 36 .neq 3 35 0]
def Q8A : List GO := [qm 37 0, ⟨none, .call (some 38) 102 [(.tmp 37)]⟩, qf 39 3 5, qs 39 38]
def Q8z : List GO := [qm 40 4, qj 41 .and 3 40 16, qj 42 .neq 3 41 0]
def Q8y : List GO := [qm 43 0, ⟨none, .call (some 44) 161 [(.tmp 43)]⟩, qf 45 3 6, qs 45 44]
def Q8x : List GO := [qm 46 4, qj 47 .and 3 46 32, qj 48 .neq 3 47 0]
def Q8w : List GO := [qm 49 0, ⟨none, .call (some 50) 161 [(.tmp 49)]⟩, qf 51 3 7, qs 51 50]
def Q8v : List GO := [qV 52 8 3, qw 8 2 52]
def codec_reader_ins_lc : LC := (.seq (.ops Q9I) (.seq (.ops Q9H) (.seq (.ops Q9G) (.seq (.seq (.ops Q9F) (.block 0 (.loop Q4c))) (.seq (.seq (.ops Q9z) (.cond (.tmp 36) (.ops Q8A) .skip)) (.seq (.seq (.ops Q8z) (.cond (.tmp 42) (.ops Q8y) .skip)) (.seq (.seq (.ops Q8x) (.cond (.tmp 48) (.ops Q8w) .skip)) (.seq (.ops Q8v) .ret))))))))
@[reducible] def QR : FuncId := 149
theorem Q8B : lowF Tryz.prog Tryz.f149 = some codec_reader_ins_lc := by kernel_rfl
theorem Q9J {a0 : Value} {w : World} {R : Ending → World → Prop} (h : codec_reader_ins_lc.wp Tryz.prog (retQ Tryz.prog [.cell 2 57] R) (Qg [a0]) w) : Calls Tryz.prog QR ⟨[a0]⟩ w R :=
  Q6 Tryz.func149 Q8B (by kernel_rfl) (by kernel_rfl) h

/- 150 -/
def Q9T : List GO := [⟨none, .alloc 2 45 [(vi 0), (vi 0), (vi 0), vn, vn, (vi 0), vn, vn, vn]⟩]
def Q9S : List GO := [qm 4 0, ⟨none, .call (some 5) 103 [(.tmp 4)]⟩, ⟨none, .build 6 [(vi 0), (vi 0), (vi 0), vn, vn, (vi 0), vn, vn, vn] [(0, (1, (.tmp 5)))]⟩, ⟨none, .alloc 3 45 [(vi 0), (vi 0), (vi 0), vn, vn, (vi 0), vn, vn, vn]⟩, qw 9 3 6]
def Q9R : List GO := [qf 7 3 0, ql 8 7]
def Q9Q : List GO := [qj 10 .eql 3 8 1, qm 9 10]
def Q9P : List GO := [qm 11 0, ⟨none, .call (some 12) 162 [(.tmp 11)]⟩, qf 13 3 2, qw 3 13 12]
def Q9O : List GO := [qj 15 .eql 3 8 2, qm 14 15]
def Q9N : List GO := [qm 16 0, ⟨none, .call (some 17) 103 [(.tmp 16)]⟩, qf 18 3 1, qs 18 17]
def Q9M : List GO := [qm 19 0, ⟨none, .call (some 20) 162 [(.tmp 19)]⟩, qf 21 3 2, qw 3 21 20]
def Q9L : List GO := [qm 22 0, ⟨none, .call (some 23) 162 [(.tmp 22)]⟩, qf 24 3 5, qw 3 24 23]
def Q9K : List GO := [qj 26 .eql 3 8 3, qm 25 26]
def Q8D : List GO := [qm 27 0, ⟨none, .call (some 28) 161 [(.tmp 27)]⟩, qf 29 3 8, qs 29 28]
def Q8C : List GO := [qV 30 9 3, qw 9 2 30]
def codec_reader_end_lc : LC := (.seq (.ops Q9T) (.seq (.ops Q9S) (.seq (.seq (.ops Q9R) (.block 0 (.seq (.ops Q9Q) (.cond (.tmp 9) (.ops Q9P) (.seq (.ops Q9O) (.cond (.tmp 14) (.seq (.ops Q9N) (.seq (.ops Q9M) (.ops Q9L))) (.seq (.ops Q9K) (.cond (.tmp 25) (.ops Q8D) .skip)))))))) (.seq (.ops Q8C) .ret))))
@[reducible] def Q1k : FuncId := 150
theorem Q8E : lowF Tryz.prog Tryz.f150 = some codec_reader_end_lc := by kernel_rfl
theorem Q9U {a0 : Value} {w : World} {R : Ending → World → Prop} (h : codec_reader_end_lc.wp Tryz.prog (retQ Tryz.prog [.cell 2 45] R) (Qg [a0]) w) : Calls Tryz.prog Q1k ⟨[a0]⟩ w R :=
  Q6 Tryz.func150 Q8E (by kernel_rfl) (by kernel_rfl) h

/- 161 -/
def Q8s : List GO := [qk 2 vn]
def Q8r : List GO := [qm 3 0, qm 4 0, ⟨none, .raw ⟨(some 5), (.makeFunc (.func 103) #[(.tmp 4)] #[]), 69, "", #[], none⟩⟩, ⟨none, .call (some 6) 165 [(.tmp 3), (.tmp 5)]⟩, qm 2 6]
def codec_reader_ints_lc : LC := (.seq (.ops Q8s) (.seq (.ops Q8r) .ret))
@[reducible] def Q4S : FuncId := 161
theorem Q75 : lowF Tryz.prog Tryz.f161 = some codec_reader_ints_lc := by kernel_rfl
theorem Q8t {a0 : Value} {w : World} {R : Ending → World → Prop} (h : codec_reader_ints_lc.wp Tryz.prog (retQ Tryz.prog [.tmp 2] R) (Qg [a0]) w) : Calls Tryz.prog Q4S ⟨[a0]⟩ w R :=
  Q6 Tryz.func161 Q75 (by kernel_rfl) (by kernel_rfl) h

/- 162 -/
def QaH : List GO := [⟨none, .alloc 2 43 [(vi 0), vn, vn]⟩]
def QaG : List GO := [qm 4 0, ⟨none, .call (some 5) 103 [(.tmp 4)]⟩, ⟨none, .build 6 [(vi 0), vn, vn] [(0, (1, (.tmp 5)))]⟩, ⟨none, .alloc 3 43 [(vi 0), vn, vn]⟩, qw 3 3 6]
def QaF : List GO := [qm 7 0, ⟨none, .call (some 8) 161 [(.tmp 7)]⟩, qf 9 3 1, qs 9 8]
def QaE : List GO := [qm 10 0, ⟨none, .call (some 11) 161 [(.tmp 10)]⟩, qf 12 3 2, qs 12 11]
def QaD : List GO := [qV 13 3 3, qw 3 2 13]
def codec_reader_to_lc : LC := (.seq (.ops QaH) (.seq (.ops QaG) (.seq (.ops QaF) (.seq (.ops QaE) (.seq (.ops QaD) .ret)))))
@[reducible] def Q6Y : FuncId := 162
theorem Q9v : lowF Tryz.prog Tryz.f162 = some codec_reader_to_lc := by kernel_rfl
theorem QaI {a0 : Value} {w : World} {R : Ending → World → Prop} (h : codec_reader_to_lc.wp Tryz.prog (retQ Tryz.prog [.cell 2 43] R) (Qg [a0]) w) : Calls Tryz.prog Q6Y ⟨[a0]⟩ w R :=
  Q6 Tryz.func162 Q9v (by kernel_rfl) (by kernel_rfl) h

/- 165 -/
def Qc1 : List GO := [qk 4 vn]
def Qc0 : List GO := [qm 8 0, qn 9 8, qf 10 9 1, ql 11 10, qm 5 11]
def QbZ : List GO := [qm 12 0, ⟨none, .call (some 13) 102 [(.tmp 12)]⟩, qm 6 13]
def QbY : List GO := [qm 14 6, qj 15 .lss 2 14 0, qm 16 15, qg 16 false (qm 17 6), qg 16 false (qm 18 0), qg 16 false (qn 19 18), qg 16 false (qf 20 19 0), qg 16 false (ql 21 20), qg 16 false (qL 22 21), qg 16 false (qm 23 0), qg 16 false (qn 24 23), qg 16 false (qf 25 24 1), qg 16 false (ql 26 25), qg 16 false (qt 27 .sub 3 22 26), qg 16 false (qt 28 .gtr 2 17 27), ⟨none, .pick 29 (.tmp 16) (.const (.bool true)) (.tmp 28)⟩]
def Qc3 : List (List Nat) := [[],[0],[1],[2],[2],[4,2],[5,2],[6,2],[7,2],[2],[9,2],[10,2],[11,2],[8,12,2],[3,13,2],[2,14]]
def QbX : List GO := [qm 30 5, ⟨none, .build 31 [(vi 0), (vi 0)] [(0, (1, (.const (vi 2)))), (1, (1, (.tmp 30)))]⟩, ⟨none, .mki 32 98 (.tmp 31)⟩, ⟨none, .raw ⟨none, (.panic (.tmp 32)), 0, "", #[], none⟩⟩]
def QbW : List GO := [qk 7 vn]
def QbV : List GO := [qm 33 6, qk 34 (vi 0)]
def QbU : List GO := [qt 35 .lss 2 34 33]
def QbT : List GO := [qm 36 7, qm 37 1, ⟨none, .callv (some 38) (.tmp 37) []⟩, ⟨none, .buildS 39 3 1 [(vi 0)] [(0, (1, (.tmp 38)))]⟩, ⟨none, .raw ⟨(some 40), (.call ⟨(.builtin .append), #[(.tmp 36), (.tmp 39)], #[41, 41]⟩), 41, "", #[], none⟩⟩, qm 7 40]
def QbS : List GO := [qj 41 .add 2 34 1, qm 34 41]
def Q50 : LC := (.seq (.ops QbU) (.seq (.cond (.tmp 35) .skip (.exit 0)) (.seq (.block 1 (.ops QbT)) (.ops QbS))))
def QaJ : List GO := [qm 42 7, qm 4 42]
def codec_list_int_lc : LC := (.seq (.ops Qc1) (.seq (.ops Qc0) (.seq (.ops QbZ) (.seq (.seq (.draw QbY Qc3) (.cond (.tmp 29) (.ops QbX) .skip)) (.seq (.ops QbW) (.seq (.seq (.ops QbV) (.block 0 (.loop Q50))) (.seq (.ops QaJ) .ret)))))))
@[reducible] def Q3x : FuncId := 165
theorem QaK : lowF Tryz.prog Tryz.f165 = some codec_list_int_lc := by kernel_rfl
theorem Qc2 {a0 a1 : Value} {w : World} {R : Ending → World → Prop} (h : codec_list_int_lc.wp Tryz.prog (retQ Tryz.prog [.tmp 4] R) (Qg [a0, a1]) w) : Calls Tryz.prog Q3x ⟨[a0, a1]⟩ w R :=
  Q6 Tryz.func165 QaK (by kernel_rfl) (by kernel_rfl) h

end Go.Proofs.YtanlkfeogoganaaGreat
namespace Go.Proofs.YtanlkfeogoganaaGreat
open Go.Lir
set_option maxHeartbeats 1000000
attribute [local irreducible] LC.wp Q5 QN Q11 retQ Q1T LO.wp Qr Calls
set_option linter.unusedSimpArgs false
set_option linter.unusedVariables false
attribute [local irreducible] bitI IntKind.wrap Q3n rdU rmap
variable {cx : Cx} {w : World} {L : List Res}
@[reducible] def Qvx (e : Flt) : Value := .iface 98 (.agg ⟨[.int .i64 e.1, .int .i64 e.2]⟩)
theorem Q5b {bs : List UInt8} {rb at0 : Nat} {v : Value} (hv : u8R.sl cx v bs) (ha : at0 ≤ bs.length) (hS : St cx w (blk rb 102 [v, .int .i64 at0] :: L)) :
    Fins Tryz.prog Q1e [.pointer (some ⟨rb, 0, none⟩)] w
      (fun u w' => ∃ n at', rdLong bs.length (bs.drop at0) = .ok (n, bs.drop at') ∧ at0 ≤ at' ∧ at' ≤ bs.length ∧ u = .int .i64 n ∧ St cx w' (blk rb 102 [v, .int .i64 at'] :: L))
      (fun u w' => ∃ e at', rdLong bs.length (bs.drop at0) = .error e ∧ u = Qvx e ∧ St cx w' (blk rb 102 [v, .int .i64 at'] :: L)) := by
  have hbl := hv.len
  obtain ⟨va, vn, rfl⟩ := Rep.SR.shape hv
  unfold Fins
  all_goals refine Q8o ?_
  all_goals (unfold codec_reader_long_lc; refine Q0 ?_; refine Q1 ?_; refine zm ?_; refine zn ?_; refine Q0 ?_; refine Q1 ?_; refine zm ?_; refine zn ?_; refine Q0 ?_; refine Q0 ?_; refine Q1 ?_; refine zm ?_; refine zn ?_; refine Q8 ?_)
  refine zo [0] (fun A ρ' w' => ∃ (i u : Nat), Has ρ' A ∧ Has ρ' [(6, .int .i64 i), (3, .int .u64 (u : Int))] ∧ (i ≤ 9) ∧ (u < 128 ^ i) ∧ (at0 + i ≤ bs.length) ∧ (rdU bs.length 10 (bs.drop at0) = rmap u (128 ^ i) (rdU bs.length (10 - i) (bs.drop (at0 + i)))) ∧ St cx w' (blk rb 102 [.slice va bs.length vn, .int .i64 (at0 + i : Nat)] :: L)) (fun ρ' _ => (10 - iv (ρ' 6)).toNat) ?_ ?_
  · exact ⟨0, 0, zh, zh, by omega, by simp, by omega, by rw [Nat.pow_zero, rmap_0]; rfl, hS.sp⟩
  rintro ρ w1 ⟨i, u, hA, hρ, hi, hu, hat, hd, hS⟩; obtain ⟨ρ, rfl⟩ := env2 hA hρ
  unfold Q3P
  all_goals (refine Q0 ?_; refine Q1 ?_; refine Qt rfl rfl ?_; refine zn ?_; refine Q0 ?_)
  refine Qm rfl (fun hc => ?_) (fun hc => ?_)
  · skip
    all_goals (refine zsk ?_; refine Q0 ?_; refine Q8 ?_; refine Q0 ?_; refine Q1 ?_; refine zm ?_; refine zm ?_; refine zn ?_; refine Q0 ?_; refine Q0 ?_; refine zD [(0, none), (1, none), (2, none), (3, none), (4, none), (5, none), (6, none), (7, none), (8, none), (9, some none)] ?_; have hS := hS.drew; refine zm ?_; refine Qv rfl ?_; refine Q2 rfl ?_; refine zl hS ?_; refine zm ?_; refine Qv rfl ?_; refine Q2 rfl ?_; refine zl hS ?_; refine zL ?_)
    all_goals (first | (refine QdO ?_) | (refine QdP ?_) | (refine Q3G rfl rfl (fun hc => ?_) (fun hc => ?_)))
    all_goals (refine zn ?_)
    all_goals
      first
      | (refine Q3 rfl ?_ -- Q1e c1
         all_goals (refine Q1 ?_; refine zm ?_; refine Qv rfl ?_; refine Q2 rfl ?_; refine zl hS ?_; refine zL ?_; refine zb2 [_, _] ?_; refine zki ?_)
         all_goals (refine Q58 rfl ?_; (repeat (first | refine Q12 ?_ | refine Q13 ?_ | refine fun _ => ?_)); refine Q1U ?_; exact .inr ⟨_, rfl, (5, bs.length), _, Q7G (Qmy hd hi (by omega)), rfl, hS.sp⟩))
      | (refine Q4 rfl ?_ -- Q1e c1
         all_goals refine zsk ?_)
    all_goals (refine Q0 ?_; refine zD [(0, none), (1, none), (2, none), (3, none), (4, none), (5, none), (6, none), (7, none), (8, none), (9, none), (10, some none)] ?_; have hS := hS.drew; refine zm ?_; refine Qv rfl ?_; refine Q2 rfl ?_; refine zl hS ?_; refine zm ?_; refine Qv rfl ?_; refine Q2 rfl ?_; refine zl hS ?_; refine zi ?_; intro b1 o1 cs1 x1 hat1 hx1 he1; (first | (obtain rfl := Q25 he1) | (obtain rfl := Q35 he1)); (first | (refine zl hS ?_) | (refine zlk hS ?_)); refine zm ?_; refine zn ?_)
    refine zML hS [0, 3, 4, 5, 6] (fun A LL ρ' w' => Has ρ' A ∧ Has ρ' [] ∧ (¬ ((i = 9 ∧ 1 < x1.toNat) ∨ (0 < i ∧ x1.toNat = 0))) ∧ St cx w' (LL)) ?_ ?_
    · skip
      all_goals (refine Q0 ?_; have hxl := x1.toNat_lt; refine Q1 ?_; refine zm ?_)
      all_goals (first | (refine Qy ?_) | (refine QC ?_) | (refine Qn rfl rfl (fun hc => ?_) (fun hc => ?_)))
      all_goals (refine zm ?_; (first | refine s_gn rfl rfl ?_ | (refine s_gy rfl ?_; refine zm ?_)))
      all_goals (first | refine s_gn rfl rfl ?_ | (refine s_gy rfl ?_; (first | (refine QK ?_) | (refine QM ?_) | (refine Qi rfl rfl (fun hc => ?_) (fun hc => ?_)))))
      all_goals ((first | (refine zpt ?_) | (refine zpf ?_)); refine zm ?_; (first | refine s_gn rfl rfl ?_ | (refine s_gy rfl ?_; refine zm ?_)))
      all_goals (first | refine s_gn rfl rfl ?_ | (refine s_gy rfl ?_; (first | (refine QK ?_) | (refine QM ?_) | (refine Qi rfl rfl (fun hc => ?_) (fun hc => ?_)))))
      all_goals ((first | refine s_gn rfl rfl ?_ | (refine s_gy rfl ?_; refine zm ?_)); (first | refine s_gn rfl rfl ?_ | (refine s_gy rfl ?_; refine zm ?_)))
      all_goals (first | refine s_gn rfl rfl ?_ | (refine s_gy rfl ?_; (first | (refine Qy ?_) | (refine QC ?_) | (refine Qn rfl rfl (fun hc => ?_) (fun hc => ?_)))))
      all_goals ((first | refine s_gn rfl rfl ?_ | (refine s_gy rfl ?_; (first | (refine zpt ?_) | (refine zpf ?_)))); (first | (refine zpt ?_) | (refine zpf ?_)); refine zn ?_)
      all_goals
        first
        | (refine Q3 rfl ?_ -- Q1e c2
           all_goals (refine Q1 ?_; refine zm ?_; refine Qv rfl ?_; refine Q2 rfl ?_; refine zl hS ?_; refine zb2 [_, _] ?_; refine zki ?_)
           all_goals (first | (refine Q58 rfl ?_; (repeat (first | refine Q12 ?_ | refine Q13 ?_ | refine fun _ => ?_)); refine Q1U ?_; exact .inr ⟨_, rfl, (5, bs.length), _, Q7G (Qmy hd hi (by omega)), rfl, hS.sp⟩) | (refine Q58 rfl ?_; (repeat (first | refine Q12 ?_ | refine Q13 ?_ | refine fun _ => ?_)); refine Q1U ?_; exact .inr ⟨_, rfl, (1, (at0 + i : Nat)), _, Q7G (QuT hd hi hx1 (by omega)), rfl, hS.sp⟩)))
        | (refine Q4 rfl ?_ -- Q1e c2
           all_goals refine zsk ?_)
      all_goals (exact ⟨zh, zh, by omega, hS.sp⟩)
    rintro ρ w1 ⟨hA, hρ, hok, hS⟩; obtain ⟨ρ, rfl⟩ := env2 hA hρ
    all_goals (refine Q0 ?_; refine Q1 ?_; refine zm ?_; refine Qv rfl ?_; refine Q2 rfl ?_; refine zl hS ?_; refine zad ?_; refine Qv rfl ?_; refine Q2 rfl ?_; refine zst hS ?_; intro w1 hS; have hS := hS.ns; refine zn ?_; refine Q0 ?_; refine Q1 ?_; refine zm ?_; refine zm ?_; refine Q8Z rfl rfl ?_; rw [and127]; refine Q28 rfl ?_; rw [Q1X (by omega)]; refine zm ?_; refine zmu ?_; refine Quv rfl rfl (by omega) ?_; rw [show (7 : Int) * (i : Int) = ((7 * i : Nat) : Int) by omega]; refine s_or rfl rfl ?_; rw [or_shl hu hi (by omega) (by omega)]; refine zm ?_; refine zn ?_; refine Q0 ?_; have hlt2 := QvF hu hi (y := x1.toNat % 128) (by omega) (by omega); refine Q1 ?_; refine zm ?_)
    all_goals (first | (refine Q1Q ?_) | (refine Q1R ?_) | (refine QD rfl rfl (fun hc => ?_) (fun hc => ?_)))
    all_goals (refine zn ?_)
    all_goals
      first
      | (refine Q3 rfl ?_ -- Q1e c3
         all_goals (refine zex ?_)
         all_goals (first | (exfalso; omega) | (rcases (⟨_, rfl⟩ : ∃ U, u + x1.toNat % 128 * 128 ^ i = U) with ⟨U, hU⟩; have hl := Qt1 hd hi hx1 hok (by omega); rw [hU] at hl hlt2; rw [hU]))
         all_goals (refine Q0 ?_; refine Q1 ?_; refine zm ?_; refine Q7Q rfl rfl (by decide) ?_; rw [shr_1]; refine Q7E rfl (by omega) (by omega) ?_; refine zm ?_; refine Q8Z rfl rfl ?_; rw [and_1 hlt2.1]; refine Q7E rfl (by omega) (by omega) ?_; refine Qux rfl ?_; refine QrM rfl rfl ?_; rw [Qpt hlt2.1]; refine zm ?_; refine zn ?_; refine zr ?_; refine zf ?_)
         all_goals (exact .inl ⟨_, rfl, _, at0 + i + 1, Q3T hl, by omega, by omega, rfl, hS.sp⟩))
      | (refine Q4 rfl ?_ -- Q1e c3
         all_goals (refine zsk ?_; refine Q1 ?_; refine zad ?_; refine zm ?_; refine zn ?_)
         all_goals (exact ⟨⟨i + 1, u + x1.toNat % 128 * 128 ^ i, zh, zh, by omega, hlt2.2, by omega, Qt0 hd hi hx1 hok (by omega), hS.sp⟩, Qh (by omega)⟩))
  · skip
    all_goals (refine zex ?_)
    all_goals ((exfalso; omega))
    all_goals (refine Q0 ?_; refine Q1 ?_; refine zm ?_; refine Q7Q rfl rfl (by decide) ?_; rw [shr_1]; refine Q7E rfl (by omega) (by omega) ?_; refine zm ?_; refine Q8Z rfl rfl ?_; rw [and_1 hlt2.1]; refine Q7E rfl (by omega) (by omega) ?_; refine Qux rfl ?_; refine QrM rfl rfl ?_; rw [Qpt hlt2.1]; refine zm ?_; refine zn ?_; refine zr ?_; refine zf ?_; exact .inl ⟨_, rfl, _, at0 + i + 1, Q3T hl, by omega, by omega, rfl, hS.sp⟩)
theorem Q4E {bs : List UInt8} {rb at0 : Nat} {v : Value} (hv : u8R.sl cx v bs) (ha : at0 ≤ bs.length) (hS : St cx w (blk rb 102 [v, .int .i64 at0] :: L)) :
    Fins Tryz.prog Q3J [.pointer (some ⟨rb, 0, none⟩)] w
      (fun u w' => ∃ n at', rdLong bs.length (bs.drop at0) = .ok (n, bs.drop at') ∧ at0 ≤ at' ∧ at' ≤ bs.length ∧ u = .int .i64 n ∧ St cx w' (blk rb 102 [v, .int .i64 at'] :: L))
      (fun u w' => ∃ e at', rdLong bs.length (bs.drop at0) = .error e ∧ u = Qvx e ∧ St cx w' (blk rb 102 [v, .int .i64 at'] :: L)) := by
  unfold Fins
  all_goals refine Q9y ?_
  all_goals (unfold codec_reader_int_lc; refine Q0 ?_; refine Q1 ?_; refine zm ?_; refine zn ?_; refine Q0 ?_; refine Q1 ?_; refine zm ?_; refine zE1 (c := Q5b hv ha hS) (p := by rintro v9 w9 ⟨e, at1, h1, rfl, hS⟩; (repeat (first | refine Q12 ?_ | refine Q13 ?_ | refine fun _ => ?_)); refine Q1U ?_; refine .inr ⟨_, rfl, ?_⟩; exact ⟨e, at1, h1, rfl, hS⟩) (h := ?_); rintro v1 w1 ⟨n, at1, h1, h2, h3, rfl, hS⟩; refine zm ?_; refine zn ?_; refine zr ?_; refine zf ?_; exact .inl ⟨_, rfl, _, at1, h1, h2, h3, rfl, hS.sp⟩)
end Go.Proofs.YtanlkfeogoganaaGreat
namespace Go.Proofs.YtanlkfeogoganaaGreat
open Go.Lir
set_option maxHeartbeats 1000000
attribute [local irreducible] LC.wp Q5 QN Q11 retQ Q1T LO.wp Qr Calls
set_option linter.unusedSimpArgs false
set_option linter.unusedVariables false
attribute [local irreducible] bitI IntKind.wrap Q3n rdLong rdMany Q14 mmap
variable {cx : Cx} {w : World} {L : List Res}
/-- What a reader answers: a thing that its cells say, a list, or that it gives up. -/
def OkA {α : Type} (r : Rep α) (tv : List Value → Value) (X : Got α) (bs : List UInt8) (rb : Nat) (v : Value) (at0 : Nat) (cx : Cx) (L : List Res) (u : Value) (w' : World) : Prop :=
  ∃ a at' c' ds, X = .ok (a, bs.drop at') ∧ at0 ≤ at' ∧ at' ≤ bs.length ∧ cx.Le c' ∧ r.at c' ds a ∧ u = tv ds ∧ St c' w' (blk rb 102 [v, .int .i64 at'] :: L)
def OkS {α : Type} (r : Rep α) (X : Got (List α)) (bs : List UInt8) (rb : Nat) (v : Value) (at0 : Nat) (cx : Cx) (L : List Res) (u : Value) (w' : World) : Prop :=
  ∃ l at' c', X = .ok (l, bs.drop at') ∧ at0 ≤ at' ∧ at' ≤ bs.length ∧ cx.Le c' ∧ r.sl c' u l ∧ St c' w' (blk rb 102 [v, .int .i64 at'] :: L)
def Bad {α : Type} (X : Got α) (rb : Nat) (v : Value) (cx : Cx) (L : List Res) (u : Value) (w' : World) : Prop :=
  ∃ e, ∃ at' : Int, X = .error e ∧ u = Qvx e ∧ St cx w' (blk rb 102 [v, .int .i64 at'] :: L)
/-- A reader of one thing, whatever else lies about. -/
def RdC {α : Type} (r : Rep α) (tv : List Value → Value) (P : Program) (g : FuncId) (cap : List Value) (f : List UInt8 → Got α) (bs : List UInt8) (rb : Nat) (v : Value) (cx : Cx) (L : List Res) : Prop :=
  ∀ (at1 : Nat) (c1 : Cx) (w1 : World) (r0 : Res), cx.Le c1 → at1 ≤ bs.length → St c1 w1 (blk rb 102 [v, .int .i64 at1] :: r0 :: L) → Fins P g cap w1 (OkA r tv (f (bs.drop at1)) bs rb v at1 c1 (r0 :: L)) (Bad (f (bs.drop at1)) rb v c1 (r0 :: L))
def int1 (ds : List Value) : Value := ds.getD 0 undef
def aggV (ds : List Value) : Value := .agg ⟨ds⟩
theorem QpH {f : List UInt8 → Got _} {bs : List UInt8} {rb at0 : Nat} {v fv : Value} {g : FuncId} {cap : List Value} (hfv : FnV fv g cap) (hg : Q3A Tryz.prog g = true) (hb : bs.length ≤ 1000000) (hone : RdC intR int1 Tryz.prog g cap f bs rb v cx L) (hv : u8R.sl cx v bs) (ha : at0 ≤ bs.length) (hS : St cx w (blk rb 102 [v, .int .i64 at0] :: L)) :
    Fins Tryz.prog Q3x [.pointer (some ⟨rb, 0, none⟩), fv] w (OkS intR (Q14 bs.length f (bs.drop at0)) bs rb v at0 cx L) (Bad (Q14 bs.length f (bs.drop at0)) rb v cx L) := by
  unfold RdC at hone
  obtain ⟨va, vn, rfl⟩ := Rep.SR.shape hv
  have hle := St.refl hS
  unfold Fins
  all_goals refine Qc2 ?_
  all_goals (unfold codec_list_int_lc; refine Q0 ?_; refine Q1 ?_; refine zm ?_; refine zn ?_; refine Q0 ?_; refine Q1 ?_; refine zm ?_; refine Qv rfl ?_; refine Q2 rfl ?_; refine zl hS ?_; refine zm ?_; refine zn ?_; refine Q0 ?_; refine Q1 ?_; refine zm ?_; refine zE1 (c := Q5b hv ha hS) (p := by rintro v9 w9 ⟨e, at1, h1, rfl, hS⟩; (repeat (first | refine Q12 ?_ | refine Q13 ?_ | refine fun _ => ?_)); refine Q1U ?_; refine .inr ⟨_, rfl, ?_⟩; exact ⟨e, at1, Qam h1, rfl, hS⟩) (h := ?_); rintro v1 w1 ⟨n, at1, h1, h2, h3, rfl, hS⟩; refine zm ?_; refine zn ?_)
  refine zML hS [1, 6] (fun A LL ρ' w' => Has ρ' A ∧ Has ρ' [] ∧ (0 ≤ n ∧ n ≤ (bs.length : Int) - at1) ∧ St cx w' (LL)) ?_ ?_
  · skip
    all_goals (refine Q0 ?_; refine zD [(0, none), (1, none), (2, none), (3, none), (4, none), (5, none), (6, none), (7, none), (8, none), (9, none), (10, none), (11, none), (12, none), (13, none), (14, none), (15, some none)] ?_; have hS := hS.drew; refine zm ?_)
    all_goals (first | (refine Q1Q ?_) | (refine Q1R ?_) | (refine QD rfl rfl (fun hc => ?_) (fun hc => ?_)))
    all_goals (refine zm ?_; (first | refine s_gn rfl rfl ?_ | (refine s_gy rfl ?_; refine zm ?_)); (first | refine s_gn rfl rfl ?_ | (refine s_gy rfl ?_; refine zm ?_)); (first | refine s_gn rfl rfl ?_ | (refine s_gy rfl ?_; refine Qv rfl ?_)); (first | refine s_gn rfl rfl ?_ | (refine s_gy rfl ?_; refine Q2 rfl ?_)); (first | refine s_gn rfl rfl ?_ | (refine s_gy rfl ?_; refine zl hS ?_)); (first | refine s_gn rfl rfl ?_ | (refine s_gy rfl ?_; refine zL ?_)); (first | refine s_gn rfl rfl ?_ | (refine s_gy rfl ?_; refine zm ?_)); (first | refine s_gn rfl rfl ?_ | (refine s_gy rfl ?_; refine Qv rfl ?_)); (first | refine s_gn rfl rfl ?_ | (refine s_gy rfl ?_; refine Q2 rfl ?_)); (first | refine s_gn rfl rfl ?_ | (refine s_gy rfl ?_; refine zl hS ?_)); (first | refine s_gn rfl rfl ?_ | (refine s_gy rfl ?_; refine zsu ?_)))
    all_goals (first | refine s_gn rfl rfl ?_ | (refine s_gy rfl ?_; (first | (refine QK ?_) | (refine QM ?_) | (refine Qi rfl rfl (fun hc => ?_) (fun hc => ?_)))))
    all_goals ((first | (refine zpt ?_) | (refine zpf ?_)); refine zn ?_)
    all_goals
      first
      | (refine Q3 rfl ?_ -- Q3x c0
         all_goals (refine Q1 ?_; refine zm ?_; refine zb2 [_, _] ?_; refine zki ?_)
         all_goals (refine Q58 rfl ?_; (repeat (first | refine Q12 ?_ | refine Q13 ?_ | refine fun _ => ?_)); refine Q1U ?_; exact .inr ⟨_, rfl, (2, at0), _, Q6s ha h3 h1 (by omega), rfl, hS.sp⟩))
      | (refine Q4 rfl ?_ -- Q3x c0
         all_goals refine zsk ?_)
    all_goals (exact ⟨zh, zh, by omega, hS.sp⟩)
  rintro ρ w1 ⟨hA, hρ, hn, hS⟩; obtain ⟨ρ, rfl⟩ := env2 hA hρ
  all_goals (refine Q0 ?_; refine Q1 ?_; refine zm ?_; refine zn ?_; refine Q0 ?_; refine Q0 ?_; refine Q1 ?_; refine zm ?_; refine zm ?_; refine zn ?_; refine Q8 ?_; have hS := St.nil (T := 3) (es := 1) hS; have hgo := Q6t (f := f) h3 h1 hn)
  refine zo [1, 33] (fun A ρ' w' => ∃ (k0 : Cx) (k at2 : Nat) (vl : Value) (co : List (List Value)) (xs : List _), Has ρ' A ∧ Has ρ' [(34, .int .i64 k), (7, vl)] ∧ (cx.Le k0) ∧ (k ≤ n.toNat) ∧ (at1 ≤ at2 ∧ at2 ≤ bs.length) ∧ (Rep.ls intR k0 co xs) ∧ (xs.length = k) ∧ (oneC vl = true) ∧ (rdMany f n.toNat (bs.drop at1) = mmap xs (rdMany f (n.toNat - k) (bs.drop at2))) ∧ St k0 w' (sl 3 1 vl co :: blk rb 102 [.slice va bs.length vn, .int .i64 at2] :: L)) (fun ρ' _ => (n.toNat - iv (ρ' 34)).toNat) ?_ ?_
  · exact ⟨cx, 0, at1, _, _, [], zh, zh, St.refl hS, (by omega), by omega, Rep.LR.nil _ _ _, rfl, rfl, by rw [QpS]; rfl, hS.sp⟩
  rintro ρ w1 ⟨k0, k, at2, vl, co, xs, hA, hρ, hle2, hk, hat2, hlo, hxl, hvl, hd, hS⟩; obtain ⟨ρ, rfl⟩ := env2 hA hρ; have hL0 := hle2; (try have hle := hle.trans hle2); (try have hv := hv.up hle2)
  unfold Q50
  all_goals (refine Q0 ?_; refine Q1 ?_; refine Qt rfl rfl ?_; refine zn ?_; refine Q0 ?_)
  refine Qm rfl (fun hc => ?_) (fun hc => ?_)
  · skip
    all_goals (refine zsk ?_; refine Q0 ?_; refine Q8 ?_; refine Q1 ?_; refine zm ?_; refine zm ?_)
    all_goals (refine Qgn rfl hfv hg (hone at2 k0 _ _ hL0 hat2.2 (St.mv1 hS)) (by rintro v9 w9 ⟨e, at3, he1, rfl, hS⟩; (repeat (first | refine Q12 ?_ | refine Q13 ?_ | refine fun _ => ?_)); refine Q1U ?_; refine .inr ⟨_, rfl, ?_⟩; exact ⟨e, at3, hgo.trans (Qal hd (by omega) he1), rfl, St.weak hS.sp hL0⟩) ?_; rintro v1 w1 ⟨a, at3, c3, ds, he1, h4, h5, hle2, hd1, rfl, hS⟩; (try have hle := hle.trans hle2); (try have hL0 := hL0.trans hle2); (try have hv := hv.up hle2); (try have hlo := hlo.up hle2); have hd1' := hd1; unfold int1; obtain rfl := Q25 hd1)
    all_goals (refine zB1 hS [_] ?_; intro b1 w1 hS; refine za Qtg u_T41 hS ?_; intro vp1 w1 css1 hls1 hv1 hS; have hS := hS.ns; refine zm ?_; refine zn ?_; refine Q1 ?_; refine zad ?_; refine zm ?_; refine zn ?_; exact ⟨⟨_, k + 1, at3, _, _, xs ++ [a], zh, zh, hL0, (by omega), by omega, hls1, by simp [hxl], by assumption, Qak hd (by omega) he1, hS.sp⟩, Qh (by omega)⟩)
  · skip
    all_goals (refine zex ?_; refine Q0 ?_; refine Q1 ?_; refine zm ?_; refine zm ?_; refine zn ?_; refine zr ?_; refine zf ?_; obtain ⟨c4, hle4, hS, hk4⟩ := St.freezeL (r := intR) hS hlo rfl (by omega); exact .inl ⟨_, rfl, xs, at2, c4, hgo.trans (Qaj hd (by omega)), by omega, hat2.2, hL0.trans hle4, hk4, hS.sp⟩)
theorem QrR {f : List UInt8 → Got _} {bs : List UInt8} {rb at0 : Nat} {v fv : Value} {g : FuncId} {cap : List Value} (hfv : FnV fv g cap) (hg : Q3A Tryz.prog g = true) (hb : bs.length ≤ 1000000) (hone : RdC tyR aggV Tryz.prog g cap f bs rb v cx L) (hv : u8R.sl cx v bs) (ha : at0 ≤ bs.length) (hS : St cx w (blk rb 102 [v, .int .i64 at0] :: L)) :
    Fins Tryz.prog Q1W [.pointer (some ⟨rb, 0, none⟩), fv] w (OkS tyR (Q14 bs.length f (bs.drop at0)) bs rb v at0 cx L) (Bad (Q14 bs.length f (bs.drop at0)) rb v cx L) := by
  unfold RdC at hone
  obtain ⟨va, vn, rfl⟩ := Rep.SR.shape hv
  have hle := St.refl hS
  unfold Fins
  all_goals refine Q64 ?_
  all_goals (unfold codec_list_api_Type_lc; refine Q0 ?_; refine Q1 ?_; refine zm ?_; refine zn ?_; refine Q0 ?_; refine Q1 ?_; refine zm ?_; refine Qv rfl ?_; refine Q2 rfl ?_; refine zl hS ?_; refine zm ?_; refine zn ?_; refine Q0 ?_; refine Q1 ?_; refine zm ?_; refine zE1 (c := Q5b hv ha hS) (p := by rintro v9 w9 ⟨e, at1, h1, rfl, hS⟩; (repeat (first | refine Q12 ?_ | refine Q13 ?_ | refine fun _ => ?_)); refine Q1U ?_; refine .inr ⟨_, rfl, ?_⟩; exact ⟨e, at1, Qam h1, rfl, hS⟩) (h := ?_); rintro v1 w1 ⟨n, at1, h1, h2, h3, rfl, hS⟩; refine zm ?_; refine zn ?_)
  refine zML hS [1, 6] (fun A LL ρ' w' => Has ρ' A ∧ Has ρ' [] ∧ (0 ≤ n ∧ n ≤ (bs.length : Int) - at1) ∧ St cx w' (LL)) ?_ ?_
  · skip
    all_goals (refine Q0 ?_; refine zD [(0, none), (1, none), (2, none), (3, none), (4, none), (5, none), (6, none), (7, none), (8, none), (9, none), (10, none), (11, none), (12, none), (13, none), (14, none), (15, some none)] ?_; have hS := hS.drew; refine zm ?_)
    all_goals (first | (refine Q1Q ?_) | (refine Q1R ?_) | (refine QD rfl rfl (fun hc => ?_) (fun hc => ?_)))
    all_goals (refine zm ?_; (first | refine s_gn rfl rfl ?_ | (refine s_gy rfl ?_; refine zm ?_)); (first | refine s_gn rfl rfl ?_ | (refine s_gy rfl ?_; refine zm ?_)); (first | refine s_gn rfl rfl ?_ | (refine s_gy rfl ?_; refine Qv rfl ?_)); (first | refine s_gn rfl rfl ?_ | (refine s_gy rfl ?_; refine Q2 rfl ?_)); (first | refine s_gn rfl rfl ?_ | (refine s_gy rfl ?_; refine zl hS ?_)); (first | refine s_gn rfl rfl ?_ | (refine s_gy rfl ?_; refine zL ?_)); (first | refine s_gn rfl rfl ?_ | (refine s_gy rfl ?_; refine zm ?_)); (first | refine s_gn rfl rfl ?_ | (refine s_gy rfl ?_; refine Qv rfl ?_)); (first | refine s_gn rfl rfl ?_ | (refine s_gy rfl ?_; refine Q2 rfl ?_)); (first | refine s_gn rfl rfl ?_ | (refine s_gy rfl ?_; refine zl hS ?_)); (first | refine s_gn rfl rfl ?_ | (refine s_gy rfl ?_; refine zsu ?_)))
    all_goals (first | refine s_gn rfl rfl ?_ | (refine s_gy rfl ?_; (first | (refine QK ?_) | (refine QM ?_) | (refine Qi rfl rfl (fun hc => ?_) (fun hc => ?_)))))
    all_goals ((first | (refine zpt ?_) | (refine zpf ?_)); refine zn ?_)
    all_goals
      first
      | (refine Q3 rfl ?_ -- Q1W c0
         all_goals (refine Q1 ?_; refine zm ?_; refine zb2 [_, _] ?_; refine zki ?_)
         all_goals (refine Q58 rfl ?_; (repeat (first | refine Q12 ?_ | refine Q13 ?_ | refine fun _ => ?_)); refine Q1U ?_; exact .inr ⟨_, rfl, (2, at0), _, Q6s ha h3 h1 (by omega), rfl, hS.sp⟩))
      | (refine Q4 rfl ?_ -- Q1W c0
         all_goals refine zsk ?_)
    all_goals (exact ⟨zh, zh, by omega, hS.sp⟩)
  rintro ρ w1 ⟨hA, hρ, hn, hS⟩; obtain ⟨ρ, rfl⟩ := env2 hA hρ
  all_goals (refine Q0 ?_; refine Q1 ?_; refine zm ?_; refine zn ?_; refine Q0 ?_; refine Q0 ?_; refine Q1 ?_; refine zm ?_; refine zm ?_; refine zn ?_; refine Q8 ?_; have hS := St.nil (T := 112) (es := 3) hS; have hgo := Q6t (f := f) h3 h1 hn)
  refine zo [1, 33] (fun A ρ' w' => ∃ (k0 : Cx) (k at2 : Nat) (vl : Value) (co : List (List Value)) (xs : List _), Has ρ' A ∧ Has ρ' [(34, .int .i64 k), (7, vl)] ∧ (cx.Le k0) ∧ (k ≤ n.toNat) ∧ (at1 ≤ at2 ∧ at2 ≤ bs.length) ∧ (Rep.ls tyR k0 co xs) ∧ (xs.length = k) ∧ (oneC vl = true) ∧ (rdMany f n.toNat (bs.drop at1) = mmap xs (rdMany f (n.toNat - k) (bs.drop at2))) ∧ St k0 w' (sl 112 3 vl co :: blk rb 102 [.slice va bs.length vn, .int .i64 at2] :: L)) (fun ρ' _ => (n.toNat - iv (ρ' 34)).toNat) ?_ ?_
  · exact ⟨cx, 0, at1, _, _, [], zh, zh, St.refl hS, (by omega), by omega, Rep.LR.nil _ _ _, rfl, rfl, by rw [QpS]; rfl, hS.sp⟩
  rintro ρ w1 ⟨k0, k, at2, vl, co, xs, hA, hρ, hle2, hk, hat2, hlo, hxl, hvl, hd, hS⟩; obtain ⟨ρ, rfl⟩ := env2 hA hρ; have hL0 := hle2; (try have hle := hle.trans hle2); (try have hv := hv.up hle2)
  unfold Q3k
  all_goals (refine Q0 ?_; refine Q1 ?_; refine Qt rfl rfl ?_; refine zn ?_; refine Q0 ?_)
  refine Qm rfl (fun hc => ?_) (fun hc => ?_)
  · skip
    all_goals (refine zsk ?_; refine Q0 ?_; refine Q8 ?_; refine Q1 ?_; refine zm ?_; refine zm ?_)
    all_goals (refine Qgn rfl hfv hg (hone at2 k0 _ _ hL0 hat2.2 (St.mv1 hS)) (by rintro v9 w9 ⟨e, at3, he1, rfl, hS⟩; (repeat (first | refine Q12 ?_ | refine Q13 ?_ | refine fun _ => ?_)); refine Q1U ?_; refine .inr ⟨_, rfl, ?_⟩; exact ⟨e, at3, hgo.trans (Qal hd (by omega) he1), rfl, St.weak hS.sp hL0⟩) ?_; rintro v1 w1 ⟨a, at3, c3, ds, he1, h4, h5, hle2, hd1, rfl, hS⟩; (try have hle := hle.trans hle2); (try have hL0 := hL0.trans hle2); (try have hv := hv.up hle2); (try have hlo := hlo.up hle2); have hd1' := hd1; unfold aggV; obtain ⟨vo, rfl, ho⟩ := QX hd1)
    all_goals (refine zB1 hS [_, _, _] ?_; intro b1 w1 hS; refine za Qvo u_T50 hS ?_; intro vp1 w1 css1 hls1 hv1 hS; have hS := hS.ns; refine zm ?_; refine zn ?_; refine Q1 ?_; refine zad ?_; refine zm ?_; refine zn ?_; exact ⟨⟨_, k + 1, at3, _, _, xs ++ [a], zh, zh, hL0, (by omega), by omega, hls1, by simp [hxl], by assumption, Qak hd (by omega) he1, hS.sp⟩, Qh (by omega)⟩)
  · skip
    all_goals (refine zex ?_; refine Q0 ?_; refine Q1 ?_; refine zm ?_; refine zm ?_; refine zn ?_; refine zr ?_; refine zf ?_; obtain ⟨c4, hle4, hS, hk4⟩ := St.freezeL (r := tyR) hS hlo rfl (by omega); exact .inl ⟨_, rfl, xs, at2, c4, hgo.trans (Qaj hd (by omega)), by omega, hat2.2, hL0.trans hle4, hk4, hS.sp⟩)
theorem QpI {f : List UInt8 → Got _} {bs : List UInt8} {rb at0 : Nat} {v fv : Value} {g : FuncId} {cap : List Value} (hfv : FnV fv g cap) (hg : Q3A Tryz.prog g = true) (hb : bs.length ≤ 1000000) (hone : RdC insR aggV Tryz.prog g cap f bs rb v cx L) (hv : u8R.sl cx v bs) (ha : at0 ≤ bs.length) (hS : St cx w (blk rb 102 [v, .int .i64 at0] :: L)) :
    Fins Tryz.prog Q2m [.pointer (some ⟨rb, 0, none⟩), fv] w (OkS insR (Q14 bs.length f (bs.drop at0)) bs rb v at0 cx L) (Bad (Q14 bs.length f (bs.drop at0)) rb v cx L) := by
  unfold RdC at hone
  obtain ⟨va, vn, rfl⟩ := Rep.SR.shape hv
  have hle := St.refl hS
  unfold Fins
  all_goals refine Q7n ?_
  all_goals (unfold codec_list_api_Ins_lc; refine Q0 ?_; refine Q1 ?_; refine zm ?_; refine zn ?_; refine Q0 ?_; refine Q1 ?_; refine zm ?_; refine Qv rfl ?_; refine Q2 rfl ?_; refine zl hS ?_; refine zm ?_; refine zn ?_; refine Q0 ?_; refine Q1 ?_; refine zm ?_; refine zE1 (c := Q5b hv ha hS) (p := by rintro v9 w9 ⟨e, at1, h1, rfl, hS⟩; (repeat (first | refine Q12 ?_ | refine Q13 ?_ | refine fun _ => ?_)); refine Q1U ?_; refine .inr ⟨_, rfl, ?_⟩; exact ⟨e, at1, Qam h1, rfl, hS⟩) (h := ?_); rintro v1 w1 ⟨n, at1, h1, h2, h3, rfl, hS⟩; refine zm ?_; refine zn ?_)
  refine zML hS [1, 6] (fun A LL ρ' w' => Has ρ' A ∧ Has ρ' [] ∧ (0 ≤ n ∧ n ≤ (bs.length : Int) - at1) ∧ St cx w' (LL)) ?_ ?_
  · skip
    all_goals (refine Q0 ?_; refine zD [(0, none), (1, none), (2, none), (3, none), (4, none), (5, none), (6, none), (7, none), (8, none), (9, none), (10, none), (11, none), (12, none), (13, none), (14, none), (15, some none)] ?_; have hS := hS.drew; refine zm ?_)
    all_goals (first | (refine Q1Q ?_) | (refine Q1R ?_) | (refine QD rfl rfl (fun hc => ?_) (fun hc => ?_)))
    all_goals (refine zm ?_; (first | refine s_gn rfl rfl ?_ | (refine s_gy rfl ?_; refine zm ?_)); (first | refine s_gn rfl rfl ?_ | (refine s_gy rfl ?_; refine zm ?_)); (first | refine s_gn rfl rfl ?_ | (refine s_gy rfl ?_; refine Qv rfl ?_)); (first | refine s_gn rfl rfl ?_ | (refine s_gy rfl ?_; refine Q2 rfl ?_)); (first | refine s_gn rfl rfl ?_ | (refine s_gy rfl ?_; refine zl hS ?_)); (first | refine s_gn rfl rfl ?_ | (refine s_gy rfl ?_; refine zL ?_)); (first | refine s_gn rfl rfl ?_ | (refine s_gy rfl ?_; refine zm ?_)); (first | refine s_gn rfl rfl ?_ | (refine s_gy rfl ?_; refine Qv rfl ?_)); (first | refine s_gn rfl rfl ?_ | (refine s_gy rfl ?_; refine Q2 rfl ?_)); (first | refine s_gn rfl rfl ?_ | (refine s_gy rfl ?_; refine zl hS ?_)); (first | refine s_gn rfl rfl ?_ | (refine s_gy rfl ?_; refine zsu ?_)))
    all_goals (first | refine s_gn rfl rfl ?_ | (refine s_gy rfl ?_; (first | (refine QK ?_) | (refine QM ?_) | (refine Qi rfl rfl (fun hc => ?_) (fun hc => ?_)))))
    all_goals ((first | (refine zpt ?_) | (refine zpf ?_)); refine zn ?_)
    all_goals
      first
      | (refine Q3 rfl ?_ -- Q2m c0
         all_goals (refine Q1 ?_; refine zm ?_; refine zb2 [_, _] ?_; refine zki ?_)
         all_goals (refine Q58 rfl ?_; (repeat (first | refine Q12 ?_ | refine Q13 ?_ | refine fun _ => ?_)); refine Q1U ?_; exact .inr ⟨_, rfl, (2, at0), _, Q6s ha h3 h1 (by omega), rfl, hS.sp⟩))
      | (refine Q4 rfl ?_ -- Q2m c0
         all_goals refine zsk ?_)
    all_goals (exact ⟨zh, zh, by omega, hS.sp⟩)
  rintro ρ w1 ⟨hA, hρ, hn, hS⟩; obtain ⟨ρ, rfl⟩ := env2 hA hρ
  all_goals (refine Q0 ?_; refine Q1 ?_; refine zm ?_; refine zn ?_; refine Q0 ?_; refine Q0 ?_; refine Q1 ?_; refine zm ?_; refine zm ?_; refine zn ?_; refine Q8 ?_; have hS := St.nil (T := 57) (es := 8) hS; have hgo := Q6t (f := f) h3 h1 hn)
  refine zo [1, 33] (fun A ρ' w' => ∃ (k0 : Cx) (k at2 : Nat) (vl : Value) (co : List (List Value)) (xs : List _), Has ρ' A ∧ Has ρ' [(34, .int .i64 k), (7, vl)] ∧ (cx.Le k0) ∧ (k ≤ n.toNat) ∧ (at1 ≤ at2 ∧ at2 ≤ bs.length) ∧ (Rep.ls insR k0 co xs) ∧ (xs.length = k) ∧ (oneC vl = true) ∧ (rdMany f n.toNat (bs.drop at1) = mmap xs (rdMany f (n.toNat - k) (bs.drop at2))) ∧ St k0 w' (sl 57 8 vl co :: blk rb 102 [.slice va bs.length vn, .int .i64 at2] :: L)) (fun ρ' _ => (n.toNat - iv (ρ' 34)).toNat) ?_ ?_
  · exact ⟨cx, 0, at1, _, _, [], zh, zh, St.refl hS, (by omega), by omega, Rep.LR.nil _ _ _, rfl, rfl, by rw [QpS]; rfl, hS.sp⟩
  rintro ρ w1 ⟨k0, k, at2, vl, co, xs, hA, hρ, hle2, hk, hat2, hlo, hxl, hvl, hd, hS⟩; obtain ⟨ρ, rfl⟩ := env2 hA hρ; have hL0 := hle2; (try have hle := hle.trans hle2); (try have hv := hv.up hle2)
  unfold Q3E
  all_goals (refine Q0 ?_; refine Q1 ?_; refine Qt rfl rfl ?_; refine zn ?_; refine Q0 ?_)
  refine Qm rfl (fun hc => ?_) (fun hc => ?_)
  · skip
    all_goals (refine zsk ?_; refine Q0 ?_; refine Q8 ?_; refine Q1 ?_; refine zm ?_; refine zm ?_)
    all_goals (refine Qgn rfl hfv hg (hone at2 k0 _ _ hL0 hat2.2 (St.mv1 hS)) (by rintro v9 w9 ⟨e, at3, he1, rfl, hS⟩; (repeat (first | refine Q12 ?_ | refine Q13 ?_ | refine fun _ => ?_)); refine Q1U ?_; refine .inr ⟨_, rfl, ?_⟩; exact ⟨e, at3, hgo.trans (Qal hd (by omega) he1), rfl, St.weak hS.sp hL0⟩) ?_; rintro v1 w1 ⟨a, at3, c3, ds, he1, h4, h5, hle2, hd1, rfl, hS⟩; (try have hle := hle.trans hle2); (try have hL0 := hL0.trans hle2); (try have hv := hv.up hle2); (try have hlo := hlo.up hle2); have hd1' := hd1; unfold aggV; obtain ⟨vo1, vo2, rfl, ho1, ho2⟩ := Q22 hd1)
    all_goals (refine zB1 hS [_, _, _, _, _, _, _, _] ?_; intro b1 w1 hS; refine za Qvp u_T40 hS ?_; intro vp1 w1 css1 hls1 hv1 hS; have hS := hS.ns; refine zm ?_; refine zn ?_; refine Q1 ?_; refine zad ?_; refine zm ?_; refine zn ?_; exact ⟨⟨_, k + 1, at3, _, _, xs ++ [a], zh, zh, hL0, (by omega), by omega, hls1, by simp [hxl], by assumption, Qak hd (by omega) he1, hS.sp⟩, Qh (by omega)⟩)
  · skip
    all_goals (refine zex ?_; refine Q0 ?_; refine Q1 ?_; refine zm ?_; refine zm ?_; refine zn ?_; refine zr ?_; refine zf ?_; obtain ⟨c4, hle4, hS, hk4⟩ := St.freezeL (r := insR) hS hlo rfl (by omega); exact .inl ⟨_, rfl, xs, at2, c4, hgo.trans (Qaj hd (by omega)), by omega, hat2.2, hL0.trans hle4, hk4, hS.sp⟩)
theorem QpK {f : List UInt8 → Got _} {bs : List UInt8} {rb at0 : Nat} {v fv : Value} {g : FuncId} {cap : List Value} (hfv : FnV fv g cap) (hg : Q3A Tryz.prog g = true) (hb : bs.length ≤ 1000000) (hone : RdC blockR aggV Tryz.prog g cap f bs rb v cx L) (hv : u8R.sl cx v bs) (ha : at0 ≤ bs.length) (hS : St cx w (blk rb 102 [v, .int .i64 at0] :: L)) :
    Fins Tryz.prog Q26 [.pointer (some ⟨rb, 0, none⟩), fv] w (OkS blockR (Q14 bs.length f (bs.drop at0)) bs rb v at0 cx L) (Bad (Q14 bs.length f (bs.drop at0)) rb v cx L) := by
  unfold RdC at hone
  obtain ⟨va, vn, rfl⟩ := Rep.SR.shape hv
  have hle := St.refl hS
  unfold Fins
  all_goals refine Q5A ?_
  all_goals (unfold codec_list_api_Block_lc; refine Q0 ?_; refine Q1 ?_; refine zm ?_; refine zn ?_; refine Q0 ?_; refine Q1 ?_; refine zm ?_; refine Qv rfl ?_; refine Q2 rfl ?_; refine zl hS ?_; refine zm ?_; refine zn ?_; refine Q0 ?_; refine Q1 ?_; refine zm ?_; refine zE1 (c := Q5b hv ha hS) (p := by rintro v9 w9 ⟨e, at1, h1, rfl, hS⟩; (repeat (first | refine Q12 ?_ | refine Q13 ?_ | refine fun _ => ?_)); refine Q1U ?_; refine .inr ⟨_, rfl, ?_⟩; exact ⟨e, at1, Qam h1, rfl, hS⟩) (h := ?_); rintro v1 w1 ⟨n, at1, h1, h2, h3, rfl, hS⟩; refine zm ?_; refine zn ?_)
  refine zML hS [1, 6] (fun A LL ρ' w' => Has ρ' A ∧ Has ρ' [] ∧ (0 ≤ n ∧ n ≤ (bs.length : Int) - at1) ∧ St cx w' (LL)) ?_ ?_
  · skip
    all_goals (refine Q0 ?_; refine zD [(0, none), (1, none), (2, none), (3, none), (4, none), (5, none), (6, none), (7, none), (8, none), (9, none), (10, none), (11, none), (12, none), (13, none), (14, none), (15, some none)] ?_; have hS := hS.drew; refine zm ?_)
    all_goals (first | (refine Q1Q ?_) | (refine Q1R ?_) | (refine QD rfl rfl (fun hc => ?_) (fun hc => ?_)))
    all_goals (refine zm ?_; (first | refine s_gn rfl rfl ?_ | (refine s_gy rfl ?_; refine zm ?_)); (first | refine s_gn rfl rfl ?_ | (refine s_gy rfl ?_; refine zm ?_)); (first | refine s_gn rfl rfl ?_ | (refine s_gy rfl ?_; refine Qv rfl ?_)); (first | refine s_gn rfl rfl ?_ | (refine s_gy rfl ?_; refine Q2 rfl ?_)); (first | refine s_gn rfl rfl ?_ | (refine s_gy rfl ?_; refine zl hS ?_)); (first | refine s_gn rfl rfl ?_ | (refine s_gy rfl ?_; refine zL ?_)); (first | refine s_gn rfl rfl ?_ | (refine s_gy rfl ?_; refine zm ?_)); (first | refine s_gn rfl rfl ?_ | (refine s_gy rfl ?_; refine Qv rfl ?_)); (first | refine s_gn rfl rfl ?_ | (refine s_gy rfl ?_; refine Q2 rfl ?_)); (first | refine s_gn rfl rfl ?_ | (refine s_gy rfl ?_; refine zl hS ?_)); (first | refine s_gn rfl rfl ?_ | (refine s_gy rfl ?_; refine zsu ?_)))
    all_goals (first | refine s_gn rfl rfl ?_ | (refine s_gy rfl ?_; (first | (refine QK ?_) | (refine QM ?_) | (refine Qi rfl rfl (fun hc => ?_) (fun hc => ?_)))))
    all_goals ((first | (refine zpt ?_) | (refine zpf ?_)); refine zn ?_)
    all_goals
      first
      | (refine Q3 rfl ?_ -- Q26 c0
         all_goals (refine Q1 ?_; refine zm ?_; refine zb2 [_, _] ?_; refine zki ?_)
         all_goals (refine Q58 rfl ?_; (repeat (first | refine Q12 ?_ | refine Q13 ?_ | refine fun _ => ?_)); refine Q1U ?_; exact .inr ⟨_, rfl, (2, at0), _, Q6s ha h3 h1 (by omega), rfl, hS.sp⟩))
      | (refine Q4 rfl ?_ -- Q26 c0
         all_goals refine zsk ?_)
    all_goals (exact ⟨zh, zh, by omega, hS.sp⟩)
  rintro ρ w1 ⟨hA, hρ, hn, hS⟩; obtain ⟨ρ, rfl⟩ := env2 hA hρ
  all_goals (refine Q0 ?_; refine Q1 ?_; refine zm ?_; refine zn ?_; refine Q0 ?_; refine Q0 ?_; refine Q1 ?_; refine zm ?_; refine zm ?_; refine zn ?_; refine Q8 ?_; have hS := St.nil (T := 79) (es := 12) hS; have hgo := Q6t (f := f) h3 h1 hn)
  refine zo [1, 33] (fun A ρ' w' => ∃ (k0 : Cx) (k at2 : Nat) (vl : Value) (co : List (List Value)) (xs : List _), Has ρ' A ∧ Has ρ' [(34, .int .i64 k), (7, vl)] ∧ (cx.Le k0) ∧ (k ≤ n.toNat) ∧ (at1 ≤ at2 ∧ at2 ≤ bs.length) ∧ (Rep.ls blockR k0 co xs) ∧ (xs.length = k) ∧ (oneC vl = true) ∧ (rdMany f n.toNat (bs.drop at1) = mmap xs (rdMany f (n.toNat - k) (bs.drop at2))) ∧ St k0 w' (sl 79 12 vl co :: blk rb 102 [.slice va bs.length vn, .int .i64 at2] :: L)) (fun ρ' _ => (n.toNat - iv (ρ' 34)).toNat) ?_ ?_
  · exact ⟨cx, 0, at1, _, _, [], zh, zh, St.refl hS, (by omega), by omega, Rep.LR.nil _ _ _, rfl, rfl, by rw [QpS]; rfl, hS.sp⟩
  rintro ρ w1 ⟨k0, k, at2, vl, co, xs, hA, hρ, hle2, hk, hat2, hlo, hxl, hvl, hd, hS⟩; obtain ⟨ρ, rfl⟩ := env2 hA hρ; have hL0 := hle2; (try have hle := hle.trans hle2); (try have hv := hv.up hle2)
  unfold Q3e
  all_goals (refine Q0 ?_; refine Q1 ?_; refine Qt rfl rfl ?_; refine zn ?_; refine Q0 ?_)
  refine Qm rfl (fun hc => ?_) (fun hc => ?_)
  · skip
    all_goals (refine zsk ?_; refine Q0 ?_; refine Q8 ?_; refine Q1 ?_; refine zm ?_; refine zm ?_)
    all_goals (refine Qgn rfl hfv hg (hone at2 k0 _ _ hL0 hat2.2 (St.mv1 hS)) (by rintro v9 w9 ⟨e, at3, he1, rfl, hS⟩; (repeat (first | refine Q12 ?_ | refine Q13 ?_ | refine fun _ => ?_)); refine Q1U ?_; refine .inr ⟨_, rfl, ?_⟩; exact ⟨e, at3, hgo.trans (Qal hd (by omega) he1), rfl, St.weak hS.sp hL0⟩) ?_; rintro v1 w1 ⟨a, at3, c3, ds, he1, h4, h5, hle2, hd1, rfl, hS⟩; (try have hle := hle.trans hle2); (try have hL0 := hL0.trans hle2); (try have hv := hv.up hle2); (try have hlo := hlo.up hle2); have hd1' := hd1; unfold aggV; obtain ⟨o1, o2, o3, o4, o5, o6, o7, rfl, q1, q2, q3, q4, q5, q6, q7⟩ := Q1w hd1)
    all_goals (refine zB1 hS [_, _, _, _, _, _, _, _, _, _, _, _] ?_; intro b1 w1 hS; refine za Qvn u_T51 hS ?_; intro vp1 w1 css1 hls1 hv1 hS; have hS := hS.ns; refine zm ?_; refine zn ?_; refine Q1 ?_; refine zad ?_; refine zm ?_; refine zn ?_; exact ⟨⟨_, k + 1, at3, _, _, xs ++ [a], zh, zh, hL0, (by omega), by omega, hls1, by simp [hxl], by assumption, Qak hd (by omega) he1, hS.sp⟩, Qh (by omega)⟩)
  · skip
    all_goals (refine zex ?_; refine Q0 ?_; refine Q1 ?_; refine zm ?_; refine zm ?_; refine zn ?_; refine zr ?_; refine zf ?_; obtain ⟨c4, hle4, hS, hk4⟩ := St.freezeL (r := blockR) hS hlo rfl (by omega); exact .inl ⟨_, rfl, xs, at2, c4, hgo.trans (Qaj hd (by omega)), by omega, hat2.2, hL0.trans hle4, hk4, hS.sp⟩)
theorem QpJ {f : List UInt8 → Got _} {bs : List UInt8} {rb at0 : Nat} {v fv : Value} {g : FuncId} {cap : List Value} (hfv : FnV fv g cap) (hg : Q3A Tryz.prog g = true) (hb : bs.length ≤ 1000000) (hone : RdC funcR aggV Tryz.prog g cap f bs rb v cx L) (hv : u8R.sl cx v bs) (ha : at0 ≤ bs.length) (hS : St cx w (blk rb 102 [v, .int .i64 at0] :: L)) :
    Fins Tryz.prog Q2e [.pointer (some ⟨rb, 0, none⟩), fv] w (OkS funcR (Q14 bs.length f (bs.drop at0)) bs rb v at0 cx L) (Bad (Q14 bs.length f (bs.drop at0)) rb v cx L) := by
  unfold RdC at hone
  obtain ⟨va, vn, rfl⟩ := Rep.SR.shape hv
  have hle := St.refl hS
  unfold Fins
  all_goals refine Q6i ?_
  all_goals (unfold codec_list_api_Func_lc; refine Q0 ?_; refine Q1 ?_; refine zm ?_; refine zn ?_; refine Q0 ?_; refine Q1 ?_; refine zm ?_; refine Qv rfl ?_; refine Q2 rfl ?_; refine zl hS ?_; refine zm ?_; refine zn ?_; refine Q0 ?_; refine Q1 ?_; refine zm ?_; refine zE1 (c := Q5b hv ha hS) (p := by rintro v9 w9 ⟨e, at1, h1, rfl, hS⟩; (repeat (first | refine Q12 ?_ | refine Q13 ?_ | refine fun _ => ?_)); refine Q1U ?_; refine .inr ⟨_, rfl, ?_⟩; exact ⟨e, at1, Qam h1, rfl, hS⟩) (h := ?_); rintro v1 w1 ⟨n, at1, h1, h2, h3, rfl, hS⟩; refine zm ?_; refine zn ?_)
  refine zML hS [1, 6] (fun A LL ρ' w' => Has ρ' A ∧ Has ρ' [] ∧ (0 ≤ n ∧ n ≤ (bs.length : Int) - at1) ∧ St cx w' (LL)) ?_ ?_
  · skip
    all_goals (refine Q0 ?_; refine zD [(0, none), (1, none), (2, none), (3, none), (4, none), (5, none), (6, none), (7, none), (8, none), (9, none), (10, none), (11, none), (12, none), (13, none), (14, none), (15, some none)] ?_; have hS := hS.drew; refine zm ?_)
    all_goals (first | (refine Q1Q ?_) | (refine Q1R ?_) | (refine QD rfl rfl (fun hc => ?_) (fun hc => ?_)))
    all_goals (refine zm ?_; (first | refine s_gn rfl rfl ?_ | (refine s_gy rfl ?_; refine zm ?_)); (first | refine s_gn rfl rfl ?_ | (refine s_gy rfl ?_; refine zm ?_)); (first | refine s_gn rfl rfl ?_ | (refine s_gy rfl ?_; refine Qv rfl ?_)); (first | refine s_gn rfl rfl ?_ | (refine s_gy rfl ?_; refine Q2 rfl ?_)); (first | refine s_gn rfl rfl ?_ | (refine s_gy rfl ?_; refine zl hS ?_)); (first | refine s_gn rfl rfl ?_ | (refine s_gy rfl ?_; refine zL ?_)); (first | refine s_gn rfl rfl ?_ | (refine s_gy rfl ?_; refine zm ?_)); (first | refine s_gn rfl rfl ?_ | (refine s_gy rfl ?_; refine Qv rfl ?_)); (first | refine s_gn rfl rfl ?_ | (refine s_gy rfl ?_; refine Q2 rfl ?_)); (first | refine s_gn rfl rfl ?_ | (refine s_gy rfl ?_; refine zl hS ?_)); (first | refine s_gn rfl rfl ?_ | (refine s_gy rfl ?_; refine zsu ?_)))
    all_goals (first | refine s_gn rfl rfl ?_ | (refine s_gy rfl ?_; (first | (refine QK ?_) | (refine QM ?_) | (refine Qi rfl rfl (fun hc => ?_) (fun hc => ?_)))))
    all_goals ((first | (refine zpt ?_) | (refine zpf ?_)); refine zn ?_)
    all_goals
      first
      | (refine Q3 rfl ?_ -- Q2e c0
         all_goals (refine Q1 ?_; refine zm ?_; refine zb2 [_, _] ?_; refine zki ?_)
         all_goals (refine Q58 rfl ?_; (repeat (first | refine Q12 ?_ | refine Q13 ?_ | refine fun _ => ?_)); refine Q1U ?_; exact .inr ⟨_, rfl, (2, at0), _, Q6s ha h3 h1 (by omega), rfl, hS.sp⟩))
      | (refine Q4 rfl ?_ -- Q2e c0
         all_goals refine zsk ?_)
    all_goals (exact ⟨zh, zh, by omega, hS.sp⟩)
  rintro ρ w1 ⟨hA, hρ, hn, hS⟩; obtain ⟨ρ, rfl⟩ := env2 hA hρ
  all_goals (refine Q0 ?_; refine Q1 ?_; refine zm ?_; refine zn ?_; refine Q0 ?_; refine Q0 ?_; refine Q1 ?_; refine zm ?_; refine zm ?_; refine zn ?_; refine Q8 ?_; have hS := St.nil (T := 53) (es := 4) hS; have hgo := Q6t (f := f) h3 h1 hn)
  refine zo [1, 33] (fun A ρ' w' => ∃ (k0 : Cx) (k at2 : Nat) (vl : Value) (co : List (List Value)) (xs : List _), Has ρ' A ∧ Has ρ' [(34, .int .i64 k), (7, vl)] ∧ (cx.Le k0) ∧ (k ≤ n.toNat) ∧ (at1 ≤ at2 ∧ at2 ≤ bs.length) ∧ (Rep.ls funcR k0 co xs) ∧ (xs.length = k) ∧ (oneC vl = true) ∧ (rdMany f n.toNat (bs.drop at1) = mmap xs (rdMany f (n.toNat - k) (bs.drop at2))) ∧ St k0 w' (sl 53 4 vl co :: blk rb 102 [.slice va bs.length vn, .int .i64 at2] :: L)) (fun ρ' _ => (n.toNat - iv (ρ' 34)).toNat) ?_ ?_
  · exact ⟨cx, 0, at1, _, _, [], zh, zh, St.refl hS, (by omega), by omega, Rep.LR.nil _ _ _, rfl, rfl, by rw [QpS]; rfl, hS.sp⟩
  rintro ρ w1 ⟨k0, k, at2, vl, co, xs, hA, hρ, hle2, hk, hat2, hlo, hxl, hvl, hd, hS⟩; obtain ⟨ρ, rfl⟩ := env2 hA hρ; have hL0 := hle2; (try have hle := hle.trans hle2); (try have hv := hv.up hle2)
  unfold Q3l
  all_goals (refine Q0 ?_; refine Q1 ?_; refine Qt rfl rfl ?_; refine zn ?_; refine Q0 ?_)
  refine Qm rfl (fun hc => ?_) (fun hc => ?_)
  · skip
    all_goals (refine zsk ?_; refine Q0 ?_; refine Q8 ?_; refine Q1 ?_; refine zm ?_; refine zm ?_)
    all_goals (refine Qgn rfl hfv hg (hone at2 k0 _ _ hL0 hat2.2 (St.mv1 hS)) (by rintro v9 w9 ⟨e, at3, he1, rfl, hS⟩; (repeat (first | refine Q12 ?_ | refine Q13 ?_ | refine fun _ => ?_)); refine Q1U ?_; refine .inr ⟨_, rfl, ?_⟩; exact ⟨e, at3, hgo.trans (Qal hd (by omega) he1), rfl, St.weak hS.sp hL0⟩) ?_; rintro v1 w1 ⟨a, at3, c3, ds, he1, h4, h5, hle2, hd1, rfl, hS⟩; (try have hle := hle.trans hle2); (try have hL0 := hL0.trans hle2); (try have hv := hv.up hle2); (try have hlo := hlo.up hle2); have hd1' := hd1; unfold aggV; obtain ⟨o1, o2, o3, rfl, q1, q2, q3⟩ := Q1t hd1)
    all_goals (refine zB1 hS [_, _, _, _] ?_; intro b1 w1 hS; refine za Qvq u_T22 hS ?_; intro vp1 w1 css1 hls1 hv1 hS; have hS := hS.ns; refine zm ?_; refine zn ?_; refine Q1 ?_; refine zad ?_; refine zm ?_; refine zn ?_; exact ⟨⟨_, k + 1, at3, _, _, xs ++ [a], zh, zh, hL0, (by omega), by omega, hls1, by simp [hxl], by assumption, Qak hd (by omega) he1, hS.sp⟩, Qh (by omega)⟩)
  · skip
    all_goals (refine zex ?_; refine Q0 ?_; refine Q1 ?_; refine zm ?_; refine zm ?_; refine zn ?_; refine zr ?_; refine zf ?_; obtain ⟨c4, hle4, hS, hk4⟩ := St.freezeL (r := funcR) hS hlo rfl (by omega); exact .inl ⟨_, rfl, xs, at2, c4, hgo.trans (Qaj hd (by omega)), by omega, hat2.2, hL0.trans hle4, hk4, hS.sp⟩)
end Go.Proofs.YtanlkfeogoganaaGreat
namespace Go.Proofs.YtanlkfeogoganaaGreat
open Go.Lir
set_option maxHeartbeats 1000000
attribute [local irreducible] LC.wp Q5 QN Q11 retQ Q1T LO.wp Qr Calls
set_option linter.unusedSimpArgs false
set_option linter.unusedVariables false
attribute [local irreducible] bitI IntKind.wrap Q3n rdLong rdMany Q14 mmap
variable {cx : Cx} {w : World} {L : List Res}
theorem QuO {bs : List UInt8} {rb : Nat} {v : Value} (hv : u8R.sl cx v bs) : RdC intR int1 Tryz.prog Q3J [.pointer (some ⟨rb, 0, none⟩)] (rdLong bs.length) bs rb v cx L := by
  intro at1 c1 w1 r0 hle hat hS
  refine Fins.mono (Q4E (Rep.SR.up hv hle) hat hS) ?_ ?_
  · rintro u w' ⟨n, at', h1, h2, h3, rfl, hS⟩; exact ⟨n, at', c1, [.int .i64 n], h1, h2, h3, St.refl hS, rfl, rfl, hS⟩
  · rintro u w' ⟨e, at', h1, rfl, hS⟩; exact ⟨e, at', h1, rfl, hS⟩
theorem Qai {bs : List UInt8} {rb at0 : Nat} {v : Value} (hb : bs.length ≤ 1000000) (hv : u8R.sl cx v bs) (ha : at0 ≤ bs.length) (hS : St cx w (blk rb 102 [v, .int .i64 at0] :: L)) :
    Fins Tryz.prog Q4S [.pointer (some ⟨rb, 0, none⟩)] w (OkS intR (Q1Z bs.length (bs.drop at0)) bs rb v at0 cx L) (Bad (Q1Z bs.length (bs.drop at0)) rb v cx L) := by
  unfold Fins
  all_goals refine Q8t ?_
  all_goals (unfold codec_reader_ints_lc; refine Q0 ?_; refine Q1 ?_; refine zm ?_; refine zn ?_; refine Q0 ?_; refine Q1 ?_; refine zm ?_; refine zm ?_; refine s_mkb (u := [.pointer (some ⟨rb, 0, none⟩)]) rfl ?_; refine zE2 (c := QpH (cx := cx) ⟨[_], [], rfl, rfl⟩ (by kernel_rfl) hb (QuO hv) hv ha hS) (p := by rintro v9 w9 hX; (repeat (first | refine Q12 ?_ | refine Q13 ?_ | refine fun _ => ?_)); refine Q1U ?_; refine .inr ⟨_, rfl, ?_⟩; exact hX) (h := ?_); rintro v1 w1 hX; refine zm ?_; refine zn ?_; refine zr ?_; refine zf ?_; exact .inl ⟨_, rfl, hX⟩)
theorem QuN {bs : List UInt8} {rb at0 : Nat} {v : Value} (hb : bs.length ≤ 1000000) (hv : u8R.sl cx v bs) (ha : at0 ≤ bs.length) (hS : St cx w (blk rb 102 [v, .int .i64 at0] :: L)) :
    Fins Tryz.prog Q6Y [.pointer (some ⟨rb, 0, none⟩)] w (OkA toR aggV (rdTo bs.length (bs.drop at0)) bs rb v at0 cx L) (Bad (rdTo bs.length (bs.drop at0)) rb v cx L) := by
  have hle := St.refl hS
  unfold Fins
  all_goals refine QaI ?_
  all_goals (unfold codec_reader_to_lc; refine Q0 ?_; refine Q1 ?_; refine Qb hS ?_; intro p2 w1 hS; refine zn ?_; refine Q0 ?_; refine Q1 ?_; refine zm ?_; refine zE1 (c := Q4E hv ha hS.sp) (p := by rintro v9 w9 ⟨e, at1, h1, rfl, hS⟩; (repeat (first | refine Q12 ?_ | refine Q13 ?_ | refine fun _ => ?_)); refine Q1U ?_; refine .inr ⟨_, rfl, ?_⟩; exact ⟨e, at1, by simp only [rdTo, Qz, h1], rfl, hS.sp⟩) (h := ?_); rintro v1 w1 ⟨n, at1, h1, h2, h3, rfl, hS⟩; refine zb1 [_, _, _] ?_; refine Qb hS ?_; intro p3 w1 hS; refine zsn hS ?_; intro w1 hS; have hS := hS.ns; refine zn ?_; refine Q0 ?_; refine Q1 ?_; refine zm ?_; refine Q2k rfl (Qai hb hv h3 (St.mv1 hS)) (by rintro v9 w9 ⟨e, at2, e2, rfl, hS⟩; (repeat (first | refine Q12 ?_ | refine Q13 ?_ | refine fun _ => ?_)); refine Q1U ?_; refine .inr ⟨_, rfl, ?_⟩; exact ⟨e, at2, by simp only [rdTo, Qz, h1, e2], rfl, hS.sp⟩) ?_; rintro v2 w2 ⟨l1, at2, c2, e2, h4, h5, hle2, hl1, hS⟩; have hv2 := Rep.SR.up hv hle2; have ho2 := Rep.SR.oneC hl1; refine Q2 rfl ?_; refine zst hS ?_; intro w1 hS; have hS := hS.ns; refine zn ?_; refine Q0 ?_; refine Q1 ?_; refine zm ?_; refine Q2k rfl (Qai hb hv2 h5 hS) (by rintro v9 w9 ⟨e, at3, e3, rfl, hS⟩; (repeat (first | refine Q12 ?_ | refine Q13 ?_ | refine fun _ => ?_)); refine Q1U ?_; refine .inr ⟨_, rfl, ?_⟩; exact ⟨e, at3, by simp only [rdTo, Qz, h1, e2, e3], rfl, St.weak hS.sp hle2⟩) ?_; rintro v3 w3 ⟨l2, at3, c3, e3, h6, h7, hle3, hl2, hS⟩; have ho3 := Rep.SR.oneC hl2)
  all_goals (refine Q2 rfl ?_; refine zst hS ?_; intro w1 hS; have hS := hS.ns; refine zn ?_; refine Q0 ?_; refine Q1 ?_; refine zv hS ?_; refine zsn hS ?_; intro w1 hS; have hS := hS.ns; refine zn ?_; refine zr ?_; refine Q20 vw (Q9 (n := 3) (by kernel_rfl) (by kernel_rfl) (hS.blkAt fd) (by rfl) (by rfl)) ?_; exact .inl ⟨_, rfl, ⟨n, l1, l2⟩, at3, c3, _, by simp only [rdTo, Qz, h1, e2, e3], by omega, by omega, hle2.trans hle3, ⟨_, _, rfl, Rep.SR.up hl1 hle3, hl2⟩, rfl, hS.sp⟩)
end Go.Proofs.YtanlkfeogoganaaGreat
namespace Go.Proofs.YtanlkfeogoganaaGreat
open Go.Lir
set_option maxHeartbeats 1000000
attribute [local irreducible] LC.wp Q5 QN Q11 retQ Q1T LO.wp Qr Calls
set_option linter.unusedSimpArgs false
set_option linter.unusedVariables false
attribute [local irreducible] bitI IntKind.wrap Q3n rdLong rdMany Q14 mmap Q1Z rdTo
variable {cx : Cx} {w : World} {L : List Res}
theorem rdend_c {bs : List UInt8} {rb at0 : Nat} {v : Value} (hb : bs.length ≤ 1000000) (hv : u8R.sl cx v bs) (ha : at0 ≤ bs.length) (hS : St cx w (blk rb 102 [v, .int .i64 at0] :: L)) :
    Fins Tryz.prog Q1k [.pointer (some ⟨rb, 0, none⟩)] w (OkA endR aggV (Q2q bs.length (bs.drop at0)) bs rb v at0 cx L) (Bad (Q2q bs.length (bs.drop at0)) rb v cx L) := by
  have hle := St.refl hS
  have hnil : intR.sl cx vn [] := Rep.SR.nil _ _ _
  unfold Fins
  all_goals refine Q9U ?_
  all_goals (unfold codec_reader_end_lc; refine Q0 ?_; refine Q1 ?_; refine Qb hS ?_; intro p2 w1 hS; refine zn ?_; refine Q0 ?_; refine Q1 ?_; refine zm ?_; refine zE1 (c := Q4E hv ha hS.sp) (p := by rintro v9 w9 ⟨e, at1, h1, rfl, hS⟩; (repeat (first | refine Q12 ?_ | refine Q13 ?_ | refine fun _ => ?_)); refine Q1U ?_; refine .inr ⟨_, rfl, ?_⟩; exact ⟨e, at1, rdEnd_e h1, rfl, hS.sp⟩) (h := ?_); rintro v1 w1 ⟨n, at1, h1, h2, h3, rfl, hS⟩; refine zb1 [_, _, _, _, _, _, _, _, _] ?_; refine Qb hS ?_; intro p3 w1 hS; refine zsn hS ?_; intro w1 hS; have hS := hS.ns; refine zn ?_; refine Q0 ?_; refine Q0 ?_; refine Q1 ?_; refine Q2 rfl ?_; refine zl hS ?_; refine zn ?_; refine Q8 ?_; refine Q0 ?_; refine Q1 ?_)
  all_goals (first | (refine Qy ?_) | (refine QC ?_) | (refine Qn rfl rfl (fun hc => ?_) (fun hc => ?_)))
  all_goals (refine zm ?_; refine zn ?_)
  all_goals
    first
    | (refine Q3 rfl ?_ -- Q1k c0
       all_goals (refine Q1 ?_; refine zm ?_; refine Q2k rfl (QuN hb hv h3 (St.mv1 hS)) (by rintro v9 w9 ⟨e, at2, e2, rfl, hS⟩; (repeat (first | refine Q12 ?_ | refine Q13 ?_ | refine fun _ => ?_)); refine Q1U ?_; refine .inr ⟨_, rfl, ?_⟩; exact ⟨e, at2, rdEnd_1e h1 (by omega) e2, rfl, hS.sp⟩) ?_; rintro v2 w2 ⟨a1, at2, c2, ds, e2, h4, h5, hle2, hd1, rfl, hS⟩; obtain ⟨u1, u2, rfl, q1, q2⟩ := Q2W hd1; have o1 := Rep.SR.oneC q1; have o2 := Rep.SR.oneC q2; unfold aggV; refine Q2 rfl ?_; (first | (refine zsn hS ?_; intro w1 hS; have hS := hS.ns) | (refine zsm hS ?_; intro w1 hS; have hS := hS.ns)))
       all_goals refine zn ?_)
    | (refine Q4 rfl ?_ -- Q1k c0
       all_goals (refine Q0 ?_; refine Q1 ?_)
       all_goals (first | (refine Qy ?_) | (refine QC ?_) | (refine Qn rfl rfl (fun hc => ?_) (fun hc => ?_)))
       all_goals (refine zm ?_; refine zn ?_)
       all_goals
         first
         | (refine Q3 rfl ?_ -- Q1k c1
            all_goals (refine Q0 ?_; refine Q1 ?_; refine zm ?_; refine Q2k rfl (Q4E hv h3 (St.mv1 hS)) (by rintro v9 w9 ⟨e, at2, e2, rfl, hS⟩; (repeat (first | refine Q12 ?_ | refine Q13 ?_ | refine fun _ => ?_)); refine Q1U ?_; refine .inr ⟨_, rfl, ?_⟩; exact ⟨e, at2, rdEnd_2a h1 (by omega) e2, rfl, hS.sp⟩) ?_; rintro v2 w2 ⟨m, at2, e2, h4, h5, rfl, hS⟩; refine Q2 rfl ?_; refine zst hS ?_; intro w1 hS; have hS := hS.ns; refine zn ?_; refine Q0 ?_; refine Q1 ?_; refine zm ?_; refine Q2k rfl (QuN hb hv h5 hS) (by rintro v9 w9 ⟨e, at3, e3, rfl, hS⟩; (repeat (first | refine Q12 ?_ | refine Q13 ?_ | refine fun _ => ?_)); refine Q1U ?_; refine .inr ⟨_, rfl, ?_⟩; exact ⟨e, at3, rdEnd_2b h1 (by omega) e2 e3, rfl, hS.sp⟩) ?_; rintro v3 w3 ⟨a2, at3, c3, ds, e3, h6, h7, hle3, hd1, rfl, hS⟩; obtain ⟨u1, u2, rfl, q1, q2⟩ := Q2W hd1; have o1 := Rep.SR.oneC q1; have o2 := Rep.SR.oneC q2; unfold aggV; refine Q2 rfl ?_; (first | (refine zsn hS ?_; intro w1 hS; have hS := hS.ns) | (refine zsm hS ?_; intro w1 hS; have hS := hS.ns)); refine zn ?_; refine Q1 ?_; refine zm ?_; refine Q2k rfl (QuN hb (Rep.SR.up hv hle3) h7 hS) (by rintro v9 w9 ⟨e, at4, e4, rfl, hS⟩; (repeat (first | refine Q12 ?_ | refine Q13 ?_ | refine fun _ => ?_)); refine Q1U ?_; refine .inr ⟨_, rfl, ?_⟩; exact ⟨e, at4, rdEnd_2c h1 (by omega) e2 e3 e4, rfl, St.weak hS.sp hle3⟩) ?_; rintro v4 w4 ⟨a3, at4, c4, ds, e4, h8, h9, hle4, hd2, rfl, hS⟩; obtain ⟨u3, u4, rfl, q3, q4⟩ := Q2W hd2; have o3 := Rep.SR.oneC q3; have o4 := Rep.SR.oneC q4; unfold aggV)
            all_goals (refine Q2 rfl ?_; (first | (refine zsn hS ?_; intro w1 hS; have hS := hS.ns) | (refine zsm hS ?_; intro w1 hS; have hS := hS.ns)))
            all_goals refine zn ?_)
         | (refine Q4 rfl ?_ -- Q1k c1
            all_goals (refine Q0 ?_; refine Q1 ?_)
            all_goals (first | (refine Qy ?_) | (refine QC ?_) | (refine Qn rfl rfl (fun hc => ?_) (fun hc => ?_)))
            all_goals (refine zm ?_; refine zn ?_)
            all_goals
              first
              | (refine Q3 rfl ?_ -- Q1k c2
                 all_goals (refine Q1 ?_; refine zm ?_; refine Q2k rfl (Qai hb hv h3 (St.mv1 hS)) (by rintro v9 w9 ⟨e, at2, e2, rfl, hS⟩; (repeat (first | refine Q12 ?_ | refine Q13 ?_ | refine fun _ => ?_)); refine Q1U ?_; refine .inr ⟨_, rfl, ?_⟩; exact ⟨e, at2, rdEnd_3e h1 (by omega) e2, rfl, hS.sp⟩) ?_; rintro v2 w2 ⟨l1, at2, c2, e2, h4, h5, hle2, hl1, hS⟩; have o1 := Rep.SR.oneC hl1; refine Q2 rfl ?_; refine zst hS ?_; intro w1 hS; have hS := hS.ns)
                 all_goals refine zn ?_)
              | (refine Q4 rfl ?_ -- Q1k c2
                 all_goals refine zsk ?_)))
  all_goals (refine Q0 ?_; (first | (have hd9 : endR.at c2 [.int .i64 n, vi 0, .int .i64 a1.block, u1, u2, vi 0, vn, vn, vn] ⟨n, 0, a1, ⟨0, [], []⟩, []⟩ := ⟨_, _, _, _, _, rfl, q1, q2, Rep.SR.up hnil hle2, Rep.SR.up hnil hle2, Rep.SR.up hnil hle2⟩; have he9 := rdEnd_1 h1 (by omega) e2; have hle9 := hle2) | (have hd9 : endR.at c4 [.int .i64 n, .int .i64 m, .int .i64 a2.block, u1, u2, .int .i64 a3.block, u3, u4, vn] ⟨n, m, a2, a3, []⟩ := ⟨_, _, _, _, _, rfl, Rep.SR.up q1 hle4, Rep.SR.up q2 hle4, q3, q4, Rep.SR.up hnil (hle3.trans hle4)⟩; have he9 := rdEnd_2 h1 (by omega) e2 e3 e4; have hle9 := hle3.trans hle4) | (have hd9 : endR.at c2 [.int .i64 n, vi 0, vi 0, vn, vn, vi 0, vn, vn, v2] ⟨n, 0, ⟨0, [], []⟩, ⟨0, [], []⟩, l1⟩ := ⟨_, _, _, _, _, rfl, Rep.SR.up hnil hle2, Rep.SR.up hnil hle2, Rep.SR.up hnil hle2, Rep.SR.up hnil hle2, hl1⟩; have he9 := rdEnd_3 h1 (by omega) e2; have hle9 := hle2) | (have hd9 : endR.at cx [.int .i64 n, vi 0, vi 0, vn, vn, vi 0, vn, vn, vn] ⟨n, 0, ⟨0, [], []⟩, ⟨0, [], []⟩, []⟩ := ⟨_, _, _, _, _, rfl, hnil, hnil, hnil, hnil, hnil⟩; have he9 := rdEnd_0 h1 (by omega) (by omega) (by omega); have hle9 := hle)); refine Q1 ?_; refine zv hS ?_; refine zsn hS ?_; intro w1 hS; have hS := hS.ns; refine zn ?_; refine zr ?_; refine Q20 vw (Q9 (n := 9) (by kernel_rfl) (by kernel_rfl) (hS.blkAt fd) (by rfl) (by rfl)) ?_)
  all_goals ((first | exact .inl ⟨_, rfl, _, at2, c2, _, he9, by omega, by omega, hle9, hd9, rfl, hS.sp⟩ | exact .inl ⟨_, rfl, _, at4, c4, _, he9, by omega, by omega, hle9, hd9, rfl, hS.sp⟩ | exact .inl ⟨_, rfl, _, at2, c2, _, he9, by omega, by omega, hle9, hd9, rfl, hS.sp⟩ | exact .inl ⟨_, rfl, _, at1, cx, _, he9, by omega, by omega, hle9, hd9, rfl, hS.sp⟩))
end Go.Proofs.YtanlkfeogoganaaGreat
namespace Go.Proofs.YtanlkfeogoganaaGreat
open Go.Lir
set_option maxHeartbeats 1000000
attribute [local irreducible] LC.wp Q5 QN Q11 retQ Q1T LO.wp Qr Calls
set_option linter.unusedSimpArgs false
set_option linter.unusedVariables false
attribute [local irreducible] bitI IntKind.wrap Q3n rdLong rdMany Q14 mmap Q1Z QO
variable {cx : Cx} {w : World} {L : List Res}
/-- What the reader of types does where so many levels are left. -/
def TysC (bs : List UInt8) (rb : Nat) (v : Value) (k : Nat) : Prop :=
  ∀ (cx : Cx) (w : World) (L : List Res) (d : Int) (at0 : Nat), 0 ≤ d → d + k = 6 → u8R.sl cx v bs → at0 ≤ bs.length → St cx w (blk rb 102 [v, .int .i64 at0] :: L) →
    Fins Tryz.prog Q23 [.pointer (some ⟨rb, 0, none⟩), .int .i64 d] w (OkS tyR (QO bs.length k (bs.drop at0)) bs rb v at0 cx L) (Bad (QO bs.length k (bs.drop at0)) rb v cx L)
theorem Q8M {α : Type} {p : Prop} [Decidable p] {z : α} {f : List UInt8 → Got α} {r : List UInt8} (h : p) : rdIf p z f r = f r := if_pos h
theorem QpN {α : Type} {p : Prop} [Decidable p] {z : α} {f : List UInt8 → Got α} {r : List UInt8} (h : ¬ p) : rdIf p z f r = .ok (z, r) := if_neg h
theorem rdty_c {bs : List UInt8} {rb p q at0 k : Nat} {d : Int} {v : Value} (hrec : TysC bs rb v k) (h0 : 0 ≤ d) (hd : d + k = 5) (hv : u8R.sl cx v bs) (ha : at0 ≤ bs.length) (hS : St cx w (blk rb 102 [v, .int .i64 at0] :: blk p 100 [.pointer (some ⟨rb, 0, none⟩)] :: blk q 3 [.int .i64 d] :: L)) :
    Fins Tryz.prog Q17 [.pointer (some ⟨p, 0, none⟩), .pointer (some ⟨q, 0, none⟩)] w (OkA tyR aggV (rdTy bs.length k (bs.drop at0)) bs rb v at0 cx (blk p 100 [.pointer (some ⟨rb, 0, none⟩)] :: blk q 3 [.int .i64 d] :: L)) (Bad (rdTy bs.length k (bs.drop at0)) rb v cx (blk p 100 [.pointer (some ⟨rb, 0, none⟩)] :: blk q 3 [.int .i64 d] :: L)) := by
  have hle := St.refl hS
  have hnil : tyR.sl cx vn [] := Rep.SR.nil _ _ _
  unfold Fins
  all_goals refine Q5l ?_
  all_goals (unfold codec_reader_types_1_lc; refine Q0 ?_; refine Q1 ?_; refine Qb hS ?_; intro p2 w1 hS; refine zn ?_; refine Q0 ?_; refine Q1 ?_; refine zl hS ?_; refine Q2k rfl (Q4E hv ha hS.sp) (by rintro v9 w9 ⟨e, at2, e2, rfl, hS⟩; (repeat (first | refine Q12 ?_ | refine Q13 ?_ | refine fun _ => ?_)); refine Q1U ?_; refine .inr ⟨_, rfl, ?_⟩; exact ⟨e, at2, by simp only [rdTy, Qz, e2], rfl, hS.sp⟩) ?_; rintro v1 w1 ⟨n, at1, h1, h2, h3, rfl, hS⟩; refine zb1 [_, _, _] ?_; refine Qb hS ?_; intro p3 w1 hS; refine zsn hS ?_; intro w1 hS; have hS := hS.ns; refine zn ?_)
  refine zM [0, 1, 2, 3] (fun A ρ' w' => ∃ (g : Int) (at2 : Nat), Has ρ' A ∧ Has ρ' [] ∧ (rdIf (n ≠ 1) 0 (rdLong bs.length) (bs.drop at1) = .ok (g, bs.drop at2)) ∧ (at1 ≤ at2) ∧ (at2 ≤ bs.length) ∧ St cx w' (blk rb 102 [v, .int .i64 at2] :: blk p3 112 [.int .i64 n, .int .i64 g, vn] :: blk p2 112 [vi 0, vi 0, vn] :: blk p 100 [.pointer (some ⟨rb, 0, none⟩)] :: blk q 3 [.int .i64 d] :: L)) ?_ ?_
  · skip
    all_goals (refine Q0 ?_; refine Q1 ?_; refine Q2 rfl ?_; refine zl hS ?_)
    all_goals (first | (refine Q1c ?_) | (refine Q1d ?_) | (refine Qp rfl rfl (fun hc => ?_) (fun hc => ?_)))
    all_goals (refine zn ?_)
    all_goals
      first
      | (refine Q4 rfl ?_ -- Q17 c0
         all_goals refine zsk ?_)
      | (refine Q3 rfl ?_ -- Q17 c0
         all_goals (refine Q1 ?_; refine zl hS ?_; refine Q2k rfl (Q4E hv h3 hS.sp) (by rintro v9 w9 ⟨e, at2, e2, rfl, hS⟩; (repeat (first | refine Q12 ?_ | refine Q13 ?_ | refine fun _ => ?_)); refine Q1U ?_; refine .inr ⟨_, rfl, ?_⟩; exact ⟨e, at2, by simp only [rdTy, Qz, h1, Q8M (show n ≠ 1 by omega), e2], rfl, hS.sp⟩) ?_; rintro v2 w2 ⟨g, at2, e2, h4, h5, rfl, hS⟩; refine Q2 rfl ?_; refine zst hS ?_; intro w1 hS; have hS := hS.ns)
         all_goals refine zn ?_)
    all_goals ((first | (exact ⟨g, at2, zh, zh, by rw [Q8M (show n ≠ 1 by omega)]; exact e2, by omega, by omega, hS.sp⟩) | (exact ⟨0, at1, zh, zh, by rw [QpN (show ¬ n ≠ 1 by omega)], by omega, by omega, hS.sp⟩)))
  rintro ρ w1 ⟨g, at2, hA, hρ, hg, h4, h5, hS⟩; obtain ⟨ρ, rfl⟩ := env2 hA hρ
  all_goals (refine Q0 ?_; refine Q0 ?_; refine Q1 ?_; refine Q2 rfl ?_; refine zl hS ?_)
  all_goals (first | (refine Qy ?_) | (refine QC ?_) | (refine Qn rfl rfl (fun hc => ?_) (fun hc => ?_)))
  all_goals (refine zn ?_)
  all_goals
    first
    | (refine Q4 rfl ?_ -- Q17 c1
       all_goals refine zsk ?_)
    | (refine Q3 rfl ?_ -- Q17 c1
       all_goals (refine Q1 ?_; refine zl hS ?_; refine zl hS ?_; refine zad ?_; refine Q2k rfl (hrec cx _ _ (d + 1) at2 (by omega) (by omega) hv h5 hS.sp) (by rintro v9 w9 ⟨e, at3, e3, rfl, hS⟩; (repeat (first | refine Q12 ?_ | refine Q13 ?_ | refine fun _ => ?_)); refine Q1U ?_; refine .inr ⟨_, rfl, ?_⟩; exact ⟨e, at3, by simp only [rdTy, Qz, h1, hg, Q8M (show n = 3 by omega), e3], rfl, hS.sp⟩) ?_; rintro v2 w2 ⟨l, at3, c3, e3, h6, h7, hle3, hl, hS⟩; have ho := Rep.SR.oneC hl; refine Q2 rfl ?_; refine zst hS ?_; intro w1 hS; have hS := hS.ns)
       all_goals refine zn ?_)
  all_goals (refine Q0 ?_; refine Q1 ?_; refine zv hS ?_; refine zsn hS ?_; intro w1 hS; have hS := hS.ns; refine zn ?_; refine zr ?_; refine Q20 vw (Q9 (n := 3) (by kernel_rfl) (by kernel_rfl) (hS.blkAt fd) (by rfl) (by rfl)) ?_; (first | exact .inl ⟨_, rfl, .mk n g l, at3, c3, _, by simp only [rdTy, Qz, h1, hg, Q8M (show n = 3 by omega), e3], by omega, by omega, hle3, QsU hl, rfl, hS.sp⟩ | exact .inl ⟨_, rfl, .mk n g [], at2, cx, _, by simp only [rdTy, Qz, h1, hg, QpN (show ¬ n = 3 by omega)], by omega, by omega, hle, QsU hnil, rfl, hS.sp⟩))
theorem QuL {bs : List UInt8} {rb : Nat} {v : Value} : TysC bs rb v 0 := by
  intro cx w L d at0 h0 hd hv ha hS
  have e0 : QO bs.length 0 (bs.drop at0) = .error (19, (at0 : Int)) := by rw [QO, Qaw ha]
  unfold Fins
  all_goals refine Q3D ?_
  all_goals (unfold codec_reader_types_lc; refine Q0 ?_; refine Q1 ?_; refine zb hS ?_; intro p2 w1 hS; refine zb hS ?_; intro p3 w1 hS; refine zm ?_; refine zn ?_; refine Q0 ?_; refine Q0 ?_; refine Q1 ?_; refine zl hS ?_)
  all_goals (refine QK ?_)
  all_goals (refine zn ?_)
  all_goals
    first
    | (refine Q3 rfl ?_ -- Q23 c0
       all_goals (refine Q1 ?_; refine zl hS ?_; refine Qv rfl ?_; refine Q2 rfl ?_; refine zl hS ?_; refine zb2 [_, _] ?_; refine zki ?_)
       all_goals (refine Q58 rfl ?_; (repeat (first | refine Q12 ?_ | refine Q13 ?_ | refine fun _ => ?_)); refine Q1U ?_; exact .inr ⟨_, rfl, (19, at0), _, e0, rfl, hS.sp⟩))
  all_goals (refine Q0 ?_; refine Q1 ?_; refine zl hS ?_; refine Quy ?_; fail "no contract of Q1W"; refine zm ?_; refine zn ?_; refine zr ?_; refine zf ?_; (exfalso; omega))
theorem rdone_ty {bs : List UInt8} {rb p q k : Nat} {d : Int} {v : Value} (hrec : TysC bs rb v k) (h0 : 0 ≤ d) (hd : d + k = 5) (hv : u8R.sl cx v bs) : RdC tyR aggV Tryz.prog Q17 [.pointer (some ⟨p, 0, none⟩), .pointer (some ⟨q, 0, none⟩)] (rdTy bs.length k) bs rb v cx (blk p 100 [.pointer (some ⟨rb, 0, none⟩)] :: blk q 3 [.int .i64 d] :: L) := by
  intro at1 c1 w1 r0 hle hat hS
  refine Fins.mono (rdty_c (L := r0 :: L) hrec h0 hd (Rep.SR.up hv hle) hat hS.sp) ?_ ?_
  · rintro u w' ⟨a, at', c', ds, h1, h2, h3, h4, h5, rfl, hS⟩; exact ⟨a, at', c', ds, h1, h2, h3, h4, h5, rfl, hS.sp⟩
  · rintro u w' ⟨e, at', h1, rfl, hS⟩; exact ⟨e, at', h1, rfl, hS.sp⟩
theorem QuM {bs : List UInt8} {rb k : Nat} {v : Value} (hb : bs.length ≤ 1000000) (hrec : TysC bs rb v k) : TysC bs rb v (k + 1) := by
  intro cx w L d at0 h0 hd hv ha hS
  have e0 := Q6r bs.length k (bs.drop at0)
  unfold Fins
  all_goals refine Q3D ?_
  all_goals (unfold codec_reader_types_lc; refine Q0 ?_; refine Q1 ?_; refine zb hS ?_; intro p2 w1 hS; refine zb hS ?_; intro p3 w1 hS; refine zm ?_; refine zn ?_; refine Q0 ?_; refine Q0 ?_; refine Q1 ?_; refine zl hS ?_)
  all_goals (first | (refine QK ?_) | (refine QM ?_))
  all_goals (refine zn ?_)
  all_goals
    first
    | (refine Q3 rfl ?_ -- Q23 c0
       all_goals (refine Q1 ?_; refine zl hS ?_; refine Qv rfl ?_; refine Q2 rfl ?_; refine zl hS ?_; refine zb2 [_, _] ?_; refine zki ?_)
       all_goals fail "no law for panic")
    | (refine Q4 rfl ?_ -- Q23 c0
       all_goals refine zsk ?_)
  all_goals (refine Q0 ?_; refine Q1 ?_; refine zl hS ?_; refine Quy ?_; refine Q2k rfl (QrR (cx := cx) ⟨[], [_, _], rfl, rfl⟩ (by kernel_rfl) hb (rdone_ty hrec h0 (by omega) hv) hv ha hS.sp) (by rintro v9 w9 ⟨e, at3, e3, rfl, hS⟩; (repeat (first | refine Q12 ?_ | refine Q13 ?_ | refine fun _ => ?_)); refine Q1U ?_; refine .inr ⟨_, rfl, ?_⟩; exact ⟨e, at3, e0.trans e3, rfl, hS.sp⟩) ?_; rintro v2 w2 ⟨l, at3, c3, e3, h6, h7, hle3, hl, hS⟩; refine zm ?_; refine zn ?_; refine zr ?_; refine zf ?_; exact .inl ⟨_, rfl, l, at3, c3, e0.trans e3, by omega, by omega, hle3, hl, hS.sp⟩)
theorem Qah {bs : List UInt8} {rb : Nat} {v : Value} (hb : bs.length ≤ 1000000) : ∀ k, TysC bs rb v k
  | 0 => QuL
  | k + 1 => QuM hb (Qah hb k)
end Go.Proofs.YtanlkfeogoganaaGreat
namespace Go.Proofs.YtanlkfeogoganaaGreat
open Go.Lir
set_option maxHeartbeats 1000000
attribute [local irreducible] LC.wp Q5 QN Q11 retQ Q1T LO.wp Qr Calls
set_option linter.unusedSimpArgs false
set_option linter.unusedVariables false
attribute [local irreducible] bitI IntKind.wrap zig leb
variable {cx : Cx} {w : World} {L : List Res}
theorem long_c {l : List Int} {wb : Nat} {v v2 : Value} {css : List (List Value)} {bs : List UInt8} (hls : u8R.ls cx css bs) (hv : oneC v = true) (hl : intR.sl cx v2 l) (hb : bs.length + (Q1m l).length ≤ 60000000000000)
    (hS : St cx w (blk wb 85 [v] :: sl 5 1 v css :: L)) :
    Rets Tryz.prog Q3s [.pointer (some ⟨wb, 0, none⟩), v2] w fun u w' => ∃ v' css', u = .tuple #[] ∧ oneC v' = true ∧ u8R.ls cx css' (bs ++ Q1m l) ∧ St cx w' (blk wb 85 [v'] :: sl 5 1 v' css' :: L) := by
  have hlen := hl.len
  all_goals refine Q81 ?_
  all_goals (unfold codec_writer_long_lc; refine Q0 ?_; refine Q1 ?_; refine zm ?_; refine zL ?_; refine zm ?_; refine zn ?_; refine Q8 ?_)
  refine zo [0, 7, 8] (fun A ρ' w' => ∃ (j : Nat) (va : Value) (ca : List (List Value)), Has ρ' A ∧ Has ρ' [(9, .int .i64 j)] ∧ (j ≤ l.length) ∧ (u8R.ls cx ca (bs ++ Q1m (l.take j))) ∧ (oneC va = true) ∧ St cx w' (blk wb 85 [va] :: sl 5 1 va ca :: L)) (fun ρ' _ => (l.length - iv (ρ' 9)).toNat) ?_ ?_
  · exact ⟨0, v, css, zh, zh, (by omega), by simpa [Q1m] using hls, by assumption, hS.sp⟩
  rintro ρ w1 ⟨j, va, ca, hA, hρ, hj, hla, hva, hS⟩; obtain ⟨ρ, rfl⟩ := env2 hA hρ
  unfold Q3O
  all_goals (refine Q0 ?_; refine Q1 ?_; refine Qt rfl rfl ?_; refine zn ?_; refine Q0 ?_)
  refine Qm rfl (fun hc => ?_) (fun hc => ?_)
  · skip
    all_goals (refine zsk ?_; refine Q0 ?_; refine Q8 ?_; refine Q0 ?_; refine Q1 ?_; refine zi ?_; intro b1 o1 cs1 x1 hat1 hx1 he1; obtain rfl := Q25 he1; (first | (refine zl hS ?_) | (refine zlk hS ?_)); refine zm ?_; refine zn ?_; refine Q0 ?_; refine Q1 ?_; refine zm ?_; refine Q28 rfl ?_; refine Quv rfl rfl (by omega) ?_; refine zm ?_; refine Q7Q rfl rfl (by omega) ?_; refine Q28 rfl ?_; refine QrM rfl rfl ?_; rw [show bitI .xor .u64 _ _ = zigI x1 from rfl, zig_val]; refine zm ?_; refine zn ?_; refine Q0 ?_; refine Q8 ?_)
    refine zo [0, 7, 8, 9] (fun A ρ' w' => ∃ (u k : Nat) (vb : Value) (cb : List (List Value)) (acc : List UInt8), Has ρ' A ∧ Has ρ' [(6, .int .u64 (u : Int))] ∧ (u < 128 ^ (k + 1)) ∧ (k ≤ 9) ∧ (acc ++ leb (k + 1) u = bs ++ Q1m (l.take j) ++ Qc x1) ∧ (u8R.ls cx cb acc) ∧ (oneC vb = true) ∧ St cx w' (blk wb 85 [vb] :: sl 5 1 vb cb :: L)) (fun ρ' _ => (iv (ρ' 6)).toNat) ?_ ?_
    · exact ⟨zig x1, 9, va, ca, _, zh, zh, by have := zig_lt x1; omega, (by omega), rfl, by assumption, by assumption, hS.sp⟩
    rintro ρ w1 ⟨u, k, vb, cb, acc, hA, hρ, hk, hk9, hd, hlb, hvb, hS⟩; obtain ⟨ρ, rfl⟩ := env2 hA hρ; have hal := acc_len hd hx1 hb
    unfold Q3N
    all_goals (refine Q0 ?_; refine Q0 ?_; refine Q1 ?_; refine zm ?_; refine Qgm rfl rfl ?_; refine zn ?_)
    refine Qm rfl (fun hc => ?_) (fun hc => ?_)
    · skip
      all_goals (refine zsk ?_; refine Q0 ?_; refine Q8 ?_; refine Q1 ?_; refine zm ?_; refine zm ?_; refine Qv rfl ?_; refine Q2 rfl ?_; refine zl hS ?_; refine zm ?_; refine Q28 rfl ?_; refine s_or rfl rfl ?_; rw [or_byte]; refine zB1 hS [_] ?_; intro b1 w1 hS; refine za Qs QP hS ?_; intro vp1 w1 css1 hls1 hv1 hS; have hS := hS.ns; refine Qv rfl ?_; refine Q2 rfl ?_; refine zst hS ?_; intro w1 hS; have hS := hS.ns; refine zn ?_; refine Q1 ?_; refine zm ?_; refine Q7Q rfl rfl (by decide) ?_; rw [shr_nat]; refine zm ?_; refine zn ?_; exact ⟨⟨u / 128, k - 1, _, _, _, zh, zh, leb_lt hk (by omega), (by omega), Qt8 hd hk (by omega), by assumption, by assumption, hS.sp⟩, Qt9 (by omega)⟩)
    · skip
      all_goals (refine zex ?_; refine Q1 ?_; refine zm ?_; refine zm ?_; refine Qv rfl ?_; refine Q2 rfl ?_; refine zl hS ?_; refine zm ?_; refine Q28 rfl ?_; rw [low_byte (by omega)]; refine zB1 hS [_] ?_; intro b1 w1 hS; refine za Qs QP hS ?_; intro vp2 w2 css2 hls2 hv2 hS; have hS := hS.ns; refine Qv rfl ?_; refine Q2 rfl ?_; refine zst hS ?_; intro w1 hS; have hS := hS.ns; refine zn ?_; refine Q1 ?_; refine zad ?_; refine zm ?_; refine zn ?_; exact ⟨⟨j + 1, _, _, zh, zh, (by omega), by rw [Q3q hx1, ← List.append_assoc, ← hd, Qta (by omega)]; assumption, by assumption, hS.sp⟩, Qh (by omega)⟩)
  · skip
    all_goals (refine zex ?_; refine Q3j ?_; exact ⟨_, rfl, va, ca, rfl, hva, by rw [List.take_of_length_le (by omega)] at hla; exact hla, hS.sp⟩)
theorem Que {l : List Int} {wb : Nat} {v v2 : Value} {bs : List UInt8} (hv : oneC v = true) (hl : intR.sl cx v2 l) (hb : bs.length + (Q1m l).length ≤ 60000000000000)
    (hS : St cx w (blk wb 85 [v] :: sl 5 1 v (bs.map QB) :: L)) :
    Rets Tryz.prog Q3s [.pointer (some ⟨wb, 0, none⟩), v2] w fun u w' => ∃ v', u = .tuple #[] ∧ oneC v' = true ∧ St cx w' (blk wb 85 [v'] :: sl 5 1 v' ((bs ++ Q1m l).map QB) :: L) :=
  (long_c (Qa bs) hv hl hb hS).mono fun u w' ⟨v', css', h1, h2, h3, h4⟩ => ⟨v', h1, h2, by rw [Rep.LR.u8 rfl h3] at h4; exact h4⟩
theorem wint_c {l : List Int} {wb : Nat} {v v2 : Value} {bs : List UInt8} (hv : oneC v = true) (hl : intR.sl cx v2 l) (hb : bs.length + (Q1m l).length ≤ 60000000000000)
    (hS : St cx w (blk wb 85 [v] :: sl 5 1 v (bs.map QB) :: L)) :
    Rets Tryz.prog Q3I [.pointer (some ⟨wb, 0, none⟩), v2] w fun u w' => ∃ v', u = .tuple #[] ∧ oneC v' = true ∧ St cx w' (blk wb 85 [v'] :: sl 5 1 v' ((bs ++ Q1m l).map QB) :: L) := by
  have hlen := hl.len
  all_goals refine Q98 ?_
  all_goals (unfold codec_writer_int_lc; refine Q0 ?_; refine Q1 ?_; refine zm ?_; refine zL ?_; refine zm ?_; refine zn ?_; refine Q8 ?_)
  refine zo [0, 6, 7] (fun A ρ' w' => ∃ (j : Nat) (va : Value), Has ρ' A ∧ Has ρ' [(8, .int .i64 j)] ∧ (j ≤ l.length) ∧ (oneC va = true) ∧ St cx w' (blk wb 85 [va] :: sl 5 1 va ((bs ++ Q1m (l.take j)).map QB) :: L)) (fun ρ' _ => (l.length - iv (ρ' 8)).toNat) ?_ ?_
  · exact ⟨0, v, zh, zh, (by omega), by assumption, by rw [List.take_zero, show Q1m [] = [] from rfl, List.append_nil]; exact hS.sp⟩
  rintro ρ w1 ⟨j, va, hA, hρ, hj, hva, hS⟩; obtain ⟨ρ, rfl⟩ := env2 hA hρ
  unfold Q4a
  all_goals (refine Q0 ?_; refine Q1 ?_; refine Qt rfl rfl ?_; refine zn ?_; refine Q0 ?_)
  refine Qm rfl (fun hc => ?_) (fun hc => ?_)
  · skip
    all_goals (refine zsk ?_; refine Q0 ?_; refine Q8 ?_; refine Q0 ?_; refine Q1 ?_; refine zi ?_; intro b1 o1 cs1 x1 hat1 hx1 he1; obtain rfl := Q25 he1; (first | (refine zl hS ?_) | (refine zlk hS ?_)); refine zm ?_; refine zn ?_; refine Q1 ?_; refine zm ?_; refine zm ?_; refine zB1 hS [_] ?_; intro b1 w1 hS; obtain ⟨c1, hle1, hS, hf9⟩ := St.freeze1 (r := intR) (x := x1) hS rfl; refine zR2 (c := Que (l := [x1]) hva hf9 (room_one hx1 hb) hS) (h := ?_); rintro v1 w1 ⟨vb, rfl, hvb, hS⟩; have hS := St.weak hS hle1; refine zn ?_; refine Q1 ?_; refine zad ?_; refine zm ?_; refine zn ?_; exact ⟨⟨j + 1, vb, zh, zh, (by omega), by assumption, by rw [QtE hx1]; exact hS.sp⟩, Qh (by omega)⟩)
  · skip
    all_goals (refine zex ?_; refine Q3j ?_; refine ⟨_, rfl, va, rfl, hva, ?_⟩; rw [List.take_of_length_le (by omega)] at hS; exact hS)
/-- One number. -/
theorem Q4j {n : Int} {q wb : Nat} {T : TypeId} {v : Value} {bs : List UInt8} (hv : oneC v = true) (hb : bs.length + (Qc n).length ≤ 60000000000000)
    (hS : St cx w (blk q T [.int .i64 n] :: blk wb 85 [v] :: sl 5 1 v (bs.map QB) :: L)) :
    Rets Tryz.prog Q3I [.pointer (some ⟨wb, 0, none⟩), .slice (some ⟨q, 0, none⟩) 1 1] w fun u w' => ∃ v', u = .tuple #[] ∧ oneC v' = true ∧ St cx w' (blk wb 85 [v'] :: sl 5 1 v' ((bs ++ Qc n).map QB) :: L) := by
  obtain ⟨c1, hle1, hS, hf9⟩ := St.freeze1 (r := intR) (x := n) hS rfl
  refine (wint_c (l := [n]) hv hf9 (by rw [Q32]; exact hb) hS).mono ?_
  rintro u w' ⟨v', h1, h2, h3⟩
  rw [Q32] at h3
  exact ⟨v', h1, h2, St.weak h3 hle1⟩
theorem Qg1 {l : List Int} {wb : Nat} {v v2 : Value} {bs : List UInt8} (hv : oneC v = true) (hl : intR.sl cx v2 l) (hb : bs.length + (Q24 l).length ≤ 60000000000000)
    (hS : St cx w (blk wb 85 [v] :: sl 5 1 v (bs.map QB) :: L)) :
    Rets Tryz.prog Q4Q [.pointer (some ⟨wb, 0, none⟩), v2] w fun u w' => ∃ v', u = .tuple #[] ∧ oneC v' = true ∧ St cx w' (blk wb 85 [v'] :: sl 5 1 v' ((bs ++ Q24 l).map QB) :: L) := by
  unfold Q24 at hb ⊢
  rw [List.length_append] at hb
  rw [← List.append_assoc]
  all_goals refine Q84 ?_
  all_goals (unfold codec_writer_ints_lc; refine Q0 ?_; refine Q1 ?_; refine zm ?_; refine zm ?_; refine zL ?_; refine zB1 hS [_] ?_; intro b1 w1 hS; refine zR2 (c := Q4j (n := l.length) hv (by omega) hS) (h := ?_); rintro v1 w1 ⟨va, rfl, hva, hS⟩; refine zn ?_; refine Q1 ?_; refine zm ?_; refine zm ?_; refine zR2 (c := wint_c hva hl (by rw [List.length_append]; omega) hS) (h := ?_); rintro v1 w1 ⟨vb, rfl, hvb, hS⟩; refine zn ?_; refine Q3j ?_; exact ⟨_, rfl, vb, rfl, hvb, hS⟩)
theorem wto_c {x : To} {wb : Nat} {v : Value} {cs : List Value} {bs : List UInt8} (hv : oneC v = true) (hx : toR.at cx cs x) (hb : bs.length + x.bts.length ≤ 60000000000000)
    (hS : St cx w (blk wb 85 [v] :: sl 5 1 v (bs.map QB) :: L)) :
    Rets Tryz.prog Q6R [.pointer (some ⟨wb, 0, none⟩), .agg ⟨cs⟩] w fun u w' => ∃ v', u = .tuple #[] ∧ oneC v' = true ∧ St cx w' (blk wb 85 [v'] :: sl 5 1 v' ((bs ++ x.bts).map QB) :: L) := by
  obtain ⟨vr, va, rfl, hr, ha⟩ := Q2W hx
  obtain ⟨ar, lr, rfl⟩ := Rep.SR.shape hr
  obtain ⟨aa, la, rfl⟩ := Rep.SR.shape ha
  unfold To.bts at hb ⊢
  rw [List.length_append, List.length_append] at hb
  rw [← List.append_assoc, ← List.append_assoc]
  all_goals refine QaC ?_
  all_goals (unfold codec_writer_to_lc; refine Q0 ?_; refine Q1 ?_; refine zb hS ?_; intro p3 w1 hS; refine zn ?_; refine Q0 ?_; refine Q1 ?_; refine zm ?_; refine Q2 rfl ?_; refine zl hS ?_; refine zB1 hS [_] ?_; intro b1 w1 hS; have hS : St cx _ (blk _ 3 [.int .i64 x.block] :: blk wb 85 [v] :: sl 5 1 v (bs.map QB) :: blk p3 43 _ :: L) := hS.sp; refine zR2 (c := Q4j (n := x.block) hv (by omega) hS) (h := ?_); rintro v1 w1 ⟨v3, rfl, hv3, hS⟩; refine zn ?_; refine Q0 ?_; refine Q1 ?_; refine zm ?_; refine Q2 rfl ?_; refine zl hS ?_; refine zR2 (c := Qg1 hv3 hr (by rw [List.length_append]; omega) hS) (h := ?_); rintro v1 w1 ⟨v4, rfl, hv4, hS⟩; refine zn ?_; refine Q1 ?_; refine zm ?_; refine Q2 rfl ?_; refine zl hS ?_; refine zR2 (c := Qg1 hv4 ha (by rw [List.length_append, List.length_append]; omega) hS) (h := ?_); rintro v1 w1 ⟨v5, rfl, hv5, hS⟩; refine zn ?_; refine Q3j ?_; exact ⟨_, rfl, v5, rfl, hv5, hS.sp⟩)
theorem Qpu {l : List Ty} (ih : ∀ x ∈ l, ∀ {cx : Cx} {w : World} {L : List Res} {wb : Nat} {v v2 : Value} {bs : List UInt8}, oneC v = true → tyR.sl cx v2 x.l → bs.length + (tysB x.l).length ≤ 60000000000000 → St cx w (blk wb 85 [v] :: sl 5 1 v (bs.map QB) :: L) →
      Rets Tryz.prog Q10 [.pointer (some ⟨wb, 0, none⟩), v2] w fun u w' => ∃ v', u = .tuple #[] ∧ oneC v' = true ∧ St cx w' (blk wb 85 [v'] :: sl 5 1 v' ((bs ++ tysB x.l).map QB) :: L))
    {wb : Nat} {v v2 : Value} {bs : List UInt8} (hv : oneC v = true) (hl : tyR.sl cx v2 l) (hb : bs.length + (tysB l).length ≤ 60000000000000) (hS : St cx w (blk wb 85 [v] :: sl 5 1 v (bs.map QB) :: L)) :
    Rets Tryz.prog Q10 [.pointer (some ⟨wb, 0, none⟩), v2] w fun u w' => ∃ v', u = .tuple #[] ∧ oneC v' = true ∧ St cx w' (blk wb 85 [v'] :: sl 5 1 v' ((bs ++ tysB l).map QB) :: L) := by
  have hlen := hl.len
  unfold tysB at hb ⊢
  rw [List.length_append] at hb
  rw [← List.append_assoc]
  all_goals refine Q6Q ?_
  all_goals (unfold codec_writer_types_lc; refine Q0 ?_; refine Q1 ?_; refine zm ?_; refine zm ?_; refine zL ?_; refine zB1 hS [_] ?_; intro b1 w1 hS; refine zR2 (c := Q4j (n := l.length) hv (by omega) hS) (h := ?_); rintro v1 w1 ⟨v3, rfl, hv3, hS⟩; refine zn ?_; refine Q0 ?_; refine Q1 ?_; refine zm ?_; refine zL ?_; refine zm ?_; refine zn ?_; refine Q8 ?_)
  refine zo [0, 11, 12] (fun A ρ' w' => ∃ (j : Nat) (va : Value), Has ρ' A ∧ Has ρ' [(13, .int .i64 j)] ∧ (j ≤ l.length) ∧ (oneC va = true) ∧ St cx w' (blk wb 85 [va] :: sl 5 1 va ((bs ++ Qc l.length ++ Tys.bts (l.take j)).map QB) :: L)) (fun ρ' _ => (l.length - iv (ρ' 13)).toNat) ?_ ?_
  · exact ⟨0, v3, zh, zh, (by omega), by assumption, by rw [List.take_zero, show Tys.bts [] = [] from by rw [Tys.bts], List.append_nil]; exact hS.sp⟩
  rintro ρ w1 ⟨j, va, hA, hρ, hj, hva, hS⟩; obtain ⟨ρ, rfl⟩ := env2 hA hρ
  unfold Q3C
  all_goals (refine Q0 ?_; refine Q1 ?_; refine Qt rfl rfl ?_; refine zn ?_; refine Q0 ?_)
  refine Qm rfl (fun hc => ?_) (fun hc => ?_)
  · skip
    all_goals (refine zsk ?_; refine Q0 ?_; refine Q8 ?_; refine Q0 ?_; refine Q1 ?_; refine zi ?_; intro b1 o1 cs1 x1 hat1 hx1 he1; obtain ⟨vl1, rfl, hl1⟩ := QX he1; (first | (refine zv hS ?_) | (refine zvk hS ?_)); refine Qb hS ?_; intro p5 w1 hS; refine zsn hS ?_; intro w1 hS; have hS := hS.ns; refine zn ?_; have hroom := Tys.bts_room hx1; have hbm := congrArg List.length (Ty.bts_mk x1); obtain ⟨acc, hacc⟩ : ∃ acc, bs ++ Qc l.length ++ Tys.bts (l.take j) = acc := ⟨_, rfl⟩; have hal := congrArg List.length hacc; rw [hacc] at hS; simp only [List.length_append] at hal hbm; obtain ⟨ax, nx, rfl⟩ := Rep.SR.shape hl1; refine Q0 ?_; refine Q1 ?_; refine zm ?_; refine Q2 rfl ?_; refine zl hS ?_; refine zB1 hS [_] ?_; intro b1 w1 hS; have hS : St cx _ (blk _ 3 [.int .i64 x1.kind] :: blk wb 85 [va] :: sl 5 1 va (acc.map QB) :: blk p5 112 [.int .i64 x1.kind, .int .i64 x1.r, .slice ax x1.l.length nx] :: L) := hS.sp; refine zR2 (c := Q4j (n := x1.kind) hva (by omega) hS) (h := ?_); rintro v1 w1 ⟨v4, rfl, hv4, hS⟩; refine zn ?_)
    refine zM [0, 5, 11, 12, 13] (fun A ρ' w' => ∃ (vc : Value), Has ρ' A ∧ Has ρ' [] ∧ (oneC vc = true) ∧ St cx w' (blk wb 85 [vc] :: sl 5 1 vc ((acc ++ Qc x1.kind ++ (if x1.kind ≠ 1 then Qc x1.r else [])).map QB) :: blk p5 112 [.int .i64 x1.kind, .int .i64 x1.r, .slice ax x1.l.length nx] :: L)) ?_ ?_
    · skip
      all_goals (refine Q0 ?_; refine Q1 ?_; refine Q2 rfl ?_; refine zl hS ?_)
      all_goals (first | (refine Q1c ?_) | (refine Q1d ?_) | (refine Qp rfl rfl (fun hc => ?_) (fun hc => ?_)))
      all_goals (refine zn ?_)
      all_goals
        first
        | (refine Q3 rfl ?_ -- Q10 c1
           all_goals (refine Q1 ?_; refine zm ?_; refine Q2 rfl ?_; refine zl hS ?_; refine zB1 hS [_] ?_; intro b1 w1 hS; rw [if_pos (by omega)] at hbm; have hS : St cx _ (blk _ 3 [.int .i64 x1.r] :: blk wb 85 [v4] :: sl 5 1 v4 ((acc ++ Qc x1.kind).map QB) :: blk p5 112 [.int .i64 x1.kind, .int .i64 x1.r, .slice ax x1.l.length nx] :: L) := hS.sp; refine zR2 (c := Q4j (n := x1.r) hv4 (by rw [List.length_append]; omega) hS) (h := ?_); rintro v1 w1 ⟨v5, rfl, hv5, hS⟩)
           all_goals refine zn ?_)
        | (refine Q4 rfl ?_ -- Q10 c1
           all_goals refine zsk ?_)
      all_goals ((first | (exact ⟨_, zh, zh, by assumption, by rw [if_pos (by omega)]; exact hS.sp⟩) | (exact ⟨_, zh, zh, by assumption, by rw [if_neg (by omega), List.append_nil]; exact hS.sp⟩)))
    rintro ρ w1 ⟨vc, hA, hρ, hvc, hS⟩; obtain ⟨ρ, rfl⟩ := env2 hA hρ
    all_goals (refine Q0 ?_; refine Q1 ?_; refine Q2 rfl ?_; refine zl hS ?_)
    all_goals (first | (refine Qy ?_) | (refine QC ?_) | (refine Qn rfl rfl (fun hc => ?_) (fun hc => ?_)))
    all_goals (refine zn ?_)
    all_goals
      first
      | (refine Q3 rfl ?_ -- Q10 c2
         all_goals (refine Q1 ?_; refine zm ?_; refine Q2 rfl ?_; refine zl hS ?_; rw [if_pos (show x1.kind = 3 by omega)] at hbm; refine zR2 (c := ih x1 (List.mem_of_getElem? hx1) hvc hl1 (by simp only [List.length_append]; omega) hS) (h := ?_); rintro v1 w1 ⟨v6, rfl, hv6, hS⟩)
         all_goals refine zn ?_)
      | (refine Q4 rfl ?_ -- Q10 c2
         all_goals refine zsk ?_)
    all_goals (refine Q1 ?_; refine zad ?_; refine zm ?_; refine zn ?_; (first | (exact ⟨⟨j + 1, _, zh, zh, (by omega), by assumption, by rw [Tys.bts_snoc hx1, ← List.append_assoc, hacc, Ty.bts_mk, if_pos (show x1.kind = 3 by omega), ← List.append_assoc, ← List.append_assoc]; exact hS.sp⟩, Qh (by omega)⟩) | (exact ⟨⟨j + 1, _, zh, zh, (by omega), by assumption, by rw [Tys.bts_snoc hx1, ← List.append_assoc, hacc, Ty.bts_mk, if_neg (show ¬ x1.kind = 3 by omega), List.append_nil, ← List.append_assoc]; exact hS.sp⟩, Qh (by omega)⟩)))
  · skip
    all_goals (refine zex ?_; refine Q3j ?_; refine ⟨_, rfl, va, rfl, hva, ?_⟩; rw [List.take_of_length_le (by omega)] at hS; exact hS)
theorem wtys_c : ∀ (t : Ty) {cx : Cx} {w : World} {L : List Res} {wb : Nat} {v v2 : Value} {bs : List UInt8}, oneC v = true → tyR.sl cx v2 t.l → bs.length + (tysB t.l).length ≤ 60000000000000 → St cx w (blk wb 85 [v] :: sl 5 1 v (bs.map QB) :: L) →
      Rets Tryz.prog Q10 [.pointer (some ⟨wb, 0, none⟩), v2] w fun u w' => ∃ v', u = .tuple #[] ∧ oneC v' = true ∧ St cx w' (blk wb 85 [v'] :: sl 5 1 v' ((bs ++ tysB t.l).map QB) :: L) := by
  intro t
  induction t using Ty.ind with
  | h k r l ih => intro cx w L wb v v2 bs hv hl hb hS; exact Qpu (fun x hx => ih x hx) hv hl hb hS
theorem Qmc {l : List Ty} {wb : Nat} {v v2 : Value} {bs : List UInt8} (hv : oneC v = true) (hl : tyR.sl cx v2 l) (hb : bs.length + (tysB l).length ≤ 60000000000000) (hS : St cx w (blk wb 85 [v] :: sl 5 1 v (bs.map QB) :: L)) :
    Rets Tryz.prog Q10 [.pointer (some ⟨wb, 0, none⟩), v2] w fun u w' => ∃ v', u = .tuple #[] ∧ oneC v' = true ∧ St cx w' (blk wb 85 [v'] :: sl 5 1 v' ((bs ++ tysB l).map QB) :: L) := Qpu (fun x _ => wtys_c x) hv hl hb hS
theorem Qpv {op : Int} (hS : St cx w L) : Rets Tryz.prog Q4n [.int .i64 op] w fun u w' => u = .int .i64 (Qo op : Int) ∧ St cx w' L := by
  all_goals refine QgN ?_
  all_goals (unfold codec_fields_lc; refine Q0 ?_; refine Q1 ?_; refine zm ?_; refine zn ?_; refine Q0 ?_; refine Q0 ?_; refine Q1 ?_; refine zm ?_)
  all_goals (first | (refine Q1Q ?_) | (refine Q1R ?_) | (refine QD rfl rfl (fun hc => ?_) (fun hc => ?_)))
  all_goals (refine zm ?_; (first | refine s_gn rfl rfl ?_ | (refine s_gy rfl ?_; refine zm ?_)))
  all_goals (first | refine s_gn rfl rfl ?_ | (refine s_gy rfl ?_; (first | (refine QK ?_) | (refine QM ?_) | (refine Qi rfl rfl (fun hc => ?_) (fun hc => ?_)))))
  all_goals ((first | (refine zpt ?_) | (refine zpf ?_)); refine zn ?_)
  all_goals
    first
    | (refine Q3 rfl ?_ -- Q4n c0
       all_goals (refine Q0 ?_; refine Q1 ?_; refine zm ?_; refine zn ?_; refine zr ?_; refine zf ?_)
       all_goals (refine ⟨_, rfl, ?_, hS.sp⟩; unfold Qo; rw [if_pos (by omega)]; rfl; done))
    | (refine Q4 rfl ?_ -- Q4n c0
       all_goals refine zsk ?_)
  all_goals (refine Q0 ?_; refine Q1 ?_; refine QpE (cs := [_, _, _, _, _, _, _, _, _, _, _, _, _, _, _]) vw vw vw vw vw vw vw vw vw vw vw vw vw vw vw (by rfl) ?_; refine zm ?_; refine s_idxv (n := 15) (e := 3) (by kernel_rfl) (by kernel_rfl) (by kernel_rfl) rfl rfl (by omega) (by omega) (Qs6 (by omega) (by omega)) ?_; refine zm ?_; refine zn ?_; refine zr ?_; refine zf ?_; (first | (refine ⟨_, rfl, ?_, hS.sp⟩; unfold Qo; rw [if_pos (by omega)]; rfl; done) | (refine ⟨_, rfl, ?_, hS.sp⟩; (rfl); done)))
end Go.Proofs.YtanlkfeogoganaaGreat
namespace Go.Proofs.YtanlkfeogoganaaGreat
open Go.Lir
set_option maxHeartbeats 1000000
attribute [local irreducible] LC.wp Q5 QN Q11 retQ Q1T LO.wp Qr Calls
set_option linter.unusedSimpArgs false
set_option linter.unusedVariables false
attribute [local irreducible] bitI IntKind.wrap Q3n rdLong rdMany Q14 mmap Q1Z Qo Q4g
variable {cx : Cx} {w : World} {L : List Res}
theorem rdins_c {bs : List UInt8} {rb at0 : Nat} {v : Value} (hb : bs.length ≤ 1000000) (hv : u8R.sl cx v bs) (ha : at0 ≤ bs.length) (hS : St cx w (blk rb 102 [v, .int .i64 at0] :: L)) :
    Fins Tryz.prog QR [.pointer (some ⟨rb, 0, none⟩)] w (OkA insR aggV (Q4g bs.length (bs.drop at0)) bs rb v at0 cx L) (Bad (Q4g bs.length (bs.drop at0)) rb v cx L) := by
  have hle := St.refl hS
  have hnil : intR.sl cx vn [] := Rep.SR.nil _ _ _
  unfold Fins
  all_goals refine Q9J ?_
  all_goals (unfold codec_reader_ins_lc; refine Q0 ?_; refine Q1 ?_; refine Qb hS ?_; intro p2 w1 hS; refine zn ?_; refine Q0 ?_; refine Q1 ?_; refine zm ?_; refine zE1 (c := Q4E hv ha hS.sp) (p := by rintro v9 w9 ⟨e, at1, h1, rfl, hS⟩; (repeat (first | refine Q12 ?_ | refine Q13 ?_ | refine fun _ => ?_)); refine Q1U ?_; refine .inr ⟨_, rfl, ?_⟩; exact ⟨e, at1, rdIns_e h1, rfl, hS.sp⟩) (h := ?_); rintro v1 w1 ⟨n, at1, h1, h2, h3, rfl, hS⟩; refine zb1 [_, _, _, _, _, _, _, _] ?_; refine Qb hS ?_; intro p3 w1 hS; refine zsn hS ?_; intro w1 hS; have hS := hS.ns; refine zn ?_; refine Q0 ?_; refine Q1 ?_; refine Q2 rfl ?_; refine zl hS ?_; obtain ⟨h, hh⟩ : ∃ h, Qo n = h := ⟨_, rfl⟩; have hlt := Qm5 n; rw [hh] at hlt; refine zR1 (c := Qpv hS) (h := ?_); rintro v1 w1 ⟨rfl, hS⟩; rw [hh]; refine zm ?_; refine zn ?_; refine Q0 ?_; refine Q0 ?_; refine Q1 ?_; refine Q2 rfl ?_; refine Q2 rfl ?_; refine Q2 rfl ?_; refine Q2 rfl ?_; refine zB4 hS [_, _, _, _] ?_; intro b1 w1 hS; (first | (refine zL ?_) | (refine zLe hS ?_) | (refine zLk ?_) | (refine s_len rfl ?_)); refine zm ?_; refine zn ?_; refine Q8 ?_)
  refine zo [0, 2, 3, 4, 17, 18] (fun A ρ' w' => ∃ (j : Nat) (a b c k : Int) (at2 : Nat), Has ρ' A ∧ Has ρ' [(19, .int .i64 j)] ∧ (j ≤ 4) ∧ (at1 ≤ at2) ∧ (at2 ≤ bs.length) ∧ (Q31 bs.length h 4 0 (0, 0, 0, 0) (bs.drop at1) = Q31 bs.length h (4 - j) j (a, b, c, k) (bs.drop at2)) ∧ St cx w' (blk rb 102 [v, .int .i64 at2] :: blk b1 181 [.pointer (some ⟨p3, 1, none⟩), .pointer (some ⟨p3, 2, none⟩), .pointer (some ⟨p3, 3, none⟩), .pointer (some ⟨p3, 4, none⟩)] :: blk p3 57 [.int .i64 n, .int .i64 a, .int .i64 b, .int .i64 c, .int .i64 k, vi 0, vn, vn] :: blk p2 57 [vi 0, vi 0, vi 0, vi 0, vi 0, vi 0, vn, vn] :: L)) (fun ρ' _ => (4 - iv (ρ' 19)).toNat) ?_ ?_
  · exact ⟨0, 0, 0, 0, 0, at1, zh, zh, by omega, by omega, by omega, rfl, hS.sp⟩
  rintro ρ w1 ⟨j, a, b, c, k, at2, hA, hρ, hj, h4, h5, hd, hS⟩; obtain ⟨ρ, rfl⟩ := env2 hA hρ
  unfold Q4c
  all_goals (refine Q0 ?_; refine Q1 ?_; refine Qt rfl rfl ?_; refine zn ?_; refine Q0 ?_)
  refine Qm rfl (fun hc => ?_) (fun hc => ?_)
  · skip
    all_goals (refine zsk ?_; refine Q0 ?_; refine Q8 ?_; refine Q0 ?_)
    all_goals (rcases (show j = 0 ∨ j = 1 ∨ j = 2 ∨ j = 3 by omega) with rfl | rfl | rfl | rfl)
    all_goals (refine Q1 ?_; refine zm ?_; refine s_idx rfl rfl (by omega) (by omega) ?_; refine zl hS ?_; refine zm ?_; refine zm ?_; refine zn ?_; refine Q0 ?_; refine Q1 ?_; refine zm ?_; refine zm ?_; refine Q7Q rfl rfl (by omega) ?_; refine Q8Z rfl rfl ?_; rw [bit_at hlt (by omega)])
    all_goals (first | (refine Qy ?_) | (refine QC ?_) | (refine Qn rfl rfl (fun hc => ?_) (fun hc => ?_)))
    all_goals (refine zn ?_)
    all_goals
      first
      | (refine Q3 rfl ?_ -- QR c1
         all_goals (refine Q1 ?_; refine zm ?_; refine zm ?_; refine Q2k rfl (Q4E hv h5 hS.sp) (by rintro v9 w9 ⟨e, at3, e3, rfl, hS⟩; (repeat (first | refine Q12 ?_ | refine Q13 ?_ | refine fun _ => ?_)); refine Q1U ?_; refine .inr ⟨_, rfl, ?_⟩; exact ⟨e, at3, rdIns_re h1 hh (rdRegs_e hd (by omega) (by omega) e3), rfl, hS.sp⟩) ?_; rintro v2 w2 ⟨y, at3, e3, h6, h7, rfl, hS⟩; refine Qv rfl ?_; refine zst hS ?_; intro w1 hS; have hS := hS.ns)
         all_goals refine zn ?_)
      | (refine Q4 rfl ?_ -- QR c1
         all_goals refine zsk ?_)
    all_goals (refine Q1 ?_; refine zad ?_; refine zm ?_; refine zn ?_; (first | (exact ⟨⟨1, y, b, c, k, at3, zh, zh, by omega, by omega, by omega, QfR hd (by omega) (by omega) e3, hS.sp⟩, Qh (by omega)⟩) | (exact ⟨⟨2, a, y, c, k, at3, zh, zh, by omega, by omega, by omega, QfR hd (by omega) (by omega) e3, hS.sp⟩, Qh (by omega)⟩) | (exact ⟨⟨3, a, b, y, k, at3, zh, zh, by omega, by omega, by omega, QfR hd (by omega) (by omega) e3, hS.sp⟩, Qh (by omega)⟩) | (exact ⟨⟨4, a, b, c, y, at3, zh, zh, by omega, by omega, by omega, QfR hd (by omega) (by omega) e3, hS.sp⟩, Qh (by omega)⟩) | (exact ⟨⟨1, a, b, c, k, at2, zh, zh, by omega, by omega, by omega, QfS (j := 0) hd (by omega) (by omega), hS.sp⟩, Qh (by omega)⟩) | (exact ⟨⟨2, a, b, c, k, at2, zh, zh, by omega, by omega, by omega, QfS (j := 1) hd (by omega) (by omega), hS.sp⟩, Qh (by omega)⟩) | (exact ⟨⟨3, a, b, c, k, at2, zh, zh, by omega, by omega, by omega, QfS (j := 2) hd (by omega) (by omega), hS.sp⟩, Qh (by omega)⟩) | (exact ⟨⟨4, a, b, c, k, at2, zh, zh, by omega, by omega, by omega, QfS (j := 3) hd (by omega) (by omega), hS.sp⟩, Qh (by omega)⟩)))
  · skip
    all_goals (refine zex ?_; have hI := rdIns_t h1 hh hd (by omega))
    refine zM [0, 2, 3, 4] (fun A ρ' w' => ∃ (m : Int) (at3 : Nat), Has ρ' A ∧ Has ρ' [] ∧ (rdIf (h / 64 % 2 = 1) 0 (rdLong bs.length) (bs.drop at2) = .ok (m, bs.drop at3)) ∧ (at2 ≤ at3) ∧ (at3 ≤ bs.length) ∧ St cx w' (blk rb 102 [v, .int .i64 at3] :: blk p3 57 [.int .i64 n, .int .i64 a, .int .i64 b, .int .i64 c, .int .i64 k, .int .i64 m, vn, vn] :: blk p2 57 [vi 0, vi 0, vi 0, vi 0, vi 0, vi 0, vn, vn] :: L)) ?_ ?_
    · skip
      all_goals (refine Q0 ?_; refine Q1 ?_; refine zm ?_; refine Q8Z rfl rfl ?_; rw [and64 hlt])
      all_goals (first | (refine Q1c ?_) | (refine Q1d ?_) | (refine Qp rfl rfl (fun hc => ?_) (fun hc => ?_)))
      all_goals (refine zn ?_)
      all_goals
        first
        | (refine Q3 rfl ?_ -- QR c2
           all_goals (refine Q1 ?_; refine zm ?_; refine Q2k rfl (Q5b hv h5 hS.sp) (by rintro v9 w9 ⟨e, at3, e3, rfl, hS⟩; (repeat (first | refine Q12 ?_ | refine Q13 ?_ | refine fun _ => ?_)); refine Q1U ?_; refine .inr ⟨_, rfl, ?_⟩; exact ⟨e, at3, hI.trans (by simp only [Q6C, Qz, Q8M (show h / 64 % 2 = 1 by omega), e3]), rfl, hS.sp⟩) ?_; rintro v2 w2 ⟨m, at3, e3, h6, h7, rfl, hS⟩; refine Q2 rfl ?_; refine zst hS ?_; intro w1 hS; have hS := hS.ns)
           all_goals refine zn ?_)
        | (refine Q4 rfl ?_ -- QR c2
           all_goals refine zsk ?_)
      all_goals ((first | (exact ⟨m, at3, zh, zh, by rw [Q8M (show h / 64 % 2 = 1 by omega)]; exact e3, by omega, by omega, hS.sp⟩) | (exact ⟨0, at2, zh, zh, by rw [QpN (show ¬ h / 64 % 2 = 1 by omega)], by omega, by omega, hS.sp⟩)))
    rintro ρ w1 ⟨m, at3, hA, hρ, hm, h6, h7, hS⟩; obtain ⟨ρ, rfl⟩ := env2 hA hρ
    refine zM [0, 2, 3, 4] (fun A ρ' w' => ∃ (vr : Value) (l1 : List Int) (at4 : Nat) (c4 : Cx), Has ρ' A ∧ Has ρ' [] ∧ (rdIf (h / 16 % 2 = 1) [] (Q1Z bs.length) (bs.drop at3) = .ok (l1, bs.drop at4)) ∧ (at3 ≤ at4) ∧ (at4 ≤ bs.length) ∧ (cx.Le c4) ∧ (intR.sl c4 vr l1) ∧ (oneC vr = true) ∧ St c4 w' (blk rb 102 [v, .int .i64 at4] :: blk p3 57 [.int .i64 n, .int .i64 a, .int .i64 b, .int .i64 c, .int .i64 k, .int .i64 m, vr, vn] :: blk p2 57 [vi 0, vi 0, vi 0, vi 0, vi 0, vi 0, vn, vn] :: L)) ?_ ?_
    · skip
      all_goals (refine Q0 ?_; refine Q1 ?_; refine zm ?_; refine Q8Z rfl rfl ?_; rw [and16 hlt])
      all_goals (first | (refine Q1c ?_) | (refine Q1d ?_) | (refine Qp rfl rfl (fun hc => ?_) (fun hc => ?_)))
      all_goals (refine zn ?_)
      all_goals
        first
        | (refine Q3 rfl ?_ -- QR c3
           all_goals (refine Q1 ?_; refine zm ?_; refine Q2k rfl (Qai hb hv h7 hS.sp) (by rintro v9 w9 ⟨e, at4, e4, rfl, hS⟩; (repeat (first | refine Q12 ?_ | refine Q13 ?_ | refine fun _ => ?_)); refine Q1U ?_; refine .inr ⟨_, rfl, ?_⟩; exact ⟨e, at4, hI.trans (by simp only [Q6C, Qz, hm, Q8M (show h / 16 % 2 = 1 by omega), e4]), rfl, hS.sp⟩) ?_; rintro vr w2 ⟨l1, at4, c4, e4, h8, h9, hle4, hl1, hS⟩; have ho1 := Rep.SR.oneC hl1; refine Q2 rfl ?_; refine zst hS ?_; intro w1 hS; have hS := hS.ns)
           all_goals refine zn ?_)
        | (refine Q4 rfl ?_ -- QR c3
           all_goals refine zsk ?_)
      all_goals ((first | (exact ⟨vr, l1, at4, c4, zh, zh, by rw [Q8M (show h / 16 % 2 = 1 by omega)]; exact e4, by omega, by omega, hle4, hl1, ho1, hS.sp⟩) | (exact ⟨vn, [], at3, cx, zh, zh, by rw [QpN (show ¬ h / 16 % 2 = 1 by omega)], by omega, by omega, hle, hnil, rfl, hS.sp⟩)))
    rintro ρ w1 ⟨vr, l1, at4, c4, hA, hρ, hr, h8, h9, hle4, hl1, ho1, hS⟩; obtain ⟨ρ, rfl⟩ := env2 hA hρ
    all_goals (refine Q0 ?_; refine Q0 ?_; refine Q1 ?_; refine zm ?_; refine Q8Z rfl rfl ?_; rw [and32 hlt])
    all_goals (first | (refine Q1c ?_) | (refine Q1d ?_) | (refine Qp rfl rfl (fun hc => ?_) (fun hc => ?_)))
    all_goals (refine zn ?_)
    all_goals
      first
      | (refine Q3 rfl ?_ -- QR c4
         all_goals (refine Q1 ?_; refine zm ?_; refine Q2k rfl (Qai hb (Rep.SR.up hv hle4) h9 hS.sp) (by rintro v9 w9 ⟨e, at5, e5, rfl, hS⟩; (repeat (first | refine Q12 ?_ | refine Q13 ?_ | refine fun _ => ?_)); refine Q1U ?_; refine .inr ⟨_, rfl, ?_⟩; exact ⟨e, at5, hI.trans (by simp only [Q6C, Qz, hm, hr, Q8M (show h / 32 % 2 = 1 by omega), e5]), rfl, St.weak hS.sp hle4⟩) ?_; rintro va w2 ⟨l2, at5, c5, e5, h10, h11, hle5, hl2, hS⟩; have ho2 := Rep.SR.oneC hl2; refine Q2 rfl ?_; refine zst hS ?_; intro w1 hS; have hS := hS.ns)
         all_goals refine zn ?_)
      | (refine Q4 rfl ?_ -- QR c4
         all_goals refine zsk ?_)
    all_goals (refine Q0 ?_; (first | (have hd9 : insR.at c5 [.int .i64 n, .int .i64 a, .int .i64 b, .int .i64 c, .int .i64 k, .int .i64 m, vr, va] ⟨n, a, b, c, k, m, l1, l2⟩ := ⟨_, _, rfl, Rep.SR.up hl1 hle5, hl2⟩; have he9 := hI.trans (by simp only [Q6C, Qz, hm, hr, Q8M (show h / 32 % 2 = 1 by omega), e5] : _ = Except.ok (⟨n, a, b, c, k, m, l1, l2⟩, bs.drop at5)); have hle9 := hle4.trans hle5) | (have hd9 : insR.at c4 [.int .i64 n, .int .i64 a, .int .i64 b, .int .i64 c, .int .i64 k, .int .i64 m, vr, vn] ⟨n, a, b, c, k, m, l1, []⟩ := ⟨_, _, rfl, hl1, Rep.SR.up hnil hle4⟩; have he9 := hI.trans (by simp only [Q6C, Qz, hm, hr, QpN (show ¬ h / 32 % 2 = 1 by omega)] : _ = Except.ok (⟨n, a, b, c, k, m, l1, []⟩, bs.drop at4)); have hle9 := hle4)); refine Q1 ?_; refine zv hS ?_; refine zsn hS ?_; intro w1 hS; have hS := hS.ns; refine zn ?_; refine zr ?_; refine Q20 vw (Q9 (n := 8) (by kernel_rfl) (by kernel_rfl) (hS.blkAt fd) (by rfl) (by rfl)) ?_; (first | exact .inl ⟨_, rfl, _, at5, c5, _, he9, by omega, by omega, hle9, hd9, rfl, hS.sp⟩ | exact .inl ⟨_, rfl, _, at4, c4, _, he9, by omega, by omega, hle9, hd9, rfl, hS.sp⟩))
end Go.Proofs.YtanlkfeogoganaaGreat
namespace Go.Proofs.YtanlkfeogoganaaGreat
open Go.Lir
set_option maxHeartbeats 1000000
attribute [local irreducible] LC.wp Q5 QN Q11 retQ Q1T LO.wp Qr Calls
set_option linter.unusedSimpArgs false
set_option linter.unusedVariables false
attribute [local irreducible] bitI IntKind.wrap Q3n rdLong rdMany Q14 mmap Q1Z Qo Q4g Q2q QO Q1I Q3U
variable {cx : Cx} {w : World} {L : List Res}
section
attribute [local semireducible] Q1I Q3U
theorem QuV {N : Nat} {r : List UInt8} {e : Flt} (h : rdLong N r = .error e) : Q1I N r = .error e := by simp only [Q1I, Qz, h]
theorem QuY {N : Nat} {r r1 : List UInt8} {n : Int} {e : Flt} (h : rdLong N r = .ok (n, r1)) (h1 : QO N 6 r1 = .error e) : Q1I N r = .error e := by simp only [Q1I, Qz, h, h1]
theorem QuX {N : Nat} {r r1 r2 : List UInt8} {n : Int} {ps : List Ty} {e : Flt} (h : rdLong N r = .ok (n, r1)) (h1 : QO N 6 r1 = .ok (ps, r2)) (h2 : Q14 N (Q4g N) r2 = .error e) : Q1I N r = .error e := by simp only [Q1I, Qz, h, h1, h2]
theorem QuW {N : Nat} {r r1 r2 r3 : List UInt8} {n : Int} {ps : List Ty} {c : List Ins} {e : Flt} (h : rdLong N r = .ok (n, r1)) (h1 : QO N 6 r1 = .ok (ps, r2)) (h2 : Q14 N (Q4g N) r2 = .ok (c, r3)) (h3 : Q2q N r3 = .error e) : Q1I N r = .error e := by simp only [Q1I, Qz, h, h1, h2, h3]
theorem QuU {N : Nat} {r r1 r2 r3 r4 : List UInt8} {n : Int} {ps : List Ty} {c : List Ins} {t : Tail} (h : rdLong N r = .ok (n, r1)) (h1 : QO N 6 r1 = .ok (ps, r2)) (h2 : Q14 N (Q4g N) r2 = .ok (c, r3)) (h3 : Q2q N r3 = .ok (t, r4)) : Q1I N r = .ok (⟨n, ps, c, t⟩, r4) := by simp only [Q1I, Qz, h, h1, h2, h3]
theorem rdFun_e {N : Nat} {r : List UInt8} {e : Flt} (h : rdLong N r = .error e) : Q3U N r = .error e := by simp only [Q3U, Qz, h]
theorem rdFun_1 {N : Nat} {r r1 : List UInt8} {n : Int} {e : Flt} (h : rdLong N r = .ok (n, r1)) (h1 : QO N 6 r1 = .error e) : Q3U N r = .error e := by simp only [Q3U, Qz, h, h1]
theorem rdFun_2 {N : Nat} {r r1 r2 : List UInt8} {n : Int} {ps : List Ty} {e : Flt} (h : rdLong N r = .ok (n, r1)) (h1 : QO N 6 r1 = .ok (ps, r2)) (h2 : QO N 6 r2 = .error e) : Q3U N r = .error e := by simp only [Q3U, Qz, h, h1, h2]
theorem rdFun_3 {N : Nat} {r r1 r2 r3 : List UInt8} {n : Int} {ps rs : List Ty} {e : Flt} (h : rdLong N r = .ok (n, r1)) (h1 : QO N 6 r1 = .ok (ps, r2)) (h2 : QO N 6 r2 = .ok (rs, r3)) (h3 : Q14 N (Q1I N) r3 = .error e) : Q3U N r = .error e := by simp only [Q3U, Qz, h, h1, h2, h3]
theorem rdFun_o {N : Nat} {r r1 r2 r3 r4 : List UInt8} {n : Int} {ps rs : List Ty} {bl : List Block} (h : rdLong N r = .ok (n, r1)) (h1 : QO N 6 r1 = .ok (ps, r2)) (h2 : QO N 6 r2 = .ok (rs, r3)) (h3 : Q14 N (Q1I N) r3 = .ok (bl, r4)) : Q3U N r = .ok (⟨n, ps, rs, bl⟩, r4) := by simp only [Q3U, Qz, h, h1, h2, h3]
end
theorem QuP {bs : List UInt8} {rb : Nat} {v : Value} (hb : bs.length ≤ 1000000) (hv : u8R.sl cx v bs) : RdC insR aggV Tryz.prog QR [.pointer (some ⟨rb, 0, none⟩)] (Q4g bs.length) bs rb v cx L := by
  intro at1 c1 w1 r0 hle hat hS
  exact rdins_c hb (Rep.SR.up hv hle) hat hS
theorem QuS {bs : List UInt8} {rb at0 : Nat} {v : Value} (hb : bs.length ≤ 1000000) (hv : u8R.sl cx v bs) (ha : at0 ≤ bs.length) (hS : St cx w (blk rb 102 [v, .int .i64 at0] :: L)) :
    Fins Tryz.prog Q3d [.pointer (some ⟨rb, 0, none⟩)] w (OkA blockR aggV (Q1I bs.length (bs.drop at0)) bs rb v at0 cx L) (Bad (Q1I bs.length (bs.drop at0)) rb v cx L) := by
  unfold Fins
  all_goals refine Q7c ?_
  all_goals (unfold codec_reader_block_lc; refine Q0 ?_; refine Q1 ?_; refine Qb hS ?_; intro p2 w1 hS; refine zn ?_; refine Q0 ?_; refine Q1 ?_; refine zm ?_; refine zE1 (c := Q4E hv ha hS.sp) (p := by rintro v9 w9 ⟨e, at1, h1, rfl, hS⟩; (repeat (first | refine Q12 ?_ | refine Q13 ?_ | refine fun _ => ?_)); refine Q1U ?_; refine .inr ⟨_, rfl, ?_⟩; exact ⟨e, at1, QuV h1, rfl, hS.sp⟩) (h := ?_); rintro v1 w1 ⟨n, at1, h1, h2, h3, rfl, hS⟩; refine zb1 [_, _, _, _, _, _, _, _, _, _, _, _] ?_; refine Qb hS ?_; intro p3 w1 hS; refine zsn hS ?_; intro w1 hS; have hS := hS.ns; refine zn ?_; refine Q0 ?_; refine Q1 ?_; refine zm ?_; refine Q2k rfl (Qah hb 6 cx _ _ 0 at1 (by omega) (by omega) hv h3 (St.mv1 hS)) (by rintro v9 w9 ⟨e, at2, e2, rfl, hS⟩; (repeat (first | refine Q12 ?_ | refine Q13 ?_ | refine fun _ => ?_)); refine Q1U ?_; refine .inr ⟨_, rfl, ?_⟩; exact ⟨e, at2, QuY h1 e2, rfl, hS.sp⟩) ?_; rintro v2 w2 ⟨l1, at2, c2, e2, h4, h5, hle2, hl1, hS⟩; have hv2 := Rep.SR.up hv hle2; have ho1 := Rep.SR.oneC hl1; refine Q2 rfl ?_; refine zst hS ?_; intro w1 hS; have hS := hS.ns; refine zn ?_; refine Q0 ?_; refine Q1 ?_; refine zm ?_; refine zm ?_; refine s_mkb (u := [.pointer (some ⟨rb, 0, none⟩)]) rfl ?_; refine Q2k rfl (QpI (cx := c2) ⟨[_], [], rfl, rfl⟩ (by kernel_rfl) hb (QuP hb hv2) hv2 h5 hS) (by rintro v9 w9 ⟨e, at3, e3, rfl, hS⟩; (repeat (first | refine Q12 ?_ | refine Q13 ?_ | refine fun _ => ?_)); refine Q1U ?_; refine .inr ⟨_, rfl, ?_⟩; exact ⟨e, at3, QuX h1 e2 e3, rfl, St.weak hS.sp hle2⟩) ?_; rintro v3 w3 ⟨l2, at3, c3, e3, h6, h7, hle3, hl2, hS⟩; have hv3 := Rep.SR.up hv2 hle3; have ho2 := Rep.SR.oneC hl2)
  all_goals (refine Q2 rfl ?_; refine zst hS ?_; intro w1 hS; have hS := hS.ns; refine zn ?_; refine Q0 ?_; refine Q1 ?_; refine zm ?_; refine Q2k rfl (rdend_c hb hv3 h7 hS) (by rintro v9 w9 ⟨e, at4, e4, rfl, hS⟩; (repeat (first | refine Q12 ?_ | refine Q13 ?_ | refine fun _ => ?_)); refine Q1U ?_; refine .inr ⟨_, rfl, ?_⟩; exact ⟨e, at4, QuW h1 e2 e3 e4, rfl, St.weak hS.sp (hle2.trans hle3)⟩) ?_; rintro v4 w4 ⟨t, at4, c4, ds, e4, h8, h9, hle4, hd, rfl, hS⟩; obtain ⟨u1, u2, u3, u4, u5, rfl, q1, q2, q3, q4, q5⟩ := QfW hd; have hone := endR.one hd; unfold aggV; refine Q2 rfl ?_; (first | (refine zsn hS ?_; intro w1 hS; have hS := hS.ns) | (refine zsm hS ?_; intro w1 hS; have hS := hS.ns)); refine zn ?_; refine Q0 ?_; have hd9 : blockR.at c4 [.int .i64 n, v2, v3, .int .i64 t.op, .int .i64 t.a, .int .i64 t.yes.block, u1, u2, .int .i64 t.no.block, u3, u4, u5] ⟨n, l1, l2, t⟩ := ⟨_, _, _, rfl, Rep.SR.up hl1 (hle3.trans hle4), Rep.SR.up hl2 hle4, hd⟩; refine Q1 ?_; refine zv hS ?_; refine zsn hS ?_; intro w1 hS; have hS := hS.ns; refine zn ?_; refine zr ?_; refine Q20 vw (Q9 (n := 12) (by kernel_rfl) (by kernel_rfl) (hS.blkAt fd) (by rfl) (by rfl)) ?_; exact .inl ⟨_, rfl, _, at4, c4, _, QuU h1 e2 e3 e4, by omega, by omega, (hle2.trans hle3).trans hle4, hd9, rfl, hS.sp⟩)
theorem QuR {bs : List UInt8} {rb : Nat} {v : Value} (hb : bs.length ≤ 1000000) (hv : u8R.sl cx v bs) : RdC blockR aggV Tryz.prog Q3d [.pointer (some ⟨rb, 0, none⟩)] (Q1I bs.length) bs rb v cx L := by
  intro at1 c1 w1 r0 hle hat hS
  exact QuS hb (Rep.SR.up hv hle) hat hS
theorem rdfun_c {bs : List UInt8} {rb at0 : Nat} {v : Value} (hb : bs.length ≤ 1000000) (hv : u8R.sl cx v bs) (ha : at0 ≤ bs.length) (hS : St cx w (blk rb 102 [v, .int .i64 at0] :: L)) :
    Fins Tryz.prog Q2v [.pointer (some ⟨rb, 0, none⟩)] w (OkA funcR aggV (Q3U bs.length (bs.drop at0)) bs rb v at0 cx L) (Bad (Q3U bs.length (bs.drop at0)) rb v cx L) := by
  unfold Fins
  all_goals refine Q4Z ?_
  all_goals (unfold codec_reader_function_lc; refine Q0 ?_; refine Q1 ?_; refine Qb hS ?_; intro p2 w1 hS; refine zn ?_; refine Q0 ?_; refine Q1 ?_; refine zm ?_; refine zE1 (c := Q4E hv ha hS.sp) (p := by rintro v9 w9 ⟨e, at1, h1, rfl, hS⟩; (repeat (first | refine Q12 ?_ | refine Q13 ?_ | refine fun _ => ?_)); refine Q1U ?_; refine .inr ⟨_, rfl, ?_⟩; exact ⟨e, at1, rdFun_e h1, rfl, hS.sp⟩) (h := ?_); rintro v1 w1 ⟨n, at1, h1, h2, h3, rfl, hS⟩; refine zb1 [_, _, _, _] ?_; refine Qb hS ?_; intro p3 w1 hS; refine zsn hS ?_; intro w1 hS; have hS := hS.ns; refine zn ?_; refine Q0 ?_; refine Q1 ?_; refine zm ?_; refine Q2k rfl (Qah hb 6 cx _ _ 0 at1 (by omega) (by omega) hv h3 (St.mv1 hS)) (by rintro v9 w9 ⟨e, at2, e2, rfl, hS⟩; (repeat (first | refine Q12 ?_ | refine Q13 ?_ | refine fun _ => ?_)); refine Q1U ?_; refine .inr ⟨_, rfl, ?_⟩; exact ⟨e, at2, rdFun_1 h1 e2, rfl, hS.sp⟩) ?_; rintro v2 w2 ⟨l1, at2, c2, e2, h4, h5, hle2, hl1, hS⟩; have hv2 := Rep.SR.up hv hle2; have ho1 := Rep.SR.oneC hl1; refine Q2 rfl ?_; refine zst hS ?_; intro w1 hS; have hS := hS.ns; refine zn ?_; refine Q0 ?_; refine Q1 ?_; refine zm ?_; refine Q2k rfl (Qah hb 6 c2 _ _ 0 at2 (by omega) (by omega) hv2 h5 hS) (by rintro v9 w9 ⟨e, at3, e3, rfl, hS⟩; (repeat (first | refine Q12 ?_ | refine Q13 ?_ | refine fun _ => ?_)); refine Q1U ?_; refine .inr ⟨_, rfl, ?_⟩; exact ⟨e, at3, rdFun_2 h1 e2 e3, rfl, St.weak hS.sp hle2⟩) ?_; rintro v3 w3 ⟨l2, at3, c3, e3, h6, h7, hle3, hl2, hS⟩; have hv3 := Rep.SR.up hv2 hle3; have ho2 := Rep.SR.oneC hl2)
  all_goals (refine Q2 rfl ?_; refine zst hS ?_; intro w1 hS; have hS := hS.ns; refine zn ?_; refine Q0 ?_; refine Q1 ?_; refine zm ?_; refine zm ?_; refine s_mkb (u := [.pointer (some ⟨rb, 0, none⟩)]) rfl ?_; refine Q2k rfl (QpK (cx := c3) ⟨[_], [], rfl, rfl⟩ (by kernel_rfl) hb (QuR hb hv3) hv3 h7 hS) (by rintro v9 w9 ⟨e, at4, e4, rfl, hS⟩; (repeat (first | refine Q12 ?_ | refine Q13 ?_ | refine fun _ => ?_)); refine Q1U ?_; refine .inr ⟨_, rfl, ?_⟩; exact ⟨e, at4, rdFun_3 h1 e2 e3 e4, rfl, St.weak hS.sp (hle2.trans hle3)⟩) ?_; rintro v4 w4 ⟨l3, at4, c4, e4, h8, h9, hle4, hl3, hS⟩; have ho3 := Rep.SR.oneC hl3; refine Q2 rfl ?_; refine zst hS ?_; intro w1 hS; have hS := hS.ns; refine zn ?_; refine Q0 ?_; have hd9 : funcR.at c4 [.int .i64 n, v2, v3, v4] ⟨n, l1, l2, l3⟩ := ⟨_, _, _, rfl, Rep.SR.up hl1 (hle3.trans hle4), Rep.SR.up hl2 hle4, hl3⟩; refine Q1 ?_; refine zv hS ?_; refine zsn hS ?_; intro w1 hS; have hS := hS.ns; refine zn ?_; refine zr ?_; refine Q20 vw (Q9 (n := 4) (by kernel_rfl) (by kernel_rfl) (hS.blkAt fd) (by rfl) (by rfl)) ?_; exact .inl ⟨_, rfl, _, at4, c4, _, rdFun_o h1 e2 e3 e4, by omega, by omega, (hle2.trans hle3).trans hle4, hd9, rfl, hS.sp⟩)
theorem QuQ {bs : List UInt8} {rb : Nat} {v : Value} (hb : bs.length ≤ 1000000) (hv : u8R.sl cx v bs) : RdC funcR aggV Tryz.prog Q2v [.pointer (some ⟨rb, 0, none⟩)] (Q3U bs.length) bs rb v cx L := by
  intro at1 c1 w1 r0 hle hat hS
  exact rdfun_c hb (Rep.SR.up hv hle) hat hS
end Go.Proofs.YtanlkfeogoganaaGreat
namespace Go.Proofs.YtanlkfeogoganaaGreat
open Go.Lir
set_option maxHeartbeats 1000000
attribute [local irreducible] LC.wp Q5 QN Q11 retQ Q1T LO.wp Qr Calls
set_option linter.unusedSimpArgs false
set_option linter.unusedVariables false
variable {cx : Cx} {w : World} {L : List Res}
theorem Quh {P : Program} {T : TypeId} (h : aggT P T = true) : ∃ D, P.underlying T = some D ∧ ∀ m, D ≠ .interface m := by
  unfold aggT at h
  split at h
  · exact ⟨_, by assumption, by intro m h; cases h⟩
  · exact ⟨_, by assumption, by intro m h; cases h⟩
  · cases h
theorem Q49 {p q : Nat} {cs ds : List Value} (hS : St cx w (blk p 24 cs :: blk q 30 ds :: L)) : Defs Tryz.prog Q4J [.pointer (some ⟨p, 0, none⟩), .pointer (some ⟨q, 0, none⟩)] .returning w fun u' w' => u' = .returning ∧ St cx w' (blk p 24 cs :: blk q 30 ds :: L) := by
  unfold Defs
  all_goals refine Q4o ?_
  all_goals (unfold codec_Decode_1_ld; refine r_seq ?_; refine r_sp ?_; refine zn ?_; refine zm ?_; refine zn ?_; refine r_pl ?_; refine Q0 ?_; refine Q1 ?_; refine zm ?_; refine s_inil_f (ms := #[]) (by kernel_rfl) rfl ?_; refine zn ?_)
  all_goals refine Q4 rfl ?_
  all_goals (refine zsk ?_; refine q_endR ?_; refine Q3j ?_; exact ⟨⟨_, rfl⟩, rfl, hS.sp⟩)
theorem Qvt {p q : Nat} {v0 a0 b0 : Value} {e : Flt} (hS : St cx w (blk p 24 [v0] :: blk q 30 [a0, b0] :: L)) : Defs Tryz.prog Q4J [.pointer (some ⟨p, 0, none⟩), .pointer (some ⟨q, 0, none⟩)] (.panicking [{ v := Qvx e, recovered := false }]) w fun u' w' => u' = .panicking [{ v := Qvx e, recovered := true }] ∧ St cx w' (blk p 24 [vn] :: blk q 30 [.int .i64 e.1, .int .i64 e.2] :: L) := by
  obtain ⟨D, hD, hi⟩ := Quh (P := Tryz.prog) (T := 98) (by kernel_rfl)
  unfold Defs
  all_goals refine Q4o ?_
  all_goals (unfold codec_Decode_1_ld; refine r_seq ?_; refine r_sp ?_; refine zn ?_; refine zm ?_; refine zn ?_; refine r_pl ?_; refine Q0 ?_; refine Q1 ?_; refine zm ?_; refine s_inil_t (ms := #[]) (by kernel_rfl) rfl ?_; refine zn ?_)
  all_goals refine Q3 rfl ?_
  all_goals (refine Q0 ?_; refine Q1 ?_; refine zm ?_; refine s_assert hD hi rfl ?_; refine zm ?_; refine Q4N rfl rfl ?_; refine Q4N rfl rfl ?_; refine Qb hS ?_; intro p3 w1 hS; refine zsn hS ?_; intro w1 hS; have hS := hS.ns; refine zm ?_; refine zn ?_; refine Q0 ?_; refine Q0 ?_; refine Q1 ?_; refine zm ?_; refine Q2b rfl ?_; refine zn ?_)
  all_goals refine Q4 rfl ?_
  all_goals (refine zsk ?_; refine zC [(0, none), (1, none), (2, some (some [1])), (3, some none)] ?_; have hS := hS.drew; refine s_cq ?_; refine zb0 [_] ?_; refine zt ?_; refine s_cq ?_; refine zv hS ?_; refine zt ?_; refine Ql ?_; refine zsn hS ?_; intro w1 hS; have hS := hS.ns; refine zt ?_; refine zy ?_; refine s_cf ?_; refine zsn hS ?_; intro w1 hS; have hS := hS.ns; refine zt ?_; refine zcn ?_; refine q_endR ?_; refine Q3j ?_; exact ⟨⟨_, rfl⟩, rfl, hS.sp⟩)
end Go.Proofs.YtanlkfeogoganaaGreat
namespace Go.Proofs.YtanlkfeogoganaaGreat
open Go.Lir
set_option maxHeartbeats 1000000
attribute [local irreducible] LC.wp Q5 QN Q11 retQ Q1T LO.wp Qr Calls
set_option linter.unusedSimpArgs false
set_option linter.unusedVariables false
attribute [local irreducible] bitI IntKind.wrap
variable {cx : Cx} {w : World} {L : List Res}
theorem sum_c {bs : List UInt8} {v : Value} (hl : u8R.sl cx v bs) (hS : St cx w L) : Rets Tryz.prog Qqg [v] w fun u w' => u = .int .u32 ((Q3B bs).toNat : Int) ∧ St cx w' L := by
  have hlen := hl.len
  all_goals refine Qqf ?_
  all_goals (unfold codec_Sum_lc; refine Q0 ?_; refine Q1 ?_; refine zm ?_; refine zn ?_; refine Q0 ?_; refine Q1 ?_; refine zm ?_; refine zn ?_; refine Q0 ?_; refine Q0 ?_; refine Q1 ?_; refine zm ?_; refine zL ?_; refine zm ?_; refine zn ?_; refine Q8 ?_)
  refine zoL hS [6, 7] (fun A LL ρ' w' => ∃ (j : Nat) (c : BitVec 32), Has ρ' A ∧ Has ρ' [(3, .int .u32 (c.toNat : Int)), (8, .int .i64 j)] ∧ (j ≤ bs.length) ∧ (bs.foldl Q4H 4294967295#32 = (bs.drop j).foldl Q4H c) ∧ St cx w' (LL)) (fun ρ' _ => (bs.length - iv (ρ' 8)).toNat) ?_ ?_
  · exact ⟨0, 4294967295#32, zh, zh, (by omega), by rw [List.drop_zero], hS.sp⟩
  rintro ρ w1 ⟨j, c, hA, hρ, hj, hd, hS⟩; obtain ⟨ρ, rfl⟩ := env2 hA hρ
  unfold QdJ
  all_goals (refine Q0 ?_; refine Q1 ?_; refine Qt rfl rfl ?_; refine zn ?_; refine Q0 ?_)
  refine Qm rfl (fun hc => ?_) (fun hc => ?_)
  · skip
    all_goals (refine zsk ?_; refine Q0 ?_; refine Q8 ?_; refine Q0 ?_; refine Q1 ?_; refine zi ?_; intro b1 o1 cs1 x1 hat1 hx1 he1; (first | (obtain rfl := Q25 he1) | (obtain rfl := Q35 he1)); (first | (refine zl hS ?_) | (refine zlk hS ?_)); refine zm ?_; refine zn ?_; refine Q0 ?_; refine Q1 ?_; refine zm ?_; refine zm ?_; refine Q28 rfl ?_; rw [QvA]; refine QrM rfl rfl ?_; rw [Qqo]; refine zm ?_; refine zn ?_; refine Q0 ?_; refine Q1 ?_; refine zm ?_; refine zn ?_; refine Q8 ?_)
    refine zoL hS [6, 7, 8] (fun A LL ρ' w' => ∃ (k : Nat) (c1 : BitVec 32), Has ρ' A ∧ Has ρ' [(3, .int .u32 (c1.toNat : Int)), (16, .int .i64 k)] ∧ (k ≤ 8) ∧ (Q4H c x1 = crcN (8 - k) c1) ∧ St cx w' (LL)) (fun ρ' _ => (8 - iv (ρ' 16)).toNat) ?_ ?_
    · exact ⟨0, _, zh, zh, (by omega), by rfl, hS.sp⟩
    rintro ρ w1 ⟨k, c1, hA, hρ, hk, hd1, hS⟩; obtain ⟨ρ, rfl⟩ := env2 hA hρ
    unfold QdI
    all_goals (refine Q0 ?_; refine Q1 ?_; refine Qt rfl rfl ?_; refine zn ?_; refine Q0 ?_)
    refine Qm rfl (fun hc => ?_) (fun hc => ?_)
    · skip
      all_goals (refine zsk ?_; refine Q0 ?_; refine Q8 ?_; refine Q1 ?_; refine zm ?_; refine Q7Q rfl rfl (by decide) ?_; rw [bv_shr]; refine zm ?_; refine Q8Z rfl rfl ?_; rw [show (1 : Int) = ((1#32).toNat : Int) from rfl, Qtj]; refine Qux rfl ?_; rw [bv_neg]; refine Q8Z rfl rfl ?_; rw [show (3988292384 : Int) = ((3988292384#32).toNat : Int) from rfl, Qtj]; refine QrM rfl rfl ?_; rw [Qqo]; refine zm ?_; refine zn ?_; refine Q1 ?_; refine zad ?_; refine zm ?_; refine zn ?_; exact ⟨⟨k + 1, QgI c1, zh, zh, (by omega), by rw [hd1, show 8 - k = (8 - (k + 1)) + 1 by omega]; rfl, hS.sp⟩, Qh (by omega)⟩)
    · skip
      all_goals (refine zex ?_; refine Q1 ?_; refine zad ?_; refine zm ?_; refine zn ?_; exact ⟨⟨j + 1, c1, zh, zh, (by omega), by rw [hd, Q7 hx1, List.foldl_cons, hd1, show 8 - k = 0 by omega]; rfl, hS.sp⟩, Qh (by omega)⟩)
  · skip
    all_goals (refine zex ?_; refine Q0 ?_; refine Q1 ?_; refine zm ?_; refine s_compl rfl ?_; refine zm ?_; refine zn ?_; refine zr ?_; refine zf ?_; refine ⟨_, rfl, ?_, hS.sp⟩; unfold Q3B; rw [hd, List.drop_of_length_le (by omega)]; rfl; done)
end Go.Proofs.YtanlkfeogoganaaGreat
