/- Lemmas of the proof, part 3: what the functions of the program do (contracts), and what follows. -/
import Derived.Test.YtjecflbbcnocdaaDoorZ2
import Derived.Test.YtjecflbbcnocdaaDoorZ1
import Derived.Test.YtjecflbbcnocdaaDoorRows
import Derived.ProofKit
import Derived.LaidMore
import Derived.OpenShut
import Derived.Stop.LaidErr
import Derived.Lib.LaidTab
import Derived.MakeChecks
namespace Go.Proofs.YtjecflbbcnocdaaDoor
open Go.Lir
set_option maxHeartbeats 1000000
attribute [local irreducible] LC.wp Q0 Qv QJ retQ Q2z LO.wp Qn Calls
set_option linter.unusedSimpArgs false
set_option linter.unusedVariables false
attribute [local irreducible] skip Q22 scan tok1
variable {cx : Cx} {w : World} {L : List Res}
theorem Q38 {c : UInt8} (h : Q3z c = true) : ¬ Qi c = true ∧ ¬ c = 45 := by
  have hall : ∀ p : Fin 256, Q3z (UInt8.ofNat p.val) = true → ¬ Qi (UInt8.ofNat p.val) = true ∧ ¬ UInt8.ofNat p.val = 45 := by decide +kernel
  have h1 := hall ⟨c.toNat, c.toNat_lt⟩
  simp only [UInt8.ofNat_toNat] at h1
  exact h1 h
section
variable {src : List UInt8} {i i2 : Nat} {p : UInt8 → Bool} {c d : UInt8} {r : List UInt8}
theorem Q7p (h : ∀ x ∈ (src.drop i).take (i2 - i), p x = true) (hi : i ≤ i2) (hk : i2 ≤ src.length) (hs : ∀ x, src[i2]? = some x → p x = false) : (src.take i2).drop i = (src.drop i).takeWhile p ∧ i + ((src.drop i).takeWhile p).length = i2 := by
  have := Q4X (src := src) (at0 := i) (k := i2 - i) h (by omega) (by rw [show i + (i2 - i) = i2 by omega]; exact hs)
  rw [show i + (i2 - i) = i2 by omega] at this
  exact ⟨this.1, by omega⟩
theorem Q6l (h : ∀ x ∈ (src.drop i).take (i2 - i), p x = true) (hi : i ≤ i2) (hc : src[i2]? = some c) (hp : p c = true) : ∀ x ∈ (src.drop i).take (i2 + 1 - i), p x = true := by
  have := Q4i (src := src) (at0 := i) (k := i2 - i) h (by rw [show i + (i2 - i) = i2 by omega]; exact hc) hp
  rw [show i2 + 1 - i = i2 - i + 1 by omega]
  exact this
theorem run_0 : ∀ x ∈ (src.drop i).take (i - i), p x = true := by rw [Nat.sub_self]; intro x hx; simp at hx
theorem num_dig (h0 : QO c = false) (h : Qi c = true) : tok1 (c :: r) = numT (c :: r.takeWhile Qi) := by
  rw [QA (Q7 h0) h, List.takeWhile_cons, if_pos h]
theorem num_neg (h : c.toNat = 45) (hr : r = d :: r.tail) (hd : Qi d = true) : tok1 (c :: r) = numT (c :: r.takeWhile Qi) := by
  rw [eq45 h, hr, Q1e (Q5K hd) hd]
theorem Q2K (hc : src[i]? = some c) (hi : i + 1 ≤ i2) (h : (src.take i2).drop (i + 1) = r) : (src.take i2).drop i = c :: r := by
  rw [← h]
  exact Q6 (by rw [List.getElem?_take_of_lt (by omega)]; exact hc)
end
theorem rF_c {c a : Int} (hS : St cx w L) : Rets Tryd.prog R_F [.int .i64 c, .int .i64 a] w fun u w' => u = .agg ⟨[.int .i64 c, .int .i64 a]⟩ ∧ St cx w' L := by
  all_goals refine R_F_in ?_
  all_goals (unfold R_F_lc; refine Q2 ?_; refine Q3 ?_; refine QP hS ?_; intro p4 w1 hS; refine zn ?_; refine Q2 ?_; refine Q3 ?_; refine zm ?_; refine zm ?_; refine zb2 [_, _] ?_; refine zsn hS ?_; intro w1 hS; have hS := hS.ns; refine zn ?_; refine zr ?_; refine q_retc vw (Qh (n := 2) (by kernel_rfl) (by kernel_rfl) (hS.blkAt fd) (by rfl) (by rfl)) ?_; exact ⟨_, rfl, rfl, hS.sp⟩)
theorem rscan_c {src : List UInt8} (hT : NumK cx) (hl : src.length ≤ 100000) (hS : St cx w L) :
    Rets Tryd.prog QG [.string ⟨src.toArray⟩] w fun u w' => ScanS cx L src u w' := by
  have hle := St.refl hS
  all_goals refine Q7X ?_
  all_goals (unfold R_Scan_lc; refine Q2 ?_; refine Q3 ?_; refine zm ?_; refine QP hS ?_; intro p3 w1 hS; refine zn ?_; refine Q2 ?_; refine Q2 ?_; refine Q3 ?_; refine zm ?_; refine Qq rfl ?_)
  all_goals (first | (refine zgtrt ?_) | (refine zgtrf ?_) | (refine Q5x rfl rfl (fun hc => ?_) (fun hc => ?_)))
  all_goals (refine zn ?_)
  all_goals
    first
    | (refine Qb rfl ?_ -- QG c0
       all_goals refine zsk ?_)
    | (refine Qa rfl ?_ -- QG c0
       all_goals (refine Q2 ?_; refine Q3 ?_; refine zR2 (c := rF_c hS) (h := ?_); rintro v1 w1 ⟨rfl, hS⟩; refine zm ?_; refine zsn hS ?_; intro w1 hS; have hS := hS.ns; refine zn ?_; refine zr ?_; refine Q2B vw vw (Qh (n := 2) (by kernel_rfl) (by kernel_rfl) (hS.blkAt fd) (by rfl) (by rfl)) ?_)
       all_goals (exact ⟨_, rfl, .inr ⟨2, 40000, QR (by omega), rfl, hS.sp⟩⟩))
  all_goals (refine Q2 ?_; refine Q3 ?_; refine zm ?_; refine zn ?_; refine Q2 ?_; refine Q3 ?_; refine zm ?_; refine zR2 (c := Q57 (at0 := 0) (by omega) (by omega) hS) (h := ?_); rintro v1 w1 ⟨at1, rfl, h01, h02, h03, hS⟩; refine zm ?_; refine zn ?_; refine Q2 ?_; refine Ql ?_)
  refine zo [0, 3] (fun A ρ' w' => ∃ (k i : Nat) (out : List Tok) (vb : Value) (cb : List (List Value)), Has ρ' A ∧ Has ρ' [(4, vb), (5, .int .i64 i)] ∧ (i ≤ src.length) ∧ (src.length - i < k) ∧ (scan src = Q22 src.length k (src.drop i) out) ∧ (out.length ≤ i) ∧ (tokR.ls cx cb out) ∧ (oneC vb = true) ∧ St cx w' (sl 33 4 vb cb :: blk p3 25 [.int .i64 0, .int .i64 0] :: L)) (fun ρ' _ => (src.length - iv (ρ' 5)).toNat) ?_ ?_
  · exact ⟨src.length + 1, at1, [], .slice none 0 0, [], zh, zh, (by omega), (by omega), Q6g (by omega) (by rw [h03]; rfl), (by omega), Rep.LR.nil _ _ _, rfl, by have hS := hS.nil (T := 33) (es := 4); exact hS.sp⟩
  rintro ρ w1 ⟨k, i, out, vb, cb, hA, hρ, hi, hk, hd, hol, hlb, hvb, hS⟩; obtain ⟨ρ, rfl⟩ := env2 hA hρ
  unfold Q5p
  all_goals (refine Q2 ?_; refine Q2 ?_; refine Q3 ?_; refine zm ?_; refine zm ?_; refine Qq rfl ?_; refine Q23 rfl rfl ?_; refine zn ?_)
  refine Q2N rfl (fun hc => ?_) (fun hc => ?_)
  · skip
    all_goals (refine zsk ?_; refine Ql ?_; refine Q2 ?_; refine Q3 ?_; refine zm ?_; refine zm ?_; refine zn ?_)
    refine zM [0, 3] (fun A ρ' w' => ∃ (t : List UInt8) (m : Option Int) (at2 : Nat) (vb2 : Value) (cb2 : List (List Value)), Has ρ' A ∧ Has ρ' [(4, vb2), (5, .int .i64 at2)] ∧ (tok1 (src.drop i) = .ok (t, m)) ∧ (i + t.length = at2) ∧ (tokR.ls cx cb2 (out ++ [⟨i, t, m⟩])) ∧ (oneC vb2 = true) ∧ St cx w' (sl 33 4 vb2 cb2 :: blk p3 25 [.int .i64 0, .int .i64 0] :: L)) ?_ ?_
    · skip
      all_goals (refine Q2 ?_; obtain ⟨c, hc9⟩ : ∃ x, src[i]? = some x := ⟨_, List.getElem?_eq_getElem (by omega)⟩; have hdc := Q6 hc9; refine Q3 ?_; refine zm ?_; refine zm ?_; refine Qj rfl rfl hc9 ?_)
      all_goals (refine zR1 (c := Q56 hS) (h := ?_); rintro v1 w1 ⟨rfl, hS⟩; cases hq0 : QO c)
      all_goals (refine zn ?_)
      all_goals
        first
        | (refine Qb rfl ?_ -- QG c2
           all_goals (refine Q2 ?_; refine Q3 ?_; refine zm ?_; refine zm ?_; refine Qj rfl rfl hc9 ?_)
           all_goals (refine zR1 (c := rsign_c hS) (h := ?_); rintro v1 w1 ⟨rfl, hS⟩; cases hq1 : Q3z c)
           all_goals (refine zn ?_)
           all_goals
             first
             | (refine Qb rfl ?_ -- QG c4
                all_goals (refine Q2 ?_; refine Q3 ?_; refine zm ?_; refine zm ?_; refine Qj rfl rfl hc9 ?_)
                all_goals (first | (refine Q2w ?_) | (refine Q2x ?_) | (refine QB rfl rfl (fun hc => ?_) (fun hc => ?_)))
                all_goals (refine zm ?_; (first | refine s_gn rfl rfl ?_ | (refine s_gy rfl ?_; refine zm ?_)); (first | refine s_gn rfl rfl ?_ | (refine s_gy rfl ?_; refine zad ?_)); (first | refine s_gn rfl rfl ?_ | (refine s_gy rfl ?_; refine zm ?_)); (first | refine s_gn rfl rfl ?_ | (refine s_gy rfl ?_; refine Qq rfl ?_)))
                all_goals (first | refine s_gn rfl rfl ?_ | (refine s_gy rfl ?_; (first | (refine Q4V ?_) | (refine Q4W ?_) | (refine Q2y rfl rfl (fun hc => ?_) (fun hc => ?_)))))
                all_goals ((first | (refine zpt ?_) | (refine zpf ?_)); refine zm ?_; (first | refine s_gn rfl rfl ?_ | (refine s_gy rfl ?_; refine zm ?_)); (first | refine s_gn rfl rfl ?_ | (refine s_gy rfl ?_; refine zm ?_)); (first | refine s_gn rfl rfl ?_ | (refine s_gy rfl ?_; refine zad ?_)); (first | refine s_gn rfl rfl ?_ | (refine s_gy rfl ?_; obtain ⟨d, hd8⟩ : ∃ x, src[i + 1]? = some x := ⟨_, List.getElem?_eq_getElem (by omega)⟩; have hdd := Q6 hd8; refine Qj (m := i + 1) rfl rfl hd8 ?_)))
                all_goals (first | refine s_gn rfl rfl ?_ | (refine s_gy rfl ?_; (first | (refine Q2w ?_) | (refine Q2x ?_) | (refine QB rfl rfl (fun hc => ?_) (fun hc => ?_)))))
                all_goals ((first | (refine zpt ?_) | (refine zpf ?_)); refine zn ?_)
                all_goals
                  first
                  | (refine Qb rfl ?_ -- QG c5
                     all_goals (refine Q2 ?_; refine Q3 ?_; refine zm ?_; refine zm ?_; refine Qj rfl rfl hc9 ?_)
                     all_goals (refine zR1 (c := Q4J hS) (h := ?_); rintro v1 w1 ⟨rfl, hS⟩; cases hq2 : Qi c)
                     all_goals (refine zm ?_; (first | refine s_gn rfl rfl ?_ | (refine s_gy rfl ?_; refine zm ?_)); (first | refine s_gn rfl rfl ?_ | (refine s_gy rfl ?_; refine zm ?_)); (first | refine s_gn rfl rfl ?_ | (refine s_gy rfl ?_; refine Qj rfl rfl hc9 ?_)))
                     all_goals (first | refine s_gn rfl rfl ?_ | (refine s_gy rfl ?_; (first | (refine Q2w ?_) | (refine Q2x ?_))))
                     all_goals ((first | refine s_gn rfl rfl ?_ | (refine s_gy rfl ?_; refine zm ?_)); (first | refine s_gn rfl rfl ?_ | (refine s_gy rfl ?_; refine zm ?_)); (first | refine s_gn rfl rfl ?_ | (refine s_gy rfl ?_; refine zad ?_)); (first | refine s_gn rfl rfl ?_ | (refine s_gy rfl ?_; refine zm ?_)); (first | refine s_gn rfl rfl ?_ | (refine s_gy rfl ?_; refine Qq rfl ?_)))
                     all_goals (first | refine s_gn rfl rfl ?_ | (refine s_gy rfl ?_; (first | (refine Q4V ?_) | (refine Q4W ?_))))
                     all_goals ((first | refine s_gn rfl rfl ?_ | (refine s_gy rfl ?_; (first | (refine zpt ?_) | (refine zpf ?_)))); (first | refine s_gn rfl rfl ?_ | (refine s_gy rfl ?_; refine zm ?_)); (first | refine s_gn rfl rfl ?_ | (refine s_gy rfl ?_; refine zm ?_)); (first | refine s_gn rfl rfl ?_ | (refine s_gy rfl ?_; refine zm ?_)); (first | refine s_gn rfl rfl ?_ | (refine s_gy rfl ?_; refine zad ?_)); (first | refine s_gn rfl rfl ?_ | (refine s_gy rfl ?_; obtain ⟨d2, hd7⟩ : ∃ x, src[i + 1]? = some x := ⟨_, List.getElem?_eq_getElem (by omega)⟩; have hdd2 := Q6 hd7; refine Qj (m := i + 1) rfl rfl hd7 ?_)))
                     all_goals (first | refine s_gn rfl rfl ?_ | (refine s_gy rfl ?_; refine zR1 (c := Q4J hS) (h := ?_); rintro v1 w1 ⟨rfl, hS⟩; cases hq3 : Qi d2))
                     all_goals ((first | refine s_gn rfl rfl ?_ | (refine s_gy rfl ?_; (first | (refine zpt ?_) | (refine zpf ?_)))); (first | (refine zpt ?_) | (refine zpf ?_)); refine zn ?_)
                     all_goals
                       first
                       | (refine Qb rfl ?_ -- QG c6
                          all_goals (refine Q2 ?_; refine Q3 ?_; refine zm ?_; refine zR2 (c := rF_c hS) (h := ?_); rintro v1 w1 ⟨rfl, hS⟩; refine zm ?_; refine zsn hS ?_; intro w1 hS; have hS := hS.ns; refine zn ?_; refine zr ?_; refine Q2B vw vw (Qh (n := 2) (by kernel_rfl) (by kernel_rfl) (hS.blkAt fd) (by rfl) (by rfl)) ?_)
                          all_goals ((first | exact ⟨_, rfl, .inr ⟨2, 40000, QR (by omega), rfl, hS.sp⟩⟩ | exact ⟨_, rfl, .inl ⟨out, c2, vb, by rw [hd, Q2M (by omega)], hle2, rfl, hk2, hS.sp⟩⟩ | exact ⟨_, rfl, .inr ⟨8, i, by rw [hd, show k = k - 1 + 1 by omega, QS (by omega) (hnum.trans (Q12 hn))], rfl, hS.sp⟩⟩ | exact ⟨_, rfl, .inr ⟨6, i, by rw [hd, show k = k - 1 + 1 by omega, QS (by omega) (by rw [hdc, Q6f (Q7 hq0) (Q7 hq2) (ne45 (by omega)) (Q7 hq1)])], rfl, hS.sp⟩⟩ | exact ⟨_, rfl, .inr ⟨6, i, by rw [hd, show k = k - 1 + 1 by omega, QS (by omega) (by rw [hdc, eq45 (c := c) (by omega), List.drop_eq_nil_of_le (by omega), Q6c])], rfl, hS.sp⟩⟩ | exact ⟨_, rfl, .inr ⟨6, i, by rw [hd, show k = k - 1 + 1 by omega, QS (by omega) (by rw [hdc, eq45 (c := c) (by omega), hdd2, Q6d (fun e9 => absurd (show ((d.toNat : Nat) : Int) = 62 by rw [Option.some.inj (hd8.symm.trans hd7), e9]; rfl) (by assumption)) (Q7 hq3)])], rfl, hS.sp⟩⟩)))
                       | (refine Qa rfl ?_ -- QG c6
                          refine zML hS [0, 3, 4, 6] (fun A LL ρ' w' => Has ρ' A ∧ Has ρ' [(5, .int .i64 ((i : Int) + 1))] ∧ (tok1 (src.drop i) = numT (c :: (src.drop (i + 1)).takeWhile Qi)) ∧ St cx w' (LL)) ?_ ?_
                          · skip
                            all_goals (refine Q3 ?_; refine zm ?_; refine zad ?_; refine zm ?_; refine zn ?_; exact ⟨zh, zh, (by rw [hdc]; first | exact num_dig hq0 hq2 | exact num_neg (by omega) (by rw [hdd2]; rfl) hq3), hS.sp⟩)
                          rintro ρ w1 ⟨hA, hρ, hnum, hS⟩; obtain ⟨ρ, rfl⟩ := env2 hA hρ
                          all_goals (refine Q2 ?_; refine Ql ?_)
                          refine zoL hS [0, 3, 4, 6] (fun A LL ρ' w' => ∃ (i2 : Nat), Has ρ' A ∧ Has ρ' [(5, .int .i64 i2)] ∧ (i + 1 ≤ i2) ∧ (i2 ≤ src.length) ∧ (∀ x ∈ (src.drop (i + 1)).take (i2 - (i + 1)), Qi x = true) ∧ St cx w' (LL)) (fun ρ' _ => (src.length - iv (ρ' 5)).toNat) ?_ ?_
                          · exact ⟨i + 1, zh, zh, (by omega), (by omega), run_0, hS.sp⟩
                          rintro ρ w1 ⟨i2, hA, hρ, h2, h3, hall, hS⟩; obtain ⟨ρ, rfl⟩ := env2 hA hρ
                          unfold Q4r
                          all_goals (refine Q2 ?_; refine Q2 ?_; refine Q3 ?_; refine zm ?_; refine zm ?_; refine Qq rfl ?_)
                          all_goals (first | (refine Q4V ?_) | (refine Q4W ?_) | (refine Q2y rfl rfl (fun hc => ?_) (fun hc => ?_)))
                          all_goals (refine zm ?_; (first | refine s_gn rfl rfl ?_ | (refine s_gy rfl ?_; refine zm ?_)); (first | refine s_gn rfl rfl ?_ | (refine s_gy rfl ?_; refine zm ?_)); (first | refine s_gn rfl rfl ?_ | (refine s_gy rfl ?_; obtain ⟨c2, hc2⟩ : ∃ x, src[i2]? = some x := ⟨_, List.getElem?_eq_getElem (by omega)⟩; refine Qj rfl rfl hc2 ?_)))
                          all_goals (first | refine s_gn rfl rfl ?_ | (refine s_gy rfl ?_; refine zR1 (c := Q4J hS) (h := ?_); rintro v1 w1 ⟨rfl, hS⟩; cases hq : Qi c2))
                          all_goals ((first | (refine zpt ?_) | (refine zpf ?_)); refine zn ?_)
                          all_goals
                            first
                            | (refine Qa rfl ?_ -- QG c7
                               all_goals (refine zsk ?_; refine Ql ?_; refine Q3 ?_; refine zm ?_; refine zad ?_; refine zm ?_; refine zn ?_)
                               all_goals (exact ⟨⟨i2 + 1, zh, zh, (by omega), (by omega), Q6l hall h2 hc2 hq, hS.sp⟩, Q2b (by omega)⟩))
                            | (refine Qb rfl ?_ -- QG c7
                               all_goals (refine zex ?_)
                               all_goals (have hw := Q7p hall h2 h3 (by intro x hx; first | (rw [List.getElem?_eq_none (by omega)] at hx; cases hx) | (obtain rfl : c2 = x := Option.some.inj (hc2.symm.trans hx); exact hq)))
                               all_goals (refine Q2 ?_; refine Q3 ?_; refine zm ?_; refine zm ?_; refine zm ?_; refine Q1f rfl (l' := i) (h' := i2) ⟨_, rfl⟩ ⟨_, rfl⟩ (by omega) (by omega) ?_; rw [Q2K hc9 h2 hw.1])
                               all_goals (refine zR1 (c := longof_c hT (by rw [List.length_cons]; omega) hS) (h := ?_); rintro v1 w1 ⟨⟨n, hn, rfl⟩ | ⟨hn, rfl⟩, hS⟩)
                               all_goals (refine zm ?_; refine Q1M rfl rfl ?_; refine Q1M rfl rfl ?_; refine zm ?_; refine zm ?_; refine zn ?_; refine Q2 ?_; refine Q2 ?_; refine Q3 ?_; refine zm ?_; refine s_not rfl ?_; refine zn ?_)
                               all_goals
                                 first
                                 | (refine Qa rfl ?_ -- QG c8
                                    all_goals (refine Q2 ?_; refine Q3 ?_; refine zm ?_; refine zR2 (c := rF_c hS) (h := ?_); rintro v1 w1 ⟨rfl, hS⟩; refine zm ?_; refine zsn hS ?_; intro w1 hS; have hS := hS.ns; refine zn ?_; refine zr ?_; refine Q2B vw vw (Qh (n := 2) (by kernel_rfl) (by kernel_rfl) (hS.blkAt fd) (by rfl) (by rfl)) ?_)
                                    all_goals ((first | exact ⟨_, rfl, .inr ⟨2, 40000, QR (by omega), rfl, hS.sp⟩⟩ | exact ⟨_, rfl, .inl ⟨out, c2, vb, by rw [hd, Q2M (by omega)], hle2, rfl, hk2, hS.sp⟩⟩ | exact ⟨_, rfl, .inr ⟨8, i, by rw [hd, show k = k - 1 + 1 by omega, QS (by omega) (hnum.trans (Q12 hn))], rfl, hS.sp⟩⟩)))
                                 | (refine Qb rfl ?_ -- QG c8
                                    all_goals refine zsk ?_)
                               all_goals (have hd9 : tokR.at cx [.int .i64 (i : Int), .string ⟨(c :: (src.drop (i + 1)).takeWhile Qi).toArray⟩, .bool true, .int .i64 n] (⟨i, c :: (src.drop (i + 1)).takeWhile Qi, some n⟩ : Tok) := rfl; refine Q3 ?_; refine zm ?_; refine zm ?_; refine zm ?_; refine zm ?_; refine zm ?_; refine Q1f rfl (l' := i) (h' := i2) ⟨_, rfl⟩ ⟨_, rfl⟩ (by omega) (by omega) ?_; rw [Q2K hc9 h2 hw.1]; refine zm ?_; refine zb4 [_, _, _, _] ?_; refine zB1 hS [_, _, _, _] ?_; intro b1 w1 hS; refine za Q6r u_T28 hS ?_; intro vp4 w4 css4 hls4 hv4 hS; have hS := hS.ns; refine zm ?_; refine zn ?_)
                               all_goals (first | (exact ⟨_, none, i2, _, _, zh, zh, (by rw [hdc, QK hq0]), hw.2, by assumption, by assumption, hS.sp⟩) | (exact ⟨[c], none, i + 1, _, _, zh, zh, (by rw [hdc, Q2I (Q7 hq0) (Q38 hq1).1 (Q38 hq1).2 hq1]), rfl, by assumption, by assumption, hS.sp⟩) | (exact ⟨[45, 62], none, i + 2, _, _, zh, zh, (by rw [hdc, hdd, eq45 (c := c) (by omega), UInt8.toNat_inj.1 (show d.toNat = (62 : UInt8).toNat by show d.toNat = 62; omega), Q2f]), rfl, by assumption, by assumption, hS.sp⟩) | (exact ⟨_, some n, i2, _, _, zh, zh, (by rw [hnum, Q1i hn]), (by rw [List.length_cons]; omega), by assumption, by assumption, hS.sp⟩)))))
                  | (refine Qa rfl ?_ -- QG c5
                     all_goals (refine Q2 ?_; refine Q3 ?_; refine zm ?_; refine zad ?_; refine zm ?_; refine zn ?_; have hd9 : tokR.at cx [.int .i64 (i : Int), .string ⟨([45, 62] : List UInt8).toArray⟩, .bool false, .int .i64 0] (⟨i, [45, 62], none⟩ : Tok) := rfl; refine Q3 ?_; refine zm ?_; refine zm ?_; refine zm ?_; refine zm ?_; refine zm ?_; refine Q1f rfl (l' := i) (h' := i + 2) ⟨_, rfl⟩ ⟨_, rfl⟩ (by omega) (by omega) ?_; rw [Q2K hc9 (by omega) (Q2K hd8 (by omega) (by rw [List.drop_of_length_le (by rw [List.length_take]; omega)])), eq45 (c := c) (by omega), UInt8.toNat_inj.1 (show d.toNat = (62 : UInt8).toNat by show d.toNat = 62; omega)]; refine zb2 [_, _, _, _] ?_; refine zB1 hS [_, _, _, _] ?_; intro b1 w1 hS; refine za Q6r u_T28 hS ?_; intro vp3 w3 css3 hls3 hv3 hS; have hS := hS.ns; refine zm ?_; refine zn ?_)
                     all_goals (first | (exact ⟨_, none, i2, _, _, zh, zh, (by rw [hdc, QK hq0]), hw.2, by assumption, by assumption, hS.sp⟩) | (exact ⟨[c], none, i + 1, _, _, zh, zh, (by rw [hdc, Q2I (Q7 hq0) (Q38 hq1).1 (Q38 hq1).2 hq1]), rfl, by assumption, by assumption, hS.sp⟩) | (exact ⟨[45, 62], none, i + 2, _, _, zh, zh, (by rw [hdc, hdd, eq45 (c := c) (by omega), UInt8.toNat_inj.1 (show d.toNat = (62 : UInt8).toNat by show d.toNat = 62; omega), Q2f]), rfl, by assumption, by assumption, hS.sp⟩))))
             | (refine Qa rfl ?_ -- QG c4
                all_goals (refine Q2 ?_; refine Q3 ?_; refine zm ?_; refine zad ?_; refine zm ?_; refine zn ?_; have hd9 : tokR.at cx [.int .i64 (i : Int), .string ⟨([c] : List UInt8).toArray⟩, .bool false, .int .i64 0] (⟨i, [c], none⟩ : Tok) := rfl; refine Q3 ?_; refine zm ?_; refine zm ?_; refine zm ?_; refine zm ?_; refine zm ?_; refine Q1f rfl (l' := i) (h' := i + 1) ⟨_, rfl⟩ ⟨_, rfl⟩ (by omega) (by omega) ?_; rw [Q2K hc9 (by omega) (by rw [List.drop_of_length_le (by rw [List.length_take]; omega)])]; refine zb2 [_, _, _, _] ?_; refine zB1 hS [_, _, _, _] ?_; intro b1 w1 hS; refine za Q6r u_T28 hS ?_; intro vp2 w2 css2 hls2 hv2 hS; have hS := hS.ns; refine zm ?_; refine zn ?_)
                all_goals (first | (exact ⟨_, none, i2, _, _, zh, zh, (by rw [hdc, QK hq0]), hw.2, by assumption, by assumption, hS.sp⟩) | (exact ⟨[c], none, i + 1, _, _, zh, zh, (by rw [hdc, Q2I (Q7 hq0) (Q38 hq1).1 (Q38 hq1).2 hq1]), rfl, by assumption, by assumption, hS.sp⟩))))
        | (refine Qa rfl ?_ -- QG c2
           all_goals (refine Q2 ?_; refine Ql ?_)
           refine zoL hS [0, 3, 4, 6] (fun A LL ρ' w' => ∃ (i2 : Nat), Has ρ' A ∧ Has ρ' [(5, .int .i64 i2)] ∧ (i ≤ i2) ∧ (i2 ≤ src.length) ∧ (∀ x ∈ (src.drop i).take (i2 - i), QO x = true) ∧ St cx w' (LL)) (fun ρ' _ => (src.length - iv (ρ' 5)).toNat) ?_ ?_
           · exact ⟨i, zh, zh, (by omega), (by omega), run_0, hS.sp⟩
           rintro ρ w1 ⟨i2, hA, hρ, h2, h3, hall, hS⟩; obtain ⟨ρ, rfl⟩ := env2 hA hρ
           unfold Q5o
           all_goals (refine Q2 ?_; refine Q2 ?_; refine Q3 ?_; refine zm ?_; refine zm ?_; refine Qq rfl ?_)
           all_goals (first | (refine Q4V ?_) | (refine Q4W ?_) | (refine Q2y rfl rfl (fun hc => ?_) (fun hc => ?_)))
           all_goals (refine zm ?_; (first | refine s_gn rfl rfl ?_ | (refine s_gy rfl ?_; refine zm ?_)); (first | refine s_gn rfl rfl ?_ | (refine s_gy rfl ?_; refine zm ?_)); (first | refine s_gn rfl rfl ?_ | (refine s_gy rfl ?_; obtain ⟨c2, hc2⟩ : ∃ x, src[i2]? = some x := ⟨_, List.getElem?_eq_getElem (by omega)⟩; refine Qj rfl rfl hc2 ?_)))
           all_goals (first | refine s_gn rfl rfl ?_ | (refine s_gy rfl ?_; refine zR1 (c := Q56 hS) (h := ?_); rintro v1 w1 ⟨rfl, hS⟩; cases hq : QO c2))
           all_goals ((first | (refine zpt ?_) | (refine zpf ?_)); refine zn ?_)
           all_goals
             first
             | (refine Qa rfl ?_ -- QG c3
                all_goals (refine zsk ?_; refine Ql ?_; refine Q3 ?_; refine zm ?_; refine zad ?_; refine zm ?_; refine zn ?_)
                all_goals (exact ⟨⟨i2 + 1, zh, zh, (by omega), (by omega), Q6l hall h2 hc2 hq, hS.sp⟩, Q2b (by omega)⟩))
             | (refine Qb rfl ?_ -- QG c3
                all_goals (refine zex ?_)
                all_goals (have hw := Q7p hall h2 h3 (by intro x hx; first | (rw [List.getElem?_eq_none (by omega)] at hx; cases hx) | (obtain rfl : c2 = x := Option.some.inj (hc2.symm.trans hx); exact hq)))
                all_goals (have hd9 : tokR.at cx [.int .i64 (i : Int), .string ⟨((src.drop i).takeWhile QO).toArray⟩, .bool false, .int .i64 0] (⟨i, (src.drop i).takeWhile QO, none⟩ : Tok) := rfl; refine Q3 ?_; refine zm ?_; refine zm ?_; refine zm ?_; refine zm ?_; refine zm ?_; refine Q1f rfl (l' := i) (h' := i2) ⟨_, rfl⟩ ⟨_, rfl⟩ (by omega) (by omega) ?_; rw [hw.1]; refine zb2 [_, _, _, _] ?_; refine zB1 hS [_, _, _, _] ?_; intro b1 w1 hS; refine za Q6r u_T28 hS ?_; intro vp1 w1 css1 hls1 hv1 hS; have hS := hS.ns; refine zm ?_; refine zn ?_)
                all_goals (exact ⟨_, none, i2, _, _, zh, zh, (by rw [hdc, QK hq0]), hw.2, by assumption, by assumption, hS.sp⟩)))
    rintro ρ w1 ⟨t, m, at2, vb2, cb2, hA, hρ, ht, ha2, hlb2, hvb2, hS⟩; obtain ⟨ρ, rfl⟩ := env2 hA hρ
    all_goals (have hf9 := Q6e (by omega) ht; refine Q3 ?_; refine zm ?_; refine zm ?_; refine zR2 (c := Q57 (at0 := at2) (by omega) (by omega) hS) (h := ?_); rintro v1 w1 ⟨at3, rfl, h11, h12, h13, hS⟩; refine zm ?_; refine zn ?_; exact ⟨⟨k - 1, at3, out ++ [⟨i, t, m⟩], _, _, zh, zh, (by omega), (by omega), Q54 (by rw [show k - 1 + 1 = k by omega]; exact hd) (by omega) ht (by rw [ha2]; exact h13), (by rw [List.length_append]; show out.length + 1 ≤ at3; omega), by assumption, by assumption, hS.sp⟩, (by show ((src.length : Int) - (at3 : Int)).toNat < ((src.length : Int) - (i : Int)).toNat; omega)⟩)
  · skip
    all_goals (refine zex ?_; obtain ⟨c2, hle2, hS2, hk2⟩ := St.freezeL (r := tokR) (hS.out (r := sl 33 4 vb cb) fd) hlb rfl (by omega); clear hS; have hS := hS2; simp only [List.eraseIdx_cons_zero, List.eraseIdx_cons_succ] at hS; refine Q2 ?_; refine Q3 ?_; refine zm ?_; refine zb0 [_, _] ?_; refine zm ?_; refine zsn hS ?_; intro w1 hS; have hS := hS.ns; refine zn ?_; refine zr ?_; refine Q2B vw vw (Qh (n := 2) (by kernel_rfl) (by kernel_rfl) (hS.blkAt fd) (by rfl) (by rfl)) ?_; (first | exact ⟨_, rfl, .inr ⟨2, 40000, QR (by omega), rfl, hS.sp⟩⟩ | exact ⟨_, rfl, .inl ⟨out, c2, vb, by rw [hd, Q2M (by omega)], hle2, rfl, hk2, hS.sp⟩⟩))
end Go.Proofs.YtjecflbbcnocdaaDoor
namespace Go.Lir
def begunS : List UInt8 := [106, 117, 109, 112, 32, 45, 49, 32, 60, 62, 59, 35, 32, 120]
/-- What a scan gives: the tokens, the fault. -/
def Q21 (src : List UInt8) : List Tok × Flt := match scan src with
  | .ok l => (l, (0, 0))
  | .error f => ([], f)
theorem Q6R : Q21 begunS = ([⟨0, [106, 117, 109, 112], none⟩, ⟨5, [45, 49], some (-1)⟩, ⟨8, [60], none⟩, ⟨9, [62], none⟩, ⟨10, [59], none⟩], (0, 0)) := by kernel_rfl
end Go.Lir
namespace Go.Lir
section
variable {P : Program} {l : List GO} {Q : QT} {ρ : Env} {w : World}
/-- A field that holds an integer. -/
def IntF (P : Program) (f : Field) (i : Nat) : Prop := f.name ≠ "_" ∧ (∃ k, P.underlying f.type = some (.int k)) ∧ f.offset = i ∧ Q10 P f.type = true
theorem Q25 (k : Nat) {T : TypeId} {q : IntKind} {a b : Int} {kk : IntKind} {w0 : World} (ht : P.underlying T = some (.int q)) : (Op.equalIn (k + 1) T (.int kk a) (.int kk b)).run P w0 = .ok (a == b) w0 := by
  simp only [Op.equalIn, Sem.run_bind, Q1 P T _ w0 ht, Result.andThen_ok]
  simp [Sem.run_pure]
def intFB (P : Program) (f : Field) (i : Nat) : Bool := f.name != "_" && (match P.underlying f.type with | some (.int _) => true | _ => false) && f.offset == i && Q10 P f.type
theorem Q7B {f : Field} {i : Nat} (h : intFB P f i = true) : IntF P f i := by
  unfold intFB at h
  simp only [Bool.and_eq_true, bne_iff_ne, ne_eq, beq_iff_eq] at h
  obtain ⟨⟨⟨h1, h2⟩, h3⟩, h4⟩ := h
  refine ⟨h1, ?_, h3, h4⟩
  split at h2
  · rename_i k hk; exact ⟨k, hk⟩
  · cases h2
end
end Go.Lir
namespace Go.Lir
section
variable {P : Program} {l : List GO} {Q : QT} {ρ : Env} {w : World}
theorem run_eq2 (k : Nat) {T : TypeId} {f0 f1 : Field} {a0 a1 b0 b1 : Int} {w0 : World} (ht : P.underlying T = some (.struct #[f0, f1])) (hh : P.stoodInHeld T = false)
    (h0 : IntF P f0 0) (h1 : IntF P f1 1) :
    (Op.equalIn (k + 2) T (.agg ⟨[.int .i64 a0, .int .i64 a1]⟩) (.agg ⟨[.int .i64 b0, .int .i64 b1]⟩)).run P w0 = .ok (a0 == b0 && a1 == b1) w0 := by
  obtain ⟨n0, ⟨q0, u0⟩, o0, s0⟩ := h0
  obtain ⟨n1, ⟨q1, u1⟩, o1, s1⟩ := h1
  have hp : ∀ (T : TypeId) (cs : Array Value) (off : Nat) (v : Value) (w : World), Q10 P T = true → cs[off]? = some v → (part T cs off).run P w = .ok v w := fun T cs off v w h hv => Q6k P T cs off v w h hv
  unfold Op.equalIn
  simp only [Sem.run_bind, Q1 P T _ w0 ht, Result.andThen_ok]
  simp [hh, n0, n1, o0, o1, Q25 _ u0, Q25 _ u1, hp _ _ _ _ _ s0, hp _ _ _ _ _ s1]
  by_cases e0 : a0 = b0 <;> by_cases e1 : a1 = b1 <;> simp [e0, e1]
def Int2 (P : Program) (T : TypeId) : Prop := ∃ f0 f1 : Field, P.underlying T = some (.struct #[f0, f1]) ∧ P.stoodInHeld T = false ∧ P.eqGuardType P.depth T = false ∧ IntF P f0 0 ∧ IntF P f1 1
def int2B (P : Program) (T : TypeId) : Bool := match P.underlying T with
  | some (.struct fs) => match fs.toList with
    | [f0, f1] => !P.stoodInHeld T && !P.eqGuardType P.depth T && intFB P f0 0 && intFB P f1 1
    | _ => false
  | _ => false
theorem int2_of {T : TypeId} (h : int2B P T = true) : Int2 P T := by
  unfold int2B at h
  split at h
  · rename_i fs hu
    split at h
    · rename_i f0 f1 hf
      simp only [Bool.and_eq_true, Bool.not_eq_true'] at h
      obtain ⟨⟨⟨h1, h2⟩, h3⟩, h4⟩ := h
      have : fs = #[f0, f1] := by apply Array.ext'; exact hf
      subst this
      exact ⟨f0, f1, hu, h1, h2, Q7B h3, Q7B h4⟩
    · cases h
  · cases h
theorem pair_dec (a0 a1 b0 b1 : Int) : (a0 == b0 && a1 == b1) = decide ((a0, a1) = (b0, b1)) := by
  rw [Bool.eq_iff_iff]; simp
theorem s_ne2 {d : Nat} {T : TypeId} {x y : Operand} {a b : Int × Int} (hT : Int2 P T) (hx : ρ.ev x = .agg ⟨[.int .i64 a.1, .int .i64 a.2]⟩) (hy : ρ.ev y = .agg ⟨[.int .i64 b.1, .int .i64 b.2]⟩)
    (h : Q0 P l Q (upd ρ d (.bool (!decide (a = b)))) w) : Q0 P (⟨none, .bin d .neq T x y⟩ :: l) Q ρ w := by
  obtain ⟨f0, f1, ht, hh, hg, h0, h1⟩ := hT
  exact ⟨.bool (!decide (a = b)), fun w0 => by rw [hx, hy]; simp only [Sem.run_bind, run_eqGuard_agg w0 .neq T x y _ _ hg, Result.andThen_ok, run_neq_struct, run_eq2 9998 ht hh h0 h1, pair_dec], h⟩
theorem s_ne2_f {d : Nat} {T : TypeId} {x y : Operand} {a : Int × Int} (hT : Int2 P T) (hx : ρ.ev x = .agg ⟨[.int .i64 a.1, .int .i64 a.2]⟩) (hy : ρ.ev y = .agg ⟨[.int .i64 a.1, .int .i64 a.2]⟩)
    (h : Q0 P l Q (upd ρ d (.bool false)) w) : Q0 P (⟨none, .bin d .neq T x y⟩ :: l) Q ρ w := s_ne2 hT hx hy (by rw [decide_eq_true rfl]; exact h)
end
end Go.Lir
namespace Go.Proofs.YtjecflbbcnocdaaDoor
open Go.Lir
set_option maxHeartbeats 1000000
attribute [local irreducible] LC.wp Q0 Qv QJ retQ Q2z LO.wp Qn Calls
set_option linter.unusedSimpArgs false
set_option linter.unusedVariables false
attribute [local irreducible] skip Q22 scan tok1 Q21 backT
variable {cx : Cx} {w : World} {L : List Res}
theorem flt_int2 : Int2 Tryd.prog 25 := int2_of (by kernel_rfl)
theorem ScanS.pair {src : List UInt8} {u : Value} {w' : World} {l : List Tok} {f : Flt} (hr : Q21 src = (l, f)) (h : ScanS cx L src u w') : ∃ c' v, cx.Le c' ∧ u = .tuple #[v, .agg ⟨[.int .i64 f.1, .int .i64 f.2]⟩] ∧ tokR.sl c' v l ∧ St c' w' L := by
  unfold Q21 at hr
  rcases h with ⟨l', c', v, h1, h2, h3, h4, h5⟩ | ⟨e, n, h1, h2, h3⟩
  · rw [h1] at hr; cases hr; exact ⟨c', v, h2, h3, h4, h5⟩
  · rw [h1] at hr; cases hr; exact ⟨cx, _, St.refl h3, h2, Rep.SR.nil _ _ _, h3⟩
theorem scan_p {src : List UInt8} {l : List Tok} {f : Flt} (hr : Q21 src = (l, f)) (hT : NumK cx) (hl : src.length ≤ 100000) (hS : St cx w L) :
    Rets Tryd.prog Qx [.string ⟨src.toArray⟩] w fun u w' => ∃ c' a n, cx.Le c' ∧ u = .tuple #[.slice a l.length n, .agg ⟨[.int .i64 f.1, .int .i64 f.2]⟩] ∧ tokR.sl c' (.slice a l.length n) l ∧ St c' w' L :=
  Rets.mono (scan_c hT hl hS) fun _ _ h => by
    obtain ⟨c', v, h1, h2, h3, h4⟩ := h.pair hr
    obtain ⟨a, n, rfl⟩ := Rep.SR.shape h3
    exact ⟨c', a, n, h1, h2, h3, h4⟩
theorem rscan_p {src : List UInt8} {l : List Tok} {f : Flt} (hr : Q21 src = (l, f)) (hT : NumK cx) (hl : src.length ≤ 100000) (hS : St cx w L) :
    Rets Tryd.prog QG [.string ⟨src.toArray⟩] w fun u w' => ∃ c' a n, cx.Le c' ∧ u = .tuple #[.slice a l.length n, .agg ⟨[.int .i64 f.1, .int .i64 f.2]⟩] ∧ tokR.sl c' (.slice a l.length n) l ∧ St c' w' L :=
  Rets.mono (rscan_c hT hl hS) fun _ _ h => by
    obtain ⟨c', v, h1, h2, h3, h4⟩ := h.pair hr
    obtain ⟨a, n, rfl⟩ := Rep.SR.shape h3
    exact ⟨c', a, n, h1, h2, h3, h4⟩
theorem scan_b (hT : NumK cx) (hS : St cx w L) : Rets Tryd.prog Qx [.string ⟨begunS.toArray⟩] w fun u w' => ∃ c' a n, cx.Le c' ∧ u = .tuple #[.slice a 5 n, .agg ⟨[.int .i64 0, .int .i64 0]⟩] ∧ tokR.sl c' (.slice a 5 n) [⟨0, [106, 117, 109, 112], none⟩, ⟨5, [45, 49], some (-1)⟩, ⟨8, [60], none⟩, ⟨9, [62], none⟩, ⟨10, [59], none⟩] ∧ St c' w' L :=
  scan_p Q6R hT (by decide) hS
theorem Q51 (hT : NumK cx) (hS : St cx w L) : Rets Tryd.prog Q2v [] w fun u w' => u = .bool true ∧ St cx w' L := by
  all_goals refine Q3h ?_
  all_goals (unfold Law_tokenBegun_lc; refine Q2 ?_; refine Q3 ?_; refine zm ?_; refine zn ?_; refine Q2 ?_; refine Q3 ?_; refine zR1 (c := scan_b hT hS) (h := ?_); rintro v1 w1 ⟨c1, a1, n1, hle1, rfl, hk1, hS⟩; refine zm ?_; refine Q1M rfl rfl ?_; refine Q1M rfl rfl ?_; refine QP hS ?_; intro p2 w1 hS; refine zm ?_; refine zsn hS ?_; intro w1 hS; have hS := hS.ns; refine zn ?_; refine Q2 ?_; refine Q3 ?_; refine Qd rfl ?_; refine zl hS ?_; refine Q3P rfl rfl rfl ?_; refine zm ?_; (first | refine s_gn rfl rfl ?_ | (refine s_gy rfl ?_; refine zm ?_)); (first | refine s_gn rfl rfl ?_ | (refine s_gy rfl ?_; refine zL ?_)); (first | refine s_gn rfl rfl ?_ | (refine s_gy rfl ?_; refine Q3P rfl rfl rfl ?_)); refine zpt ?_; refine zm ?_; (first | refine s_gn rfl rfl ?_ | (refine s_gy rfl ?_; refine zm ?_)))
  all_goals (first | refine s_gn rfl rfl ?_ | (refine s_gy rfl ?_; refine QU (m := 1) rfl rfl hk1 rfl (by decide) ?_; intro b1 o1 cs1 x1 hat1 hx1 he1; cases hx1; obtain rfl := Qz he1))
  all_goals ((first | refine s_gn rfl rfl ?_ | (refine s_gy rfl ?_; (first | refine Qd rfl ?_ | refine Q3w rfl ?_))); (first | refine s_gn rfl rfl ?_ | (refine s_gy rfl ?_; (first | (refine zl hS ?_) | (refine zlk hS ?_) | (refine zlj hS ?_)))); refine zpt ?_; refine zm ?_; (first | refine s_gn rfl rfl ?_ | (refine s_gy rfl ?_; refine zm ?_)))
  all_goals (first | refine s_gn rfl rfl ?_ | (refine s_gy rfl ?_; refine QU (m := 1) rfl rfl hk1 rfl (by decide) ?_; intro b2 o2 cs2 x2 hat2 hx2 he2; cases hx2; obtain rfl := Qz he2))
  all_goals ((first | refine s_gn rfl rfl ?_ | (refine s_gy rfl ?_; (first | refine Qd rfl ?_ | refine Q3w rfl ?_))); (first | refine s_gn rfl rfl ?_ | (refine s_gy rfl ?_; (first | (refine zl hS ?_) | (refine zlk hS ?_) | (refine zlj hS ?_)))); (first | refine s_gn rfl rfl ?_ | (refine s_gy rfl ?_; refine Q3P rfl rfl rfl ?_)); refine zpt ?_; refine zm ?_; (first | refine s_gn rfl rfl ?_ | (refine s_gy rfl ?_; refine zm ?_)))
  all_goals (first | refine s_gn rfl rfl ?_ | (refine s_gy rfl ?_; refine QU (m := 4) rfl rfl hk1 rfl (by decide) ?_; intro b3 o3 cs3 x3 hat3 hx3 he3; cases hx3; obtain rfl := Qz he3))
  all_goals ((first | refine s_gn rfl rfl ?_ | (refine s_gy rfl ?_; (first | refine Qd rfl ?_ | refine Q3w rfl ?_))); (first | refine s_gn rfl rfl ?_ | (refine s_gy rfl ?_; (first | (refine zl hS ?_) | (refine zlk hS ?_)))); (first | refine s_gn rfl rfl ?_ | (refine s_gy rfl ?_; refine Q3P rfl rfl rfl ?_)); refine zpt ?_; refine zm ?_; refine zn ?_; refine zr ?_; refine zf ?_; exact ⟨_, rfl, rfl, St.weak hS.sp hle1⟩)
end Go.Proofs.YtjecflbbcnocdaaDoor
namespace Go.Proofs.YtjecflbbcnocdaaDoor
open Go.Lir
set_option maxHeartbeats 1000000
attribute [local irreducible] LC.wp Q0 Qv QJ retQ Q2z LO.wp Qn Calls
set_option linter.unusedSimpArgs false
set_option linter.unusedVariables false
attribute [local irreducible] skip Q22 scan tok1 Q21 backT
variable {cx : Cx} {w : World} {L : List Res}
theorem Q50 (src : List UInt8) (hsz : src.length ≤ 9223372036854775807) (hT : NumK cx) (hS : St cx w L) : Rets Tryd.prog Qc [.string ⟨src.toArray⟩] w fun u w' => u = .bool true ∧ St cx w' L := by
  obtain ⟨l, f, hr⟩ : ∃ l f, Q21 src = (l, f) := ⟨_, _, rfl⟩
  have hle := St.refl hS
  all_goals refine Q3s ?_
  all_goals (unfold Law_TokenScans_lc; refine Q2 ?_; refine Q3 ?_; refine zm ?_; refine zn ?_; refine Q2 ?_; refine Q2 ?_; refine Q3 ?_; refine zR0 (c := Q51 hT hS) (h := ?_); rintro v1 w1 ⟨rfl, hS⟩; refine s_not rfl ?_; refine zn ?_)
  all_goals
    first
    | (refine Qa rfl ?_ -- Qc c0
       all_goals (refine Q2 ?_; refine Q3 ?_; refine zm ?_; refine zn ?_; refine zr ?_; refine zf ?_)
       all_goals (exact ⟨_, rfl, rfl, hS.sp⟩))
    | (refine Qb rfl ?_ -- Qc c0
       all_goals refine zsk ?_)
  all_goals (refine Q2 ?_; refine Q2 ?_; refine Q3 ?_; refine zm ?_; refine Qq rfl ?_)
  all_goals (first | (refine zgtrt ?_) | (refine zgtrf ?_) | (refine Q5x rfl rfl (fun hc => ?_) (fun hc => ?_)))
  all_goals (refine zn ?_)
  all_goals
    first
    | (refine Qa rfl ?_ -- Qc c1
       all_goals (refine Q2 ?_; refine Q3 ?_; refine zm ?_; refine zn ?_; refine zr ?_; refine zf ?_)
       all_goals (exact ⟨_, rfl, rfl, hS.sp⟩))
    | (refine Qb rfl ?_ -- Qc c1
       all_goals refine zsk ?_)
  all_goals (refine Q2 ?_; refine Q3 ?_; refine zm ?_; refine zR1 (c := scan_p hr hT (by omega) hS) (h := ?_); rintro v1 w1 ⟨c1, a1, n1, hle1, rfl, hk1, hS⟩; have hT1 := hT.up hle1; refine zm ?_; refine Q1M rfl rfl ?_; refine Q1M rfl rfl ?_; refine QP hS ?_; intro p4 w1 hS; refine zm ?_; refine zsn hS ?_; intro w1 hS; have hS := hS.ns; refine zn ?_; refine Q2 ?_; refine Q3 ?_; refine zm ?_; refine zR1 (c := rscan_p hr hT1 (by omega) hS) (h := ?_); rintro v1 w1 ⟨c2, a2, n2, hle2, rfl, hk2, hS⟩; have hk1 := Rep.SR.up hk1 hle2; have hle := hle1.trans hle2; have hlen := hk2.len; refine zm ?_; refine Q1M rfl rfl ?_; refine Q1M rfl rfl ?_; refine QP hS ?_; intro p6 w1 hS; refine zm ?_; refine zsn hS ?_; intro w1 hS; have hS := hS.ns; refine zn ?_; refine Q2 ?_; refine Q2 ?_; refine Q3 ?_; refine zv hS ?_; refine zv hS ?_; refine s_ne2_f (a := f) flt_int2 rfl rfl ?_; refine zm ?_; (first | refine s_gn rfl rfl ?_ | (refine s_gy rfl ?_; refine zm ?_)); (first | refine s_gn rfl rfl ?_ | (refine s_gy rfl ?_; refine zL ?_)); (first | refine s_gn rfl rfl ?_ | (refine s_gy rfl ?_; refine zm ?_)); (first | refine s_gn rfl rfl ?_ | (refine s_gy rfl ?_; refine zL ?_)))
  all_goals (first | refine s_gn rfl rfl ?_ | (refine s_gy rfl ?_; (first | (refine Q6w ?_) | (refine Q6x ?_))))
  all_goals ((first | (refine zpt ?_) | (refine zpf ?_)); refine zn ?_)
  all_goals
    first
    | (refine Qa rfl ?_ -- Qc c2
       all_goals (refine Q2 ?_; refine Q3 ?_; refine zm ?_; refine zn ?_; refine zr ?_; refine zf ?_)
       all_goals (exact ⟨_, rfl, rfl, hS.sp⟩))
    | (refine Qb rfl ?_ -- Qc c2
       all_goals refine zsk ?_)
  all_goals (refine Q2 ?_; refine Q2 ?_; refine Q3 ?_; refine zm ?_; refine zn ?_; refine Ql ?_)
  refine zo [3, 5] (fun A ρ' w' => ∃ (j : Nat), Has ρ' A ∧ Has ρ' [(7, .int .i64 j)] ∧ (j ≤ l.length) ∧ St c2 w' (blk p6 25 [.int .i64 f.1, .int .i64 f.2] :: L)) (fun ρ' _ => (l.length - iv (ρ' 7)).toNat) ?_ ?_
  · exact ⟨0, zh, zh, (by omega), hS.sp⟩
  rintro ρ w1 ⟨j, hA, hρ, hj, hS⟩; obtain ⟨ρ, rfl⟩ := env2 hA hρ
  unfold QZ
  all_goals (refine Q2 ?_; refine Q2 ?_; refine Q3 ?_; refine zm ?_; refine zm ?_; refine zL ?_; refine Q23 rfl rfl ?_; refine zn ?_)
  refine Q2N rfl (fun hc => ?_) (fun hc => ?_)
  · skip
    all_goals (refine zsk ?_; refine Q2 ?_; refine Ql ?_; refine Q2 ?_; refine zD [(0, none), (1, none), (2, none), (3, none), (4, none), (5, none), (6, none), (7, none), (8, none), (9, none), (10, none), (11, none), (12, none), (13, none), (14, none), (15, none), (16, none), (17, none), (18, none), (19, none), (20, none), (21, none), (22, none), (23, none), (24, none), (25, none), (26, none), (27, none), (28, none), (29, none), (30, none), (31, none), (32, none), (33, none), (34, none), (35, none), (36, none), (37, none), (38, none), (39, none), (40, none), (41, none), (42, none), (43, none), (44, none), (45, none), (46, none), (47, none), (48, none), (49, some none)] ?_; have hS := hS.drew; refine zm ?_; refine zm ?_; refine zi ?_; intro b1 o1 cs1 x1 hat1 hx1 he1; (first | (obtain ⟨vp1, vr1, vb1, rfl, hp1, hr1, hb1⟩ := Q7E he1) | (obtain rfl := Qz he1)); (first | refine Qd rfl ?_ | refine Q3w rfl ?_); (first | (refine zl hS ?_) | (refine zlk hS ?_)); refine zm ?_; refine zm ?_; refine QU rfl rfl hk2 rfl (by omega) ?_; intro b7 o7 cs7 x7 hat7 hx7 he7; obtain rfl : x1 = x7 := Option.some.inj (hx1.symm.trans hx7); obtain rfl := Qz he7; (first | refine Qd rfl ?_ | refine Q3w rfl ?_); (first | (refine zl hS ?_) | (refine zlk hS ?_)))
    all_goals (first | (refine Q6w ?_) | (refine Q6x ?_))
    all_goals (refine zm ?_; (first | refine s_gn rfl rfl ?_ | (refine s_gy rfl ?_; refine zm ?_)); (first | refine s_gn rfl rfl ?_ | (refine s_gy rfl ?_; refine zm ?_)); (first | refine s_gn rfl rfl ?_ | (refine s_gy rfl ?_; refine QU rfl rfl hk1 rfl (by omega) ?_; intro b14 o14 cs14 x14 hat14 hx14 he14; obtain rfl : x1 = x14 := Option.some.inj (hx1.symm.trans hx14); obtain rfl := Qz he14)); (first | refine s_gn rfl rfl ?_ | (refine s_gy rfl ?_; (first | refine Qd rfl ?_ | refine Q3w rfl ?_))); (first | refine s_gn rfl rfl ?_ | (refine s_gy rfl ?_; (first | (refine zl hS ?_) | (refine zlk hS ?_) | (refine zlj hS ?_)))); (first | refine s_gn rfl rfl ?_ | (refine s_gy rfl ?_; refine zm ?_)); (first | refine s_gn rfl rfl ?_ | (refine s_gy rfl ?_; refine zm ?_)); (first | refine s_gn rfl rfl ?_ | (refine s_gy rfl ?_; refine QU rfl rfl hk2 rfl (by omega) ?_; intro b19 o19 cs19 x19 hat19 hx19 he19; obtain rfl : x1 = x19 := Option.some.inj (hx1.symm.trans hx19); obtain rfl := Qz he19)); (first | refine s_gn rfl rfl ?_ | (refine s_gy rfl ?_; (first | refine Qd rfl ?_ | refine Q3w rfl ?_))); (first | refine s_gn rfl rfl ?_ | (refine s_gy rfl ?_; (first | (refine zl hS ?_) | (refine zlk hS ?_) | (refine zlj hS ?_)))))
    all_goals (first | refine s_gn rfl rfl ?_ | (refine s_gy rfl ?_; refine Q5u rfl rfl ?_; rw [decide_eq_false (p := x1.text ≠ x1.text) (fun h => h rfl)]))
    all_goals ((first | (refine zpt ?_) | (refine zpf ?_)); refine zm ?_; (first | refine s_gn rfl rfl ?_ | (refine s_gy rfl ?_; refine zm ?_)); (first | refine s_gn rfl rfl ?_ | (refine s_gy rfl ?_; refine zm ?_)); (first | refine s_gn rfl rfl ?_ | (refine s_gy rfl ?_; refine QU rfl rfl hk1 rfl (by omega) ?_; intro b27 o27 cs27 x27 hat27 hx27 he27; obtain rfl : x1 = x27 := Option.some.inj (hx1.symm.trans hx27); obtain rfl := Qz he27)); (first | refine s_gn rfl rfl ?_ | (refine s_gy rfl ?_; (first | refine Qd rfl ?_ | refine Q3w rfl ?_))); (first | refine s_gn rfl rfl ?_ | (refine s_gy rfl ?_; (first | (refine zl hS ?_) | (refine zlk hS ?_) | (refine zlj hS ?_)))); (first | refine s_gn rfl rfl ?_ | (refine s_gy rfl ?_; refine zm ?_)); (first | refine s_gn rfl rfl ?_ | (refine s_gy rfl ?_; refine zm ?_)); (first | refine s_gn rfl rfl ?_ | (refine s_gy rfl ?_; refine QU rfl rfl hk2 rfl (by omega) ?_; intro b32 o32 cs32 x32 hat32 hx32 he32; obtain rfl : x1 = x32 := Option.some.inj (hx1.symm.trans hx32); obtain rfl := Qz he32)); (first | refine s_gn rfl rfl ?_ | (refine s_gy rfl ?_; (first | refine Qd rfl ?_ | refine Q3w rfl ?_))); (first | refine s_gn rfl rfl ?_ | (refine s_gy rfl ?_; (first | (refine zl hS ?_) | (refine zlk hS ?_) | (refine zlj hS ?_)))); (first | refine s_gn rfl rfl ?_ | (refine s_gy rfl ?_; refine s_bne_f (by kernel_rfl) rfl rfl rfl ?_)); (first | (refine zpt ?_) | (refine zpf ?_)))
    all_goals (refine zm ?_; (first | refine s_gn rfl rfl ?_ | (refine s_gy rfl ?_; refine zm ?_)); (first | refine s_gn rfl rfl ?_ | (refine s_gy rfl ?_; refine zm ?_)); (first | refine s_gn rfl rfl ?_ | (refine s_gy rfl ?_; refine QU rfl rfl hk1 rfl (by omega) ?_; intro b40 o40 cs40 x40 hat40 hx40 he40; obtain rfl : x1 = x40 := Option.some.inj (hx1.symm.trans hx40); obtain rfl := Qz he40)); (first | refine s_gn rfl rfl ?_ | (refine s_gy rfl ?_; (first | refine Qd rfl ?_ | refine Q3w rfl ?_))); (first | refine s_gn rfl rfl ?_ | (refine s_gy rfl ?_; (first | (refine zl hS ?_) | (refine zlk hS ?_) | (refine zlj hS ?_)))); (first | refine s_gn rfl rfl ?_ | (refine s_gy rfl ?_; refine zm ?_)); (first | refine s_gn rfl rfl ?_ | (refine s_gy rfl ?_; refine zm ?_)); (first | refine s_gn rfl rfl ?_ | (refine s_gy rfl ?_; refine QU rfl rfl hk2 rfl (by omega) ?_; intro b45 o45 cs45 x45 hat45 hx45 he45; obtain rfl : x1 = x45 := Option.some.inj (hx1.symm.trans hx45); obtain rfl := Qz he45)); (first | refine s_gn rfl rfl ?_ | (refine s_gy rfl ?_; (first | refine Qd rfl ?_ | refine Q3w rfl ?_))); (first | refine s_gn rfl rfl ?_ | (refine s_gy rfl ?_; (first | (refine zl hS ?_) | (refine zlk hS ?_) | (refine zlj hS ?_)))))
    all_goals (first | refine s_gn rfl rfl ?_ | (refine s_gy rfl ?_; (first | (refine Q6w ?_) | (refine Q6x ?_))))
    all_goals ((first | (refine zpt ?_) | (refine zpf ?_)); refine zn ?_)
    all_goals
      first
      | (refine Qa rfl ?_ -- Qc c4
         all_goals (refine Q2 ?_; refine Q3 ?_; refine zm ?_; refine zn ?_; refine zr ?_; refine zf ?_)
         all_goals (exact ⟨_, rfl, rfl, hS.sp⟩))
      | (refine Qb rfl ?_ -- Qc c4
         all_goals refine zsk ?_)
    all_goals (refine Q3 ?_; refine zm ?_; refine zad ?_; refine zm ?_; refine zn ?_; exact ⟨⟨j + 1, zh, zh, (by omega), hS.sp⟩, Q2b (by omega)⟩)
  · skip
    all_goals (refine zex ?_; refine Q2 ?_; refine Q3 ?_; refine zm ?_; refine zn ?_; refine zr ?_; refine zf ?_; (first | exact ⟨_, rfl, rfl, hS.sp⟩ | exact ⟨_, rfl, rfl, St.weak hS.sp hle⟩))
end Go.Proofs.YtjecflbbcnocdaaDoor
namespace Go.Proofs.YtjecflbbcnocdaaDoor
open Go.Lir
theorem tokenScans_rd {w : World} (hT : NumK (Cx.top w)) (s : ByteArray) (h : s.size ≤ maxLen) : Rets Tryd.prog Qc [.string s] w fun v w' => v = .bool true ∧ Fr NF w w' :=
  Rets.mono (Q50 (cx := Cx.top w) s.data.toList (by have h : s.data.size ≤ 2 ^ 63 - 1 := h; rw [Array.length_toList]; omega) hT (St.top w)) fun _ _ ⟨h, h2⟩ => ⟨h, h2.fr⟩
end Go.Proofs.YtjecflbbcnocdaaDoor
namespace Go.Proofs.YtjecflbbcnocdaaDoor
open Go.Lir
abbrev laid3 : List (String × DataW Unit) := [("math/bits.deBruijn32tab", Rows.laid_math_bits_deBruijn32tab), ("math/bits.deBruijn64tab", Rows.laid_math_bits_deBruijn64tab), ("internal/strconv.uint64pow10", Rows.laid_internal_strconv_uint64pow10), ("strconv.ErrRange", Rows.laid_strconv_ErrRange), ("strconv.ErrSyntax", Rows.laid_strconv_ErrSyntax)]
theorem door_met (os : Os) (args : Array Value) : laidMetH Tryd.prog laid3 ((World.doorLaid Tryd.prog 2000 os).forCall (fun _ _ => 0) ⟨#[], args, []⟩).memory :=
  laidMetH_of_parts3 (fuel := 8) (laidMet_of_run' 8 (by kernel_rfl) (by kernel_rfl)) (by kernel_rfl) (by kernel_rfl)
theorem pow_lit : (Rows.laid_internal_strconv_uint64pow10 : DataW Unit) = Lib.tabData .u64 Lib.pow10Tab := by kernel_rfl
theorem err_row (u : TypeId) (h : Tryd.prog.typeName? 3 u = some "*errors.errorString") : u = 156 :=
  typeName_ptr_named (nm := "errors.errorString") (by rw [show "*" ++ "errors.errorString" = "*errors.errorString" by decide]; kernel_rfl) (by kernel_rfl) (by decide) u (by rw [show "*" ++ "errors.errorString" = "*errors.errorString" by decide]; exact h)
theorem err_of {W : World} {n : String} {g : Nat} {text : List UInt8} {r : List (String × DataW Unit)} (hg : Tryd.prog.globalNamed n = some g) (ht : (Tryd.prog.globals[g]?).map (·.type) = some 77) (hlt : g < W.heap.size) (h : laidMet Tryd.prog ((n, .iface "*errors.errorString" (.ptr (.agg [.lit (.string text)]))) :: r) W) : ErrV (Cx.top W) g := by
  obtain ⟨a, s, hv, _⟩ := laid_sentinel h hg ht Tryd.underlying77 err_row Tryd.underlying156 Tryd.underlying158 rfl rfl Tryd.underlying9 (by kernel_rfl) (by kernel_rfl)
  refine ⟨hlt, fun w hw => ⟨.iface 156 (.pointer (some a)), ?_, .inr ⟨_, _, rfl⟩⟩⟩
  have hw2 : w.heap[g]? = W.heap[g]? := hw
  have h2 : w.var? Tryd.prog n = some #[.iface 156 (.pointer (some a))] := by
    unfold World.var? at hv ⊢
    rw [hg] at hv ⊢
    simp only [Option.bind_some] at hv ⊢
    rw [hw2]; exact hv
  exact World.var?_cell hg h2 0
theorem big_of {W : World} {n : String} {g : Nat} {x : DataW Unit} {r : List (String × DataW Unit)} (hg : Tryd.prog.globalNamed n = some g) (h : laidMet Tryd.prog ((n, x) :: r) W) : g < W.heap.size := by
  obtain ⟨ps, ⟨g0, t0, cs0, f0, p0, q0, hg0, ht0, hv0, hd0, _, e0⟩, _, hrows⟩ := h
  obtain rfl := Option.some.inj (hg.symm.trans hg0)
  rcases Nat.lt_or_ge g W.heap.size with h' | h'
  · exact h'
  · unfold World.var? at hv0
    rw [hg] at hv0
    simp only [Option.bind_some, Array.getElem?_eq_none h'] at hv0
    cases hv0
/-- What the numbers' texts need lies in what is only read. -/
theorem pow_of {W : World} (h : laidMetH Tryd.prog laid3 W) : NumK (Cx.top W) := by
  rw [MakeChecks.laidMetH_plain _ _ _ (by kernel_rfl)] at h
  have h2 := h.tail.tail
  have h3 := h2.tail
  rw [pow_lit] at h2
  exact ⟨TabK.top (Lib.tabIs_of_head (g := 3) (t := 150) (e := 124) (n := 20) (by kernel_rfl) (by kernel_rfl) (by kernel_rfl) (by kernel_rfl) (by kernel_rfl) (by kernel_rfl) h2), err_of (g := 1) (by kernel_rfl) (by kernel_rfl) (big_of (by kernel_rfl) h3.tail) h3.tail, err_of (g := 2) (by kernel_rfl) (by kernel_rfl) (big_of (by kernel_rfl) h3) h3⟩
end Go.Proofs.YtjecflbbcnocdaaDoor
