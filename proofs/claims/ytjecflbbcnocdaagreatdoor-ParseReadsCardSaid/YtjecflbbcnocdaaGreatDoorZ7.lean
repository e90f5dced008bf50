/- Lemmas of the proof, part 7: what the functions of the program do (contracts), and what follows. -/
import Derived.Test.YtjecflbbcnocdaaGreatDoorZ2
import Derived.Test.YtjecflbbcnocdaaGreatDoorZ4
import Derived.Test.YtjecflbbcnocdaaGreatDoorZ6
import Derived.Test.YtjecflbbcnocdaaGreatDoorZ5
import Derived.Test.YtjecflbbcnocdaaGreatDoorRows
import Derived.ProofKit
import Derived.LaidMore
import Derived.OpenShut
import Derived.Stop.LaidErr
import Derived.Lib.LaidTab
import Derived.MakeChecks
namespace Go.Proofs.YtjecflbbcnocdaaGreatDoor
open Go.Lir
set_option maxHeartbeats 1000000
attribute [local irreducible] LC.wp Q2 QA QB retQ Q1e LO.wp Qj Calls
set_option linter.unusedSimpArgs false
set_option linter.unusedVariables false
attribute [local irreducible] skip Q3h scan tok1
variable {cx : Cx} {w : World} {L : List Res}
theorem Qcp {c : UInt8} (h : Q4X c = true) : ¬ QU c = true ∧ ¬ c = 45 := by
  have hall : ∀ p : Fin 256, Q4X (UInt8.ofNat p.val) = true → ¬ QU (UInt8.ofNat p.val) = true ∧ ¬ UInt8.ofNat p.val = 45 := by decide +kernel
  have h1 := hall ⟨c.toNat, c.toNat_lt⟩
  simp only [UInt8.ofNat_toNat] at h1
  exact h1 h
section
variable {src : List UInt8} {i i2 : Nat} {p : UInt8 → Bool} {c d : UInt8} {r : List UInt8}
theorem QtQ (h : ∀ x ∈ (src.drop i).take (i2 - i), p x = true) (hi : i ≤ i2) (hk : i2 ≤ src.length) (hs : ∀ x, src[i2]? = some x → p x = false) : (src.take i2).drop i = (src.drop i).takeWhile p ∧ i + ((src.drop i).takeWhile p).length = i2 := by
  have := QnS (src := src) (at0 := i) (k := i2 - i) h (by omega) (by rw [show i + (i2 - i) = i2 by omega]; exact hs)
  rw [show i + (i2 - i) = i2 by omega] at this
  exact ⟨this.1, by omega⟩
theorem QrJ (h : ∀ x ∈ (src.drop i).take (i2 - i), p x = true) (hi : i ≤ i2) (hc : src[i2]? = some c) (hp : p c = true) : ∀ x ∈ (src.drop i).take (i2 + 1 - i), p x = true := by
  have := QkW (src := src) (at0 := i) (k := i2 - i) h (by rw [show i + (i2 - i) = i2 by omega]; exact hc) hp
  rw [show i2 + 1 - i = i2 - i + 1 by omega]
  exact this
theorem run_0 : ∀ x ∈ (src.drop i).take (i - i), p x = true := by rw [Nat.sub_self]; intro x hx; simp at hx
theorem num_dig (h0 : Q2D c = false) (h : QU c = true) : tok1 (c :: r) = numT (c :: r.takeWhile QU) := by
  rw [Q2z (Qx h0) h, List.takeWhile_cons, if_pos h]
theorem num_neg (h : c.toNat = 45) (hr : r = d :: r.tail) (hd : QU d = true) : tok1 (c :: r) = numT (c :: r.takeWhile QU) := by
  rw [eq45 h, hr, Q43 (Qq5 hd) hd]
theorem QaV (hc : src[i]? = some c) (hi : i + 1 ≤ i2) (h : (src.take i2).drop (i + 1) = r) : (src.take i2).drop i = c :: r := by
  rw [← h]
  exact Q4 (by rw [List.getElem?_take_of_lt (by omega)]; exact hc)
end
theorem rFt_c {c a : Int} (hS : St cx w L) : Rets Tryz.prog R_F [.int .i64 c, .int .i64 a] w fun u w' => u = .agg ⟨[.int .i64 c, .int .i64 a]⟩ ∧ St cx w' L := by
  all_goals refine R_F_in ?_
  all_goals (unfold R_F_lc; refine Q0 ?_; refine Q1 ?_; refine Q9 hS ?_; intro p4 w1 hS; refine zn ?_; refine Q0 ?_; refine Q1 ?_; refine zm ?_; refine zm ?_; refine zb2 [_, _] ?_; refine zsn hS ?_; intro w1 hS; have hS := hS.ns; refine zn ?_; refine zr ?_; refine Q16 vw (Q5 (n := 2) (by kernel_rfl) (by kernel_rfl) (hS.blkAt fd) (by rfl) (by rfl)) ?_; exact ⟨_, rfl, rfl, hS.sp⟩)
theorem rscan_c {src : List UInt8} (hT : NumK cx) (hl : src.length ≤ 100000) (hS : St cx w L) :
    Rets Tryz.prog Q3D [.string ⟨src.toArray⟩] w fun u w' => ScanS cx L src u w' := by
  have hle := St.refl hS
  all_goals refine Qv5 ?_
  all_goals (unfold R_Scan_lc; refine Q0 ?_; refine Q1 ?_; refine zm ?_; refine Q9 hS ?_; intro p3 w1 hS; refine zn ?_; refine Q0 ?_; refine Q0 ?_; refine Q1 ?_; refine zm ?_; refine Q1P rfl ?_)
  all_goals (first | (refine QD ?_) | (refine QR ?_) | (refine Qr rfl rfl (fun hc => ?_) (fun hc => ?_)))
  all_goals (refine zn ?_)
  all_goals
    first
    | (refine zcf ?_ -- Q3D c0
       all_goals refine zsk ?_)
    | (refine zct ?_ -- Q3D c0
       all_goals (refine Q0 ?_; refine Q1 ?_; refine zR2 (c := rFt_c hS) (h := ?_); rintro v1 w1 ⟨rfl, hS⟩; refine zm ?_; refine zsn hS ?_; intro w1 hS; have hS := hS.ns; refine zn ?_; refine zr ?_; refine Q78 vw vw (Q5 (n := 2) (by kernel_rfl) (by kernel_rfl) (hS.blkAt fd) (by rfl) (by rfl)) ?_)
       all_goals (exact ⟨_, rfl, .inr ⟨2, 40000, Q3P (by omega), rfl, hS.sp⟩⟩))
  all_goals (refine Q0 ?_; refine Q1 ?_; refine zm ?_; refine zn ?_; refine Q0 ?_; refine Q1 ?_; refine zm ?_; refine zR2 (c := Qo8 (at0 := 0) (by omega) (by omega) hS) (h := ?_); rintro v1 w1 ⟨at1, rfl, h01, h02, h03, hS⟩; refine zm ?_; refine zn ?_; refine Q0 ?_; refine Qa ?_)
  refine zo [0, 3] (fun A ρ' w' => ∃ (k i : Nat) (out : List Tok) (vb : Value) (cb : List (List Value)), Has ρ' A ∧ Has ρ' [(4, vb), (5, .int .i64 i)] ∧ (i ≤ src.length) ∧ (src.length - i < k) ∧ (scan src = Q3h src.length k (src.drop i) out) ∧ (out.length ≤ i) ∧ (tokR.ls cx cb out) ∧ (oneC vb = true) ∧ St cx w' (sl 134 4 vb cb :: blk p3 29 [.int .i64 0, .int .i64 0] :: L)) (fun ρ' _ => (src.length - iv (ρ' 5)).toNat) ?_ ?_
  · exact ⟨src.length + 1, at1, [], .slice none 0 0, [], zh, zh, (by omega), (by omega), QrF (by omega) (by rw [h03]; rfl), (by omega), Rep.LR.nil _ _ _, rfl, by have hS := hS.nil (T := 134) (es := 4); exact hS.sp⟩
  rintro ρ w1 ⟨k, i, out, vb, cb, hA, hρ, hi, hk, hd, hol, hlb, hvb, hS⟩; obtain ⟨ρ, rfl⟩ := env2 hA hρ
  unfold QoX
  all_goals (refine Q0 ?_; refine Q0 ?_; refine Q1 ?_; refine zm ?_; refine zm ?_; refine Q1P rfl ?_; refine Q1i rfl rfl ?_; refine zn ?_)
  refine QM rfl (fun hc => ?_) (fun hc => ?_)
  · skip
    all_goals (refine zsk ?_; refine Qa ?_; refine Q0 ?_; refine Q1 ?_; refine zm ?_; refine zm ?_; refine zn ?_)
    refine zM [0, 3] (fun A ρ' w' => ∃ (t : List UInt8) (m : Option Int) (at2 : Nat) (vb2 : Value) (cb2 : List (List Value)), Has ρ' A ∧ Has ρ' [(4, vb2), (5, .int .i64 at2)] ∧ (tok1 (src.drop i) = .ok (t, m)) ∧ (i + t.length = at2) ∧ (tokR.ls cx cb2 (out ++ [⟨i, t, m⟩])) ∧ (oneC vb2 = true) ∧ St cx w' (sl 134 4 vb2 cb2 :: blk p3 29 [.int .i64 0, .int .i64 0] :: L)) ?_ ?_
    · skip
      all_goals (refine Q0 ?_; obtain ⟨c, hc9⟩ : ∃ x, src[i]? = some x := ⟨_, List.getElem?_eq_getElem (by omega)⟩; have hdc := Q4 hc9; refine Q1 ?_; refine zm ?_; refine zm ?_; refine Q1H rfl rfl hc9 ?_)
      all_goals (refine zR1 (c := Qo7 hS) (h := ?_); rintro v1 w1 ⟨rfl, hS⟩; cases hq0 : Q2D c)
      all_goals (refine zn ?_)
      all_goals
        first
        | (refine zcf ?_ -- Q3D c2
           all_goals (refine Q0 ?_; refine Q1 ?_; refine zm ?_; refine zm ?_; refine Q1H rfl rfl hc9 ?_)
           all_goals (refine zR1 (c := rsign_c hS) (h := ?_); rintro v1 w1 ⟨rfl, hS⟩; cases hq1 : Q4X c)
           all_goals (refine zn ?_)
           all_goals
             first
             | (refine zcf ?_ -- Q3D c4
                all_goals (refine Q0 ?_; refine Q1 ?_; refine zm ?_; refine zm ?_; refine Q1H rfl rfl hc9 ?_)
                all_goals (first | (refine Qn ?_) | (refine Qq ?_) | (refine Qg rfl rfl (fun hc => ?_) (fun hc => ?_)))
                all_goals (refine zm ?_; (first | refine zgn ?_ | (refine zgy ?_; refine zm ?_)); (first | refine zgn ?_ | (refine zgy ?_; refine zad ?_)); (first | refine zgn ?_ | (refine zgy ?_; refine zm ?_)); (first | refine zgn ?_ | (refine zgy ?_; refine Q1P rfl ?_)))
                all_goals (first | refine zgn ?_ | (refine zgy ?_; (first | (refine Q1b ?_) | (refine Q1z ?_) | (refine QH rfl rfl (fun hc => ?_) (fun hc => ?_)))))
                all_goals ((first | (refine zpt ?_) | (refine zpf ?_)); refine zm ?_; (first | refine zgn ?_ | (refine zgy ?_; refine zm ?_)); (first | refine zgn ?_ | (refine zgy ?_; refine zm ?_)); (first | refine zgn ?_ | (refine zgy ?_; refine zad ?_)); (first | refine zgn ?_ | (refine zgy ?_; obtain ⟨d, hd8⟩ : ∃ x, src[i + 1]? = some x := ⟨_, List.getElem?_eq_getElem (by omega)⟩; have hdd := Q4 hd8; refine Q1H (m := i + 1) rfl rfl hd8 ?_)))
                all_goals (first | refine zgn ?_ | (refine zgy ?_; (first | (refine Qn ?_) | (refine Qq ?_) | (refine Qg rfl rfl (fun hc => ?_) (fun hc => ?_)))))
                all_goals ((first | (refine zpt ?_) | (refine zpf ?_)); refine zn ?_)
                all_goals
                  first
                  | (refine zcf ?_ -- Q3D c5
                     all_goals (refine Q0 ?_; refine Q1 ?_; refine zm ?_; refine zm ?_; refine Q1H rfl rfl hc9 ?_)
                     all_goals (refine zR1 (c := QlY hS) (h := ?_); rintro v1 w1 ⟨rfl, hS⟩; cases hq2 : QU c)
                     all_goals (refine zm ?_; (first | refine zgn ?_ | (refine zgy ?_; refine zm ?_)); (first | refine zgn ?_ | (refine zgy ?_; refine zm ?_)); (first | refine zgn ?_ | (refine zgy ?_; refine Q1H rfl rfl hc9 ?_)))
                     all_goals (first | refine zgn ?_ | (refine zgy ?_; (first | (refine Qn ?_) | (refine Qq ?_))))
                     all_goals ((first | refine zgn ?_ | (refine zgy ?_; refine zm ?_)); (first | refine zgn ?_ | (refine zgy ?_; refine zm ?_)); (first | refine zgn ?_ | (refine zgy ?_; refine zad ?_)); (first | refine zgn ?_ | (refine zgy ?_; refine zm ?_)); (first | refine zgn ?_ | (refine zgy ?_; refine Q1P rfl ?_)))
                     all_goals (first | refine zgn ?_ | (refine zgy ?_; (first | (refine Q1b ?_) | (refine Q1z ?_))))
                     all_goals ((first | refine zgn ?_ | (refine zgy ?_; (first | (refine zpt ?_) | (refine zpf ?_)))); (first | refine zgn ?_ | (refine zgy ?_; refine zm ?_)); (first | refine zgn ?_ | (refine zgy ?_; refine zm ?_)); (first | refine zgn ?_ | (refine zgy ?_; refine zm ?_)); (first | refine zgn ?_ | (refine zgy ?_; refine zad ?_)); (first | refine zgn ?_ | (refine zgy ?_; obtain ⟨d2, hd7⟩ : ∃ x, src[i + 1]? = some x := ⟨_, List.getElem?_eq_getElem (by omega)⟩; have hdd2 := Q4 hd7; refine Q1H (m := i + 1) rfl rfl hd7 ?_)))
                     all_goals (first | refine zgn ?_ | (refine zgy ?_; refine zR1 (c := QlY hS) (h := ?_); rintro v1 w1 ⟨rfl, hS⟩; cases hq3 : QU d2))
                     all_goals ((first | refine zgn ?_ | (refine zgy ?_; (first | (refine zpt ?_) | (refine zpf ?_)))); (first | (refine zpt ?_) | (refine zpf ?_)); refine zn ?_)
                     all_goals
                       first
                       | (refine zcf ?_ -- Q3D c6
                          all_goals (refine Q0 ?_; refine Q1 ?_; refine zm ?_; refine zR2 (c := rFt_c hS) (h := ?_); rintro v1 w1 ⟨rfl, hS⟩; refine zm ?_; refine zsn hS ?_; intro w1 hS; have hS := hS.ns; refine zn ?_; refine zr ?_; refine Q78 vw vw (Q5 (n := 2) (by kernel_rfl) (by kernel_rfl) (hS.blkAt fd) (by rfl) (by rfl)) ?_)
                          all_goals ((first | exact ⟨_, rfl, .inr ⟨2, 40000, Q3P (by omega), rfl, hS.sp⟩⟩ | exact ⟨_, rfl, .inl ⟨out, c2, vb, by rw [hd, QaY (by omega)], hle2, rfl, hk2, hS.sp⟩⟩ | exact ⟨_, rfl, .inr ⟨8, i, by rw [hd, show k = k - 1 + 1 by omega, Q4g (by omega) (hnum.trans (Q4U hn))], rfl, hS.sp⟩⟩ | exact ⟨_, rfl, .inr ⟨6, i, by rw [hd, show k = k - 1 + 1 by omega, Q4g (by omega) (by rw [hdc, QlO (Qx hq0) (Qx hq2) (ne45 (by omega)) (Qx hq1)])], rfl, hS.sp⟩⟩ | exact ⟨_, rfl, .inr ⟨6, i, by rw [hd, show k = k - 1 + 1 by omega, Q4g (by omega) (by rw [hdc, eq45 (c := c) (by omega), List.drop_eq_nil_of_le (by omega), QrB])], rfl, hS.sp⟩⟩ | exact ⟨_, rfl, .inr ⟨6, i, by rw [hd, show k = k - 1 + 1 by omega, Q4g (by omega) (by rw [hdc, eq45 (c := c) (by omega), hdd2, QrC (fun e9 => absurd (show ((d.toNat : Nat) : Int) = 62 by rw [Option.some.inj (hd8.symm.trans hd7), e9]; rfl) (by assumption)) (Qx hq3)])], rfl, hS.sp⟩⟩)))
                       | (refine zct ?_ -- Q3D c6
                          refine zML hS [0, 3, 4, 6] (fun A LL ρ' w' => Has ρ' A ∧ Has ρ' [(5, .int .i64 ((i : Int) + 1))] ∧ (tok1 (src.drop i) = numT (c :: (src.drop (i + 1)).takeWhile QU)) ∧ St cx w' (LL)) ?_ ?_
                          · skip
                            all_goals (refine Q1 ?_; refine zm ?_; refine zad ?_; refine zm ?_; refine zn ?_; exact ⟨zh, zh, (by rw [hdc]; first | exact num_dig hq0 hq2 | exact num_neg (by omega) (by rw [hdd2]; rfl) hq3), hS.sp⟩)
                          rintro ρ w1 ⟨hA, hρ, hnum, hS⟩; obtain ⟨ρ, rfl⟩ := env2 hA hρ
                          all_goals (refine Q0 ?_; refine Qa ?_)
                          refine zoL hS [0, 3, 4, 6] (fun A LL ρ' w' => ∃ (i2 : Nat), Has ρ' A ∧ Has ρ' [(5, .int .i64 i2)] ∧ (i + 1 ≤ i2) ∧ (i2 ≤ src.length) ∧ (∀ x ∈ (src.drop (i + 1)).take (i2 - (i + 1)), QU x = true) ∧ St cx w' (LL)) (fun ρ' _ => (src.length - iv (ρ' 5)).toNat) ?_ ?_
                          · exact ⟨i + 1, zh, zh, (by omega), (by omega), run_0, hS.sp⟩
                          rintro ρ w1 ⟨i2, hA, hρ, h2, h3, hall, hS⟩; obtain ⟨ρ, rfl⟩ := env2 hA hρ
                          unfold Qlj
                          all_goals (refine Q0 ?_; refine Q0 ?_; refine Q1 ?_; refine zm ?_; refine zm ?_; refine Q1P rfl ?_)
                          all_goals (first | (refine Q1b ?_) | (refine Q1z ?_) | (refine QH rfl rfl (fun hc => ?_) (fun hc => ?_)))
                          all_goals (refine zm ?_; (first | refine zgn ?_ | (refine zgy ?_; refine zm ?_)); (first | refine zgn ?_ | (refine zgy ?_; refine zm ?_)); (first | refine zgn ?_ | (refine zgy ?_; obtain ⟨c2, hc2⟩ : ∃ x, src[i2]? = some x := ⟨_, List.getElem?_eq_getElem (by omega)⟩; refine Q1H rfl rfl hc2 ?_)))
                          all_goals (first | refine zgn ?_ | (refine zgy ?_; refine zR1 (c := QlY hS) (h := ?_); rintro v1 w1 ⟨rfl, hS⟩; cases hq : QU c2))
                          all_goals ((first | (refine zpt ?_) | (refine zpf ?_)); refine zn ?_)
                          all_goals
                            first
                            | (refine zct ?_ -- Q3D c7
                               all_goals (refine zsk ?_; refine Qa ?_; refine Q1 ?_; refine zm ?_; refine zad ?_; refine zm ?_; refine zn ?_)
                               all_goals (exact ⟨⟨i2 + 1, zh, zh, (by omega), (by omega), QrJ hall h2 hc2 hq, hS.sp⟩, QF (by omega)⟩))
                            | (refine zcf ?_ -- Q3D c7
                               all_goals (refine zex ?_)
                               all_goals (have hw := QtQ hall h2 h3 (by intro x hx; first | (rw [List.getElem?_eq_none (by omega)] at hx; cases hx) | (obtain rfl : c2 = x := Option.some.inj (hc2.symm.trans hx); exact hq)))
                               all_goals (refine Q0 ?_; refine Q1 ?_; refine zm ?_; refine zm ?_; refine zm ?_; refine Q5A rfl (l' := i) (h' := i2) ⟨_, rfl⟩ ⟨_, rfl⟩ (by omega) (by omega) ?_; rw [QaV hc9 h2 hw.1])
                               all_goals (refine zR1 (c := longof_c hT (by rw [List.length_cons]; omega) hS) (h := ?_); rintro v1 w1 ⟨⟨n, hn, rfl⟩ | ⟨hn, rfl⟩, hS⟩)
                               all_goals (refine zm ?_; refine zxt ?_; refine zxt ?_; refine zm ?_; refine zm ?_; refine zn ?_; refine Q0 ?_; refine Q0 ?_; refine Q1 ?_; refine zm ?_; refine znt ?_; refine zn ?_)
                               all_goals
                                 first
                                 | (refine zct ?_ -- Q3D c8
                                    all_goals (refine Q0 ?_; refine Q1 ?_; refine zm ?_; refine zR2 (c := rFt_c hS) (h := ?_); rintro v1 w1 ⟨rfl, hS⟩; refine zm ?_; refine zsn hS ?_; intro w1 hS; have hS := hS.ns; refine zn ?_; refine zr ?_; refine Q78 vw vw (Q5 (n := 2) (by kernel_rfl) (by kernel_rfl) (hS.blkAt fd) (by rfl) (by rfl)) ?_)
                                    all_goals ((first | exact ⟨_, rfl, .inr ⟨2, 40000, Q3P (by omega), rfl, hS.sp⟩⟩ | exact ⟨_, rfl, .inl ⟨out, c2, vb, by rw [hd, QaY (by omega)], hle2, rfl, hk2, hS.sp⟩⟩ | exact ⟨_, rfl, .inr ⟨8, i, by rw [hd, show k = k - 1 + 1 by omega, Q4g (by omega) (hnum.trans (Q4U hn))], rfl, hS.sp⟩⟩)))
                                 | (refine zcf ?_ -- Q3D c8
                                    all_goals refine zsk ?_)
                               all_goals (have hd9 : tokR.at cx [.int .i64 (i : Int), .string ⟨(c :: (src.drop (i + 1)).takeWhile QU).toArray⟩, .bool true, .int .i64 n] (⟨i, c :: (src.drop (i + 1)).takeWhile QU, some n⟩ : Tok) := rfl; refine Q1 ?_; refine zm ?_; refine zm ?_; refine zm ?_; refine zm ?_; refine zm ?_; refine Q5A rfl (l' := i) (h' := i2) ⟨_, rfl⟩ ⟨_, rfl⟩ (by omega) (by omega) ?_; rw [QaV hc9 h2 hw.1]; refine zm ?_; refine zb4 [_, _, _, _] ?_; refine zB1 hS [_, _, _, _] ?_; intro b1 w1 hS; refine za Qs6 u_T72 hS ?_; intro vp4 w4 css4 hls4 hv4 hS; have hS := hS.ns; refine zm ?_; refine zn ?_)
                               all_goals (first | (exact ⟨_, none, i2, _, _, zh, zh, (by rw [hdc, Q30 hq0]), hw.2, by assumption, by assumption, hS.sp⟩) | (exact ⟨[c], none, i + 1, _, _, zh, zh, (by rw [hdc, Q5y (Qx hq0) (Qcp hq1).1 (Qcp hq1).2 hq1]), rfl, by assumption, by assumption, hS.sp⟩) | (exact ⟨[45, 62], none, i + 2, _, _, zh, zh, (by rw [hdc, hdd, eq45 (c := c) (by omega), UInt8.toNat_inj.1 (show d.toNat = (62 : UInt8).toNat by show d.toNat = 62; omega), Q7Z]), rfl, by assumption, by assumption, hS.sp⟩) | (exact ⟨_, some n, i2, _, _, zh, zh, (by rw [hnum, Q5Q hn]), (by rw [List.length_cons]; omega), by assumption, by assumption, hS.sp⟩)))))
                  | (refine zct ?_ -- Q3D c5
                     all_goals (refine Q0 ?_; refine Q1 ?_; refine zm ?_; refine zad ?_; refine zm ?_; refine zn ?_; have hd9 : tokR.at cx [.int .i64 (i : Int), .string ⟨([45, 62] : List UInt8).toArray⟩, .bool false, .int .i64 0] (⟨i, [45, 62], none⟩ : Tok) := rfl; refine Q1 ?_; refine zm ?_; refine zm ?_; refine zm ?_; refine zm ?_; refine zm ?_; refine Q5A rfl (l' := i) (h' := i + 2) ⟨_, rfl⟩ ⟨_, rfl⟩ (by omega) (by omega) ?_; rw [QaV hc9 (by omega) (QaV hd8 (by omega) (by rw [List.drop_of_length_le (by rw [List.length_take]; omega)])), eq45 (c := c) (by omega), UInt8.toNat_inj.1 (show d.toNat = (62 : UInt8).toNat by show d.toNat = 62; omega)]; refine zb2 [_, _, _, _] ?_; refine zB1 hS [_, _, _, _] ?_; intro b1 w1 hS; refine za Qs6 u_T72 hS ?_; intro vp3 w3 css3 hls3 hv3 hS; have hS := hS.ns; refine zm ?_; refine zn ?_)
                     all_goals (first | (exact ⟨_, none, i2, _, _, zh, zh, (by rw [hdc, Q30 hq0]), hw.2, by assumption, by assumption, hS.sp⟩) | (exact ⟨[c], none, i + 1, _, _, zh, zh, (by rw [hdc, Q5y (Qx hq0) (Qcp hq1).1 (Qcp hq1).2 hq1]), rfl, by assumption, by assumption, hS.sp⟩) | (exact ⟨[45, 62], none, i + 2, _, _, zh, zh, (by rw [hdc, hdd, eq45 (c := c) (by omega), UInt8.toNat_inj.1 (show d.toNat = (62 : UInt8).toNat by show d.toNat = 62; omega), Q7Z]), rfl, by assumption, by assumption, hS.sp⟩))))
             | (refine zct ?_ -- Q3D c4
                all_goals (refine Q0 ?_; refine Q1 ?_; refine zm ?_; refine zad ?_; refine zm ?_; refine zn ?_; have hd9 : tokR.at cx [.int .i64 (i : Int), .string ⟨([c] : List UInt8).toArray⟩, .bool false, .int .i64 0] (⟨i, [c], none⟩ : Tok) := rfl; refine Q1 ?_; refine zm ?_; refine zm ?_; refine zm ?_; refine zm ?_; refine zm ?_; refine Q5A rfl (l' := i) (h' := i + 1) ⟨_, rfl⟩ ⟨_, rfl⟩ (by omega) (by omega) ?_; rw [QaV hc9 (by omega) (by rw [List.drop_of_length_le (by rw [List.length_take]; omega)])]; refine zb2 [_, _, _, _] ?_; refine zB1 hS [_, _, _, _] ?_; intro b1 w1 hS; refine za Qs6 u_T72 hS ?_; intro vp2 w2 css2 hls2 hv2 hS; have hS := hS.ns; refine zm ?_; refine zn ?_)
                all_goals (first | (exact ⟨_, none, i2, _, _, zh, zh, (by rw [hdc, Q30 hq0]), hw.2, by assumption, by assumption, hS.sp⟩) | (exact ⟨[c], none, i + 1, _, _, zh, zh, (by rw [hdc, Q5y (Qx hq0) (Qcp hq1).1 (Qcp hq1).2 hq1]), rfl, by assumption, by assumption, hS.sp⟩))))
        | (refine zct ?_ -- Q3D c2
           all_goals (refine Q0 ?_; refine Qa ?_)
           refine zoL hS [0, 3, 4, 6] (fun A LL ρ' w' => ∃ (i2 : Nat), Has ρ' A ∧ Has ρ' [(5, .int .i64 i2)] ∧ (i ≤ i2) ∧ (i2 ≤ src.length) ∧ (∀ x ∈ (src.drop i).take (i2 - i), Q2D x = true) ∧ St cx w' (LL)) (fun ρ' _ => (src.length - iv (ρ' 5)).toNat) ?_ ?_
           · exact ⟨i, zh, zh, (by omega), (by omega), run_0, hS.sp⟩
           rintro ρ w1 ⟨i2, hA, hρ, h2, h3, hall, hS⟩; obtain ⟨ρ, rfl⟩ := env2 hA hρ
           unfold QoW
           all_goals (refine Q0 ?_; refine Q0 ?_; refine Q1 ?_; refine zm ?_; refine zm ?_; refine Q1P rfl ?_)
           all_goals (first | (refine Q1b ?_) | (refine Q1z ?_) | (refine QH rfl rfl (fun hc => ?_) (fun hc => ?_)))
           all_goals (refine zm ?_; (first | refine zgn ?_ | (refine zgy ?_; refine zm ?_)); (first | refine zgn ?_ | (refine zgy ?_; refine zm ?_)); (first | refine zgn ?_ | (refine zgy ?_; obtain ⟨c2, hc2⟩ : ∃ x, src[i2]? = some x := ⟨_, List.getElem?_eq_getElem (by omega)⟩; refine Q1H rfl rfl hc2 ?_)))
           all_goals (first | refine zgn ?_ | (refine zgy ?_; refine zR1 (c := Qo7 hS) (h := ?_); rintro v1 w1 ⟨rfl, hS⟩; cases hq : Q2D c2))
           all_goals ((first | (refine zpt ?_) | (refine zpf ?_)); refine zn ?_)
           all_goals
             first
             | (refine zct ?_ -- Q3D c3
                all_goals (refine zsk ?_; refine Qa ?_; refine Q1 ?_; refine zm ?_; refine zad ?_; refine zm ?_; refine zn ?_)
                all_goals (exact ⟨⟨i2 + 1, zh, zh, (by omega), (by omega), QrJ hall h2 hc2 hq, hS.sp⟩, QF (by omega)⟩))
             | (refine zcf ?_ -- Q3D c3
                all_goals (refine zex ?_)
                all_goals (have hw := QtQ hall h2 h3 (by intro x hx; first | (rw [List.getElem?_eq_none (by omega)] at hx; cases hx) | (obtain rfl : c2 = x := Option.some.inj (hc2.symm.trans hx); exact hq)))
                all_goals (have hd9 : tokR.at cx [.int .i64 (i : Int), .string ⟨((src.drop i).takeWhile Q2D).toArray⟩, .bool false, .int .i64 0] (⟨i, (src.drop i).takeWhile Q2D, none⟩ : Tok) := rfl; refine Q1 ?_; refine zm ?_; refine zm ?_; refine zm ?_; refine zm ?_; refine zm ?_; refine Q5A rfl (l' := i) (h' := i2) ⟨_, rfl⟩ ⟨_, rfl⟩ (by omega) (by omega) ?_; rw [hw.1]; refine zb2 [_, _, _, _] ?_; refine zB1 hS [_, _, _, _] ?_; intro b1 w1 hS; refine za Qs6 u_T72 hS ?_; intro vp1 w1 css1 hls1 hv1 hS; have hS := hS.ns; refine zm ?_; refine zn ?_)
                all_goals (exact ⟨_, none, i2, _, _, zh, zh, (by rw [hdc, Q30 hq0]), hw.2, by assumption, by assumption, hS.sp⟩)))
    rintro ρ w1 ⟨t, m, at2, vb2, cb2, hA, hρ, ht, ha2, hlb2, hvb2, hS⟩; obtain ⟨ρ, rfl⟩ := env2 hA hρ
    all_goals (have hf9 := QrD (by omega) ht; refine Q1 ?_; refine zm ?_; refine zm ?_; refine zR2 (c := Qo8 (at0 := at2) (by omega) (by omega) hS) (h := ?_); rintro v1 w1 ⟨at3, rfl, h11, h12, h13, hS⟩; refine zm ?_; refine zn ?_; exact ⟨⟨k - 1, at3, out ++ [⟨i, t, m⟩], _, _, zh, zh, (by omega), (by omega), QnY (by rw [show k - 1 + 1 = k by omega]; exact hd) (by omega) ht (by rw [ha2]; exact h13), (by rw [List.length_append]; show out.length + 1 ≤ at3; omega), by assumption, by assumption, hS.sp⟩, (by show ((src.length : Int) - (at3 : Int)).toNat < ((src.length : Int) - (i : Int)).toNat; omega)⟩)
  · skip
    all_goals (refine zex ?_; obtain ⟨c2, hle2, hS2, hk2⟩ := St.freezeL (r := tokR) (hS.out (r := sl 134 4 vb cb) fd) hlb rfl (by omega); clear hS; have hS := hS2; simp only [List.eraseIdx_cons_zero, List.eraseIdx_cons_succ] at hS; refine Q0 ?_; refine Q1 ?_; refine zm ?_; refine zb0 [_, _] ?_; refine zm ?_; refine zsn hS ?_; intro w1 hS; have hS := hS.ns; refine zn ?_; refine zr ?_; refine Q78 vw vw (Q5 (n := 2) (by kernel_rfl) (by kernel_rfl) (hS.blkAt fd) (by rfl) (by rfl)) ?_; (first | exact ⟨_, rfl, .inr ⟨2, 40000, Q3P (by omega), rfl, hS.sp⟩⟩ | exact ⟨_, rfl, .inl ⟨out, c2, vb, by rw [hd, QaY (by omega)], hle2, rfl, hk2, hS.sp⟩⟩))
end Go.Proofs.YtjecflbbcnocdaaGreatDoor
namespace Go.Lir
section
variable {α : Type} {tk : List Tok} {at0 at1 at2 at3 at4 at5 at6 at7 at8 aS e k : Nat} {f0 f1 f2 f3 f4 f5 f6 f7 f8 : Flt} {rg : Int} {ps rs : List Ty} {xs acc : List Ins} {t : Tail} {bs : List Block} {x : Ins} {bb : Bool} {X : PGot (List Ins)} {Y : PGot (List α)} {r : List Tok → PGot (Option α)} {ys : List α}
theorem popt_i (h : POpt X (pIns e) tk aS acc k at0 f0) (hI : InsT tk e at0 f0 x bb at1 f1) :
    (bb = true ∧ f0 = (0, 0) ∧ f1 = (0, 0) ∧ at0 < at1 ∧ at1 ≤ tk.length ∧ POpt X (pIns e) tk aS (acc ++ [x]) (k - 1) at1 f1) ∨ (bb = false ∧ POpt X (pIns e) tk aS acc k at1 f1 ∧ (f1 = (0, 0) → pIns e (tk.drop at1) = .ok (none, tk.drop at1))) := by
  rcases hI with ⟨h1, rfl, rfl, h2, h3, h4⟩ | ⟨h1, rfl, rfl, h2⟩ | ⟨h1, rfl, h2, h3⟩
  · exact .inl ⟨h1, rfl, rfl, h3, h4, popt_s h h2 h3 h4⟩
  · exact .inr ⟨h1, h, h2⟩
  · exact .inr ⟨h1, popt_e h h3 h2, fun h9 => absurd (by rw [h9]) h2⟩
theorem Qsj (ha : at0 ≤ tk.length) (hq : isT Q2d (tk.drop at0) = true) (g1 : PTake (pNum e) tk (at0 + 1) (0, 0) rg at1 f1) (g2 : PTake (Q2v e) tk at1 f1 ps at2 f2) (g3 : PTake (want e [123]) tk at2 f2 () at3 f3) (g4 : PTake (pAll (pIns e)) tk at3 f3 xs at4 f4) (g5 : PTake (Q3R e) tk at4 f4 t at5 f5) (g6 : PTake (want e [125]) tk at5 f5 () at6 f6) :
    PTake (Q2G e) tk at0 (0, 0) ⟨rg, ps, xs, t⟩ at6 f6 ∧ (f6 = (0, 0) → at0 < at6) := by
  have h := Qe (g := fun regs l => Q6 (Q2v e l) fun ps l => Q6 (want e [123] l) fun _ l => Q6 (pAll (pIns e) l) fun code l => Q6 (Q3R e l) fun fin l => Q6 (want e [125] l) fun _ l => .ok ((⟨regs, ps, code, fin⟩ : Block), l)) g1
    (Qe (g := fun ps l => Q6 (want e [123] l) fun _ l => Q6 (pAll (pIns e) l) fun code l => Q6 (Q3R e l) fun fin l => Q6 (want e [125] l) fun _ l => .ok ((⟨rg, ps, code, fin⟩ : Block), l)) g2
    (Qe (g := fun _ l => Q6 (pAll (pIns e) l) fun code l => Q6 (Q3R e l) fun fin l => Q6 (want e [125] l) fun _ l => .ok ((⟨rg, ps, code, fin⟩ : Block), l)) g3
    (Qe (g := fun code l => Q6 (Q3R e l) fun fin l => Q6 (want e [125] l) fun _ l => .ok ((⟨rg, ps, code, fin⟩ : Block), l)) g4
    (Qe (g := fun fin l => Q6 (want e [125] l) fun _ l => .ok ((⟨rg, ps, xs, fin⟩ : Block), l)) g5
    (Qe (g := fun _ l => .ok ((⟨rg, ps, xs, t⟩ : Block), l)) g6 (QY g6.fine))))))
  refine ⟨Qcu ha hq ?_ h, fun h9 => ?_⟩
  · rw [QuM]
    have hw : want e Q2d (tk.drop at0) = .ok ((), (tk.drop at0).tail) := by unfold want; rw [if_pos hq]
    rw [hw]; rfl
  · have := (Ql4 h (by rw [h9])).2; omega
theorem take_fun (g1 : PTake (want e Qpx) tk at0 (0, 0) () at1 f1) (g2 : PTake (pNum e) tk at1 f1 rg at2 f2) (g3 : PTake (Q2v e) tk at2 f2 ps at3 f3) (g4 : PTake (want e QaU) tk at3 f3 () at4 f4) (g5 : PTake (Q2v e) tk at4 f4 rs at5 f5) (g6 : PTake (want e [123]) tk at5 f5 () at6 f6) (g7 : PTake (pAll (pIf (isT Q2d) (Q2G e))) tk at6 f6 bs at7 f7) (g8 : PTake (want e [125]) tk at7 f7 () at8 f8) :
    PTake (pFun e) tk at0 (0, 0) ⟨rg, ps, rs, bs⟩ at8 f8 ∧ (f8 = (0, 0) → at0 < at8) := by
  have h := Qe (g := fun regs l => Q6 (Q2v e l) fun ps l => Q6 (want e QaU l) fun _ l => Q6 (Q2v e l) fun rs l => Q6 (want e [123] l) fun _ l => Q6 (pAll (pIf (isT Q2d) (Q2G e)) l) fun bl l => Q6 (want e [125] l) fun _ l => .ok ((⟨regs, ps, rs, bl⟩ : Fun), l)) g2
    (Qe (g := fun ps l => Q6 (want e QaU l) fun _ l => Q6 (Q2v e l) fun rs l => Q6 (want e [123] l) fun _ l => Q6 (pAll (pIf (isT Q2d) (Q2G e)) l) fun bl l => Q6 (want e [125] l) fun _ l => .ok ((⟨rg, ps, rs, bl⟩ : Fun), l)) g3
    (Qe (g := fun _ l => Q6 (Q2v e l) fun rs l => Q6 (want e [123] l) fun _ l => Q6 (pAll (pIf (isT Q2d) (Q2G e)) l) fun bl l => Q6 (want e [125] l) fun _ l => .ok ((⟨rg, ps, rs, bl⟩ : Fun), l)) g4
    (Qe (g := fun rs l => Q6 (want e [123] l) fun _ l => Q6 (pAll (pIf (isT Q2d) (Q2G e)) l) fun bl l => Q6 (want e [125] l) fun _ l => .ok ((⟨rg, ps, rs, bl⟩ : Fun), l)) g5
    (Qe (g := fun _ l => Q6 (pAll (pIf (isT Q2d) (Q2G e)) l) fun bl l => Q6 (want e [125] l) fun _ l => .ok ((⟨rg, ps, rs, bl⟩ : Fun), l)) g6
    (Qe (g := fun bl l => Q6 (want e [125] l) fun _ l => .ok ((⟨rg, ps, rs, bl⟩ : Fun), l)) g7
    (Qe (g := fun _ l => .ok ((⟨rg, ps, rs, bs⟩ : Fun), l)) g8 (QY g8.fine)))))))
  refine ⟨Q2f (by rw [func_X]) (Qe g1 h), fun h9 => ?_⟩
  obtain ⟨rfl, h2⟩ := Ql4 h (by rw [h9])
  have := Qm1 g1
  omega
theorem ne_drop (h : at0 < tk.length) : (fun l : List Tok => !l.isEmpty) (tk.drop at0) = true := by
  rw [List.drop_eq_getElem_cons h]; rfl
theorem ne_end (h : tk.length ≤ at0) : (fun l : List Tok => !l.isEmpty) (tk.drop at0) = false := by
  rw [List.drop_eq_nil_of_le h]; rfl
theorem Qu4 (h : POpt (Q4r (pAll r) tk 0 (0, 0)) r tk 0 ys k at1 f1) (h1 : f1.1 ≠ 0) : pAll r tk = .error f1 := by
  rcases h with ⟨rfl, _⟩ | ⟨_, h⟩
  · exact absurd rfl h1
  · unfold Q4r at h; rw [if_neg (fun h => h rfl), List.drop_zero] at h; exact h
theorem popt_o (h : POpt (Q4r (pAll r) tk 0 (0, 0)) r tk 0 ys k at1 (0, 0)) (hn : r (tk.drop at1) = .ok (none, tk.drop at1)) : pAll r tk = .ok (ys, tk.drop at1) := by
  rcases popt_end h (.inr ⟨rfl, Nat.zero_le _⟩) (fun _ => hn) with ⟨h, _⟩ | ⟨_, _, ⟨h, _⟩ | ⟨_, h⟩⟩
  · exact absurd rfl h
  · rw [List.drop_zero] at h; exact h
  · exact absurd rfl h
theorem funs_X {l : List Tok} : Qok e l = pAll (pIf (fun l => !l.isEmpty) (pFun e)) l := rfl
theorem fine_0 {f : Flt} (h : Q2c tk at0 f) (h0 : f.1 = 0) : f = (0, 0) ∧ at0 ≤ tk.length := by
  rcases h with h | h
  · exact absurd h0 h
  · exact h
end
end Go.Lir
namespace Go.Proofs.YtjecflbbcnocdaaGreatDoor
open Go.Lir
set_option maxHeartbeats 1000000
attribute [local irreducible] LC.wp Q2 QA QB retQ Q1e LO.wp Qj Calls
set_option linter.unusedSimpArgs false
set_option linter.unusedVariables false
attribute [local irreducible] pNum Q38 want Q2c isT PTake PLst PStp pMany Q15 Q4r pTyp Q2v pTo Q3W Q3R pIns pAll pIf pOpts Q2G pFun Qok POpt InsT scan skip Q3h Module.fault Q3G
variable {cx : Cx} {w : World} {L : List Res}
theorem QrK {src : List UInt8} (hT : NumK cx) (hl : src.length ≤ 100000) (hS : St cx w L) :
    Rets Tryz.prog Q2T [.string ⟨src.toArray⟩] w fun u w' => QiJ cx L src u w' := by
  have hle := St.refl hS
  unfold QiJ
  all_goals refine Qtc ?_
  all_goals (unfold R_Parse_lc; refine Q0 ?_; refine Q1 ?_; refine Q9 hS ?_; intro p2 w1 hS; refine Q9 hS ?_; intro p3 w1 hS; refine zn ?_; refine Q0 ?_; refine Q1 ?_; refine zm ?_)
  all_goals (refine zR1 (c := rscan_c hT hl hS) (h := ?_); rintro v1 w1 (⟨tk, c2, v, hs, hle2, rfl, hv, hS⟩ | ⟨er, n, hs, rfl, hS⟩))
  all_goals (refine zm ?_; refine zxt ?_; refine zxt ?_; refine Q9 hS ?_; intro p5 w1 hS; refine zm ?_; refine zsn hS ?_; intro w1 hS; have hS := hS.ns; refine zn ?_; refine Q0 ?_; refine Q0 ?_)
  all_goals (first | (have hz := QlQ hs; dsimp only at hz) | (obtain ⟨hn1, hn2⟩ := QrG hs; (try have hle := hle.trans hle2); have hvl := hv.len; obtain ⟨av, nv, rfl⟩ := Rep.SR.shape hv))
  all_goals (refine Q1 ?_; refine zf0 ?_; refine zl hS ?_)
  all_goals (first | (refine Q1h ?_) | (refine Q1j ?_))
  all_goals (refine zn ?_)
  all_goals
    first
    | (refine zct ?_ -- Q2T c0
       all_goals (refine Q0 ?_; refine zC [(0, none), (1, none), (2, some (some [1])), (3, some none)] ?_; have hS := hS.drew; refine s_cq ?_; refine zb0 [_] ?_; refine zt ?_; refine s_cq ?_; refine zv hS ?_; refine zt ?_; refine Q5D ?_; refine zsn hS ?_; intro w1 hS; have hS := hS.ns; refine zt ?_; refine zy ?_; refine s_cf ?_; refine zsn hS ?_; intro w1 hS; have hS := hS.ns; refine zt ?_; refine zcn ?_; refine zr ?_; refine Q5G vw (Q5 (n := 1) (by kernel_rfl) (by kernel_rfl) (hS.blkAt fd) (by rfl) (by rfl)) vw (Q5 (n := 2) (by kernel_rfl) (by kernel_rfl) (hS.blkAt fd) (by rfl) (by rfl)) ?_)
       all_goals (exact ⟨_, rfl, .inr ⟨_, Q7d hs, rfl, hS.sp⟩⟩))
    | (refine zcf ?_ -- Q2T c0
       all_goals refine zsk ?_)
  all_goals (refine Q0 ?_; refine Q1 ?_; refine zm ?_; refine zm ?_; refine Q1P rfl ?_; refine zb2 [_, _, _, _, _] ?_; refine zb hS ?_; intro p27 w1 hS; refine zm ?_; refine zn ?_; refine Q0 ?_; refine Q1 ?_; refine Q9 hS ?_; intro p7 w1 hS; refine zn ?_; refine Q0 ?_; refine Qa ?_)
  refine zo [2, 3, 4, 6, 7] (fun A ρ' w' => ∃ (k0 : Cx) (at1 k : Nat) (f1 : Flt) (xs : List Fun) (vF : Value) (cF : List (List Value)), Has ρ' A ∧ Has ρ' [] ∧ (c2.Le k0) ∧ (POpt (Q4r (pAll (pIf (fun l => !l.isEmpty) (pFun src.length))) tk 0 (0, 0)) (pIf (fun l => !l.isEmpty) (pFun src.length)) tk 0 xs k at1 f1) ∧ (xs.length ≤ tk.length + 1) ∧ (f1 = (0, 0) → xs.length ≤ at1) ∧ (funcR.ls k0 cF xs) ∧ (oneC vF = true) ∧ St k0 w' (rgb p27 (.slice av tk.length nv) src.length at1 f1 :: sl 43 4 vF cF :: blk p7 24 [vF] :: blk p5 29 [.int .i64 0, .int .i64 0] :: blk p3 29 [.int .i64 0, .int .i64 0] :: blk p2 24 [.slice none 0 0] :: L)) (fun _ w' => tk.length + 2 - slen (QoG w' p7 0)) ?_ ?_
  · exact ⟨c2, 0, _, (0, 0), [], .slice none 0 0, [], zh, zh, St.refl hS, Qu5 (Q3j (Nat.zero_le _)), Nat.zero_le _, (fun _ => Nat.zero_le _), Rep.LR.nil _ _ _, rfl, by have hS := hS.nil (T := 43) (es := 4); exact hS.sp⟩
  rintro ρ w1 ⟨k0, at1, k, f1, xs, vF, cF, hA, hρ, hle2, hP, hxl, hxa, hlF, hvF, hS⟩; obtain ⟨ρ, rfl⟩ := env2 hA hρ; have hL0 := hle2; (try have hle := hle.trans hle2); (try have hv := hv.up hle2); have hm0 := Q33 (j := 0) hS (i := 2) rfl rfl; have hsl0 := St.slen hS (i := 1) rfl; have hcl0 := hlF.1
  unfold Qlk
  all_goals (refine Q0 ?_; refine Q0 ?_; refine Q1 ?_; refine zm ?_)
  all_goals (refine zR1 (c := Q1U hS) (h := ?_); rintro v1 w1 ⟨rfl, hS⟩; cases hd : decide (f1.1 = 0))
  all_goals ((first | (have hd2 := of_decide_eq_false hd) | (obtain ⟨e1, ha1⟩ := fine_0 hP.fine (of_decide_eq_true hd); rw [e1] at hS hP hxa; have hxa := hxa rfl)); refine zm ?_; (first | refine zgn ?_ | (refine zgy ?_; refine zm ?_)); (first | refine zgn ?_ | (refine zgy ?_; refine znc ?_)); (first | refine zgn ?_ | (refine zgy ?_; refine zf0 ?_)); (first | refine zgn ?_ | (refine zgy ?_; refine zl hS ?_)); (first | refine zgn ?_ | (refine zgy ?_; refine zm ?_)); (first | refine zgn ?_ | (refine zgy ?_; refine zL ?_)))
  all_goals (first | refine zgn ?_ | (refine zgy ?_; (first | (refine Q1b ?_) | (refine Q1z ?_) | (refine QH rfl rfl (fun hc => ?_) (fun hc => ?_)))))
  all_goals ((first | (refine zpt ?_) | (refine zpf ?_)); refine zn ?_)
  all_goals
    first
    | (refine zct ?_ -- Q2T c1
       all_goals (refine zsk ?_; refine Qa ?_; refine Q0 ?_; refine Q1 ?_; refine zm ?_; refine zR2 (c := Q1m (s := Qpx) hv hP.fine hS) (h := ?_); rintro v1 w1 ⟨at2, f2, g2, rfl, hS⟩; refine zn ?_; refine Q0 ?_; refine Q1 ?_; refine zm ?_; refine zR1 (c := Q1Q hv g2.fine hS) (h := ?_); rintro v2 w1 ⟨rg, at3, f3, g3, rfl, hS⟩; refine zb1 [_, _, _, _] ?_; refine Q9 hS ?_; intro p8 w1 hS; refine zsn hS ?_; intro w1 hS; have hS := hS.ns; refine zn ?_; refine Q0 ?_; have hS : St k0 _ (rgb p27 (.slice av tk.length nv) src.length at3 f3 :: blk p8 43 [.int .i64 rg, .slice none 0 0, .slice none 0 0, .slice none 0 0] :: sl 43 4 vF cF :: blk p7 24 [vF] :: blk p5 29 [.int .i64 0, .int .i64 0] :: blk p3 29 [.int .i64 0, .int .i64 0] :: blk p2 24 [.slice none 0 0] :: L) := hS.sp; refine Q1 ?_; refine zm ?_)
       all_goals (refine zR2 (c := QlX hv g3.fine hS) (h := ?_); rintro vps w1 ⟨ps, at4, f4, c4, g4, hle2, hkp, hS⟩; (try have hle := hle.trans hle2); (try have hL0 := hL0.trans hle2); (try have hv := hv.up hle2); (try have hlF := hlF.up hle2); have ho := Rep.SR.oneC hkp)
       all_goals (refine zf0 ?_; refine zst hS ?_; intro w1 hS; have hS := hS.ns; refine zn ?_; refine Q0 ?_; have hS : St c4 _ (rgb p27 (.slice av tk.length nv) src.length at4 f4 :: blk p8 43 [.int .i64 rg, vps, .slice none 0 0, .slice none 0 0] :: sl 43 4 vF cF :: blk p7 24 [vF] :: blk p5 29 [.int .i64 0, .int .i64 0] :: blk p3 29 [.int .i64 0, .int .i64 0] :: blk p2 24 [.slice none 0 0] :: L) := hS.sp; refine Q1 ?_; refine zm ?_; refine zR2 (c := Q1m (s := QaU) hv g4.fine hS) (h := ?_); rintro v1 w1 ⟨at5, f5, g5, rfl, hS⟩; refine zn ?_; refine Q0 ?_; have hS : St c4 _ (rgb p27 (.slice av tk.length nv) src.length at5 f5 :: blk p8 43 [.int .i64 rg, vps, .slice none 0 0, .slice none 0 0] :: sl 43 4 vF cF :: blk p7 24 [vF] :: blk p5 29 [.int .i64 0, .int .i64 0] :: blk p3 29 [.int .i64 0, .int .i64 0] :: blk p2 24 [.slice none 0 0] :: L) := hS.sp; refine Q1 ?_; refine zm ?_)
       all_goals (refine zR2 (c := QlX hv g5.fine hS) (h := ?_); rintro vrs w1 ⟨rs, at6, f6, c5, g6, hle2, hkr, hS⟩; (try have hle := hle.trans hle2); (try have hL0 := hL0.trans hle2); (try have hv := hv.up hle2); (try have hkp := hkp.up hle2); (try have hlF := hlF.up hle2); have ho2 := Rep.SR.oneC hkr)
       all_goals (refine zf0 ?_; refine zst hS ?_; intro w1 hS; have hS := hS.ns; refine zn ?_; refine Q0 ?_; have hS : St c5 _ (rgb p27 (.slice av tk.length nv) src.length at6 f6 :: blk p8 43 [.int .i64 rg, vps, vrs, .slice none 0 0] :: sl 43 4 vF cF :: blk p7 24 [vF] :: blk p5 29 [.int .i64 0, .int .i64 0] :: blk p3 29 [.int .i64 0, .int .i64 0] :: blk p2 24 [.slice none 0 0] :: L) := hS.sp; refine Q1 ?_; refine zm ?_; refine zR2 (c := Q1m (s := [123]) hv g6.fine hS) (h := ?_); rintro v1 w1 ⟨at7, f7, g7, rfl, hS⟩; refine zn ?_; refine Q0 ?_; refine Qa ?_)
       refine zo [2, 3, 4, 6, 7, 8] (fun A ρ' w' => ∃ (k1 : Cx) (at8 k8 : Nat) (f8 : Flt) (bs : List Block) (vB : Value) (cB : List (List Value)), Has ρ' A ∧ Has ρ' [] ∧ (c5.Le k1) ∧ (POpt (Q4r (pAll (pIf (isT Q2d) (Q2G src.length))) tk at7 f7) (pIf (isT Q2d) (Q2G src.length)) tk at7 bs k8 at8 f8) ∧ (bs.length ≤ tk.length + 1) ∧ (f8 = (0, 0) → bs.length ≤ at8) ∧ (blockR.ls k1 cB bs) ∧ (oneC vB = true) ∧ St k1 w' (rgb p27 (.slice av tk.length nv) src.length at8 f8 :: sl 52 12 vB cB :: blk p8 43 [.int .i64 rg, vps, vrs, vB] :: sl 43 4 vF cF :: blk p7 24 [vF] :: blk p5 29 [.int .i64 0, .int .i64 0] :: blk p3 29 [.int .i64 0, .int .i64 0] :: blk p2 24 [.slice none 0 0] :: L)) (fun _ w' => tk.length + 2 - slen (QoG w' p8 3)) ?_ ?_
       · exact ⟨c5, at7, _, f7, [], .slice none 0 0, [], zh, zh, St.refl hS, Qu5 g7.fine, Nat.zero_le _, (fun _ => Nat.zero_le _), Rep.LR.nil _ _ _, rfl, by have hS := hS.nil (T := 52) (es := 12); exact hS.sp⟩
       rintro ρ w1 ⟨k1, at8, k8, f8, bs, vB, cB, hA, hρ, hle2, hP8, hx8, hxa8, hlB, hvB, hS⟩; obtain ⟨ρ, rfl⟩ := env2 hA hρ; have hL1 := hle2; (try have hle := hle.trans hle2); (try have hL0 := hL0.trans hle2); (try have hv := hv.up hle2); (try have hkp := hkp.up hle2); (try have hkr := hkr.up hle2); (try have hlF := hlF.up hle2); have hm8 := Q33 (j := 3) hS (i := 2) rfl rfl; have hsl8 := St.slen hS (i := 1) rfl; have hcl8 := hlB.1
       unfold Qij
       all_goals (refine Q0 ?_; refine Q0 ?_; refine Q1 ?_; refine zm ?_)
       all_goals (refine zR2 (c := Q2e (s := Q2d) hv hS) (h := ?_); rintro v1 w1 ⟨rfl, hS⟩; cases q8 : (decide (f8.1 = 0) && isT Q2d (tk.drop at8)))
       all_goals (refine zn ?_)
       all_goals
         first
         | (refine zct ?_ -- Q2T c2
            all_goals (refine zsk ?_; refine Qa ?_; refine Q0 ?_; obtain ⟨e8, ha8, q9⟩ := is_ok hP8.fine q8; rw [e8] at hS hP8 hxa8; have hxa8 := hxa8 rfl; have hfit8 := QcO ha8 q9; refine Q1 ?_; refine zm ?_; refine znc ?_; refine zf0 ?_; refine zl hS ?_; refine zad ?_; refine znc ?_; refine zf0 ?_; refine zst hS ?_; intro w1 hS; have hS := hS.ns; refine zn ?_; refine Q0 ?_; have hS : St k1 _ (rgb p27 (.slice av tk.length nv) src.length (at8 + 1) (0, 0) :: sl 52 12 vB cB :: blk p8 43 [.int .i64 rg, vps, vrs, vB] :: sl 43 4 vF cF :: blk p7 24 [vF] :: blk p5 29 [.int .i64 0, .int .i64 0] :: blk p3 29 [.int .i64 0, .int .i64 0] :: blk p2 24 [.slice none 0 0] :: L) := hS.sp; refine Q1 ?_; refine zm ?_; refine zR1 (c := Q1Q hv (Q3j hfit8) hS) (h := ?_); rintro v2 w1 ⟨rq, at9, f9, g9, rfl, hS⟩; refine zb1 [_, _, _, _, _, _, _, _, _, _, _, _] ?_; refine Q9 hS ?_; intro p9 w1 hS; refine zsn hS ?_; intro w1 hS; have hS := hS.ns; refine zn ?_; refine Q0 ?_; have hS : St k1 _ (rgb p27 (.slice av tk.length nv) src.length at9 f9 :: blk p9 52 [.int .i64 rq, .slice none 0 0, .slice none 0 0, .int .i64 0, .int .i64 0, .int .i64 0, .slice none 0 0, .slice none 0 0, .int .i64 0, .slice none 0 0, .slice none 0 0, .slice none 0 0] :: sl 52 12 vB cB :: blk p8 43 [.int .i64 rg, vps, vrs, vB] :: sl 43 4 vF cF :: blk p7 24 [vF] :: blk p5 29 [.int .i64 0, .int .i64 0] :: blk p3 29 [.int .i64 0, .int .i64 0] :: blk p2 24 [.slice none 0 0] :: L) := hS.sp)
            all_goals (refine Q1 ?_; refine zm ?_)
            all_goals (refine zR2 (c := QlX hv g9.fine hS) (h := ?_); rintro vqs w1 ⟨qs, at10, f10, c6, g10, hle2, hkq, hS⟩; (try have hle := hle.trans hle2); (try have hL0 := hL0.trans hle2); (try have hL1 := hL1.trans hle2); (try have hv := hv.up hle2); (try have hkp := hkp.up hle2); (try have hkr := hkr.up hle2); (try have hlF := hlF.up hle2); (try have hlB := hlB.up hle2); have ho3 := Rep.SR.oneC hkq)
            all_goals (refine zf0 ?_; refine zst hS ?_; intro w1 hS; have hS := hS.ns; refine zn ?_; refine Q0 ?_; have hS : St c6 _ (rgb p27 (.slice av tk.length nv) src.length at10 f10 :: blk p9 52 [.int .i64 rq, vqs, .slice none 0 0, .int .i64 0, .int .i64 0, .int .i64 0, .slice none 0 0, .slice none 0 0, .int .i64 0, .slice none 0 0, .slice none 0 0, .slice none 0 0] :: sl 52 12 vB cB :: blk p8 43 [.int .i64 rg, vps, vrs, vB] :: sl 43 4 vF cF :: blk p7 24 [vF] :: blk p5 29 [.int .i64 0, .int .i64 0] :: blk p3 29 [.int .i64 0, .int .i64 0] :: blk p2 24 [.slice none 0 0] :: L) := hS.sp; refine Q1 ?_; refine zm ?_; refine zR2 (c := Q1m (s := [123]) hv g10.fine hS) (h := ?_); rintro v1 w1 ⟨at11, f11, g11, rfl, hS⟩; refine zn ?_; refine Q0 ?_; refine Qa ?_)
            refine zo [2, 3, 4, 6, 7, 8, 9] (fun A ρ' w' => ∃ (k2 : Cx) (at12 k12 : Nat) (f12 : Flt) (xs2 : List Ins) (vC : Value) (cC : List (List Value)), Has ρ' A ∧ Has ρ' [] ∧ (c6.Le k2) ∧ (POpt (Q4r (pAll (pIns src.length)) tk at11 f11) (pIns src.length) tk at11 xs2 k12 at12 f12) ∧ (xs2.length ≤ tk.length + 1) ∧ (f12 = (0, 0) → xs2.length ≤ at12) ∧ (insR.ls k2 cC xs2) ∧ (oneC vC = true) ∧ St k2 w' (rgb p27 (.slice av tk.length nv) src.length at12 f12 :: sl 54 8 vC cC :: blk p9 52 [.int .i64 rq, vqs, vC, .int .i64 0, .int .i64 0, .int .i64 0, .slice none 0 0, .slice none 0 0, .int .i64 0, .slice none 0 0, .slice none 0 0, .slice none 0 0] :: sl 52 12 vB cB :: blk p8 43 [.int .i64 rg, vps, vrs, vB] :: sl 43 4 vF cF :: blk p7 24 [vF] :: blk p5 29 [.int .i64 0, .int .i64 0] :: blk p3 29 [.int .i64 0, .int .i64 0] :: blk p2 24 [.slice none 0 0] :: L)) (fun _ w' => tk.length + 2 - slen (QoG w' p9 2)) ?_ ?_
            · exact ⟨c6, at11, _, f11, [], .slice none 0 0, [], zh, zh, St.refl hS, Qu5 g11.fine, Nat.zero_le _, (fun _ => Nat.zero_le _), Rep.LR.nil _ _ _, rfl, by have hS := hS.nil (T := 54) (es := 8); exact hS.sp⟩
            rintro ρ w1 ⟨k2, at12, k12, f12, xs2, vC, cC, hA, hρ, hle2, hP12, hx12, hxa12, hlC, hvC, hS⟩; obtain ⟨ρ, rfl⟩ := env2 hA hρ; have hL2 := hle2; (try have hle := hle.trans hle2); (try have hL0 := hL0.trans hle2); (try have hL1 := hL1.trans hle2); (try have hv := hv.up hle2); (try have hkp := hkp.up hle2); (try have hkr := hkr.up hle2); (try have hlF := hlF.up hle2); (try have hlB := hlB.up hle2); (try have hkq := hkq.up hle2); have hm12 := Q33 (j := 2) hS (i := 2) rfl rfl; have hsl12 := St.slen hS (i := 1) rfl; have hcl12 := hlC.1
            unfold Qii
            all_goals (refine Qa ?_; refine Q0 ?_; refine Q1 ?_; refine zm ?_)
            all_goals (refine zR1 (c := rgins_c hv hP12.fine hS) (h := ?_); rintro u1 w1 ⟨x, bb, at13, f13, c7, vr, va, hI, hle2, hx, rfl, hS⟩; (try have hle := hle.trans hle2); (try have hL0 := hL0.trans hle2); (try have hL1 := hL1.trans hle2); (try have hL2 := hL2.trans hle2); (try have hv := hv.up hle2); (try have hkp := hkp.up hle2); (try have hkr := hkr.up hle2); (try have hlF := hlF.up hle2); (try have hlB := hlB.up hle2); (try have hkq := hkq.up hle2); (try have hlC := hlC.up hle2); have hxo := insR.one hx; rcases popt_i hP12 hI with ⟨eb, e12, e13, h13, h14, hP13⟩ | ⟨eb, hP13, hn13⟩ <;> rw [eb])
            all_goals (refine zm ?_; refine zxt ?_; refine zxt ?_; refine Q9 hS ?_; intro p10 w1 hS; refine zsn hS ?_; intro w1 hS; have hS := hS.ns; refine zm ?_; refine zn ?_; refine Q0 ?_; refine Q0 ?_; refine Q1 ?_; refine zm ?_; refine znt ?_; refine zn ?_)
            all_goals
              first
              | (refine zct ?_ -- Q2T c3
                 all_goals (refine zex ?_)
                 all_goals (have hTC := popt_end hP13 g11.fine hn13; obtain ⟨c8, hle2, hS2, hkc⟩ := St.freezeL (r := insR) (hS.out (r := sl 54 8 vC cC) fd) hlC rfl (by omega); clear hS; have hS := hS2; simp only [List.eraseIdx_cons_zero, List.eraseIdx_cons_succ] at hS; (try have hle := hle.trans hle2); (try have hL0 := hL0.trans hle2); (try have hL1 := hL1.trans hle2); (try have hL2 := hL2.trans hle2); (try have hv := hv.up hle2); (try have hkp := hkp.up hle2); (try have hkr := hkr.up hle2); (try have hlF := hlF.up hle2); (try have hlB := hlB.up hle2); (try have hkq := hkq.up hle2); (try have hlC := hlC.up hle2))
                 all_goals (refine Q0 ?_; have hS : St c8 _ (rgb p27 (.slice av tk.length nv) src.length at13 f13 :: blk p9 52 [.int .i64 rq, vqs, vC, .int .i64 0, .int .i64 0, .int .i64 0, .slice none 0 0, .slice none 0 0, .int .i64 0, .slice none 0 0, .slice none 0 0, .slice none 0 0] :: sl 52 12 vB cB :: blk p8 43 [.int .i64 rg, vps, vrs, vB] :: sl 43 4 vF cF :: blk p7 24 [vF] :: blk p5 29 [.int .i64 0, .int .i64 0] :: blk p3 29 [.int .i64 0, .int .i64 0] :: blk p2 24 [.slice none 0 0] :: L) := hS.sp; refine Q1 ?_; refine zm ?_)
                 all_goals (refine zR1 (c := rgends_c hv hTC.fine hS) (h := ?_); rintro u1 w1 ⟨t, at14, f14, c9, ds, g14, hle2, rfl, hd5, hS⟩; (try have hle := hle.trans hle2); (try have hL0 := hL0.trans hle2); (try have hL1 := hL1.trans hle2); (try have hL2 := hL2.trans hle2); (try have hv := hv.up hle2); (try have hkp := hkp.up hle2); (try have hkr := hkr.up hle2); (try have hlF := hlF.up hle2); (try have hlB := hlB.up hle2); (try have hkq := hkq.up hle2); (try have hlC := hlC.up hle2); (try have hkc := hkc.up hle2); have hone := endR.one hd5; obtain ⟨y1, y2, y3, y4, y5, rfl, i1, i2, i3, i4, i5⟩ := Qbl hd5; have hbk : blockR.at c9 [.int .i64 rq, vqs, vC, .int .i64 t.op, .int .i64 t.a, .int .i64 t.yes.block, y1, y2, .int .i64 t.no.block, y3, y4, y5] ⟨rq, qs, xs2, t⟩ := QoI (x := ⟨rq, qs, xs2, t⟩) hkq hkc i1 i2 i3 i4 i5)
                 all_goals (refine zf0 ?_; (first | (refine zsn hS ?_; intro w1 hS; have hS := hS.ns) | (refine zsm hS ?_; intro w1 hS; have hS := hS.ns)); refine zn ?_; refine Q0 ?_; have hS : St c9 _ (rgb p27 (.slice av tk.length nv) src.length at14 f14 :: blk p9 52 [.int .i64 rq, vqs, vC, .int .i64 t.op, .int .i64 t.a, .int .i64 t.yes.block, y1, y2, .int .i64 t.no.block, y3, y4, y5] :: sl 52 12 vB cB :: blk p8 43 [.int .i64 rg, vps, vrs, vB] :: sl 43 4 vF cF :: blk p7 24 [vF] :: blk p5 29 [.int .i64 0, .int .i64 0] :: blk p3 29 [.int .i64 0, .int .i64 0] :: blk p2 24 [.slice none 0 0] :: L) := hS.sp; refine Q1 ?_; refine zm ?_; refine zR2 (c := Q1m (s := [125]) hv g14.fine hS) (h := ?_); rintro v1 w1 ⟨at15, f15, g15, rfl, hS⟩; have hbl := Qsj ha8 q9 g9 g10 g11 hTC g14 g15; refine zn ?_; refine Q1 ?_; refine zf0 ?_; refine zl hS ?_; refine zv hS ?_; refine zB1 hS [_, _, _, _, _, _, _, _, _, _, _, _] ?_; intro b1 w1 hS; refine za el_T41 u_T41 hS ?_; intro vp1 w1 css1 hls1 hv1 hS; have hS := hS.ns)
                 all_goals (refine zf0 ?_; refine zst hS ?_; intro w1 hS; have hS := hS.ns; refine zn ?_)
                 all_goals (exact ⟨⟨_, at15, k8 - 1, f15, bs ++ [⟨rq, qs, xs2, t⟩], _, _, zh, zh, hL1, popt_p hP8 q9 hbl.1 hbl.2, (by rw [List.length_append]; simp only [List.length_cons, List.length_nil]; omega), (by intro h9; have := hbl.2 h9; rw [List.length_append]; simp only [List.length_cons, List.length_nil]; omega), hls1, by assumption, hS.sp⟩, by rw [hm8, Q33 (j := 3) hS (i := 4) rfl rfl, St.slen hS (i := 3) rfl, hsl8, hcl8, hls1.1, List.length_append]; simp only [List.length_cons, List.length_nil]; omega⟩))
              | (refine zcf ?_ -- Q2T c3
                 all_goals (refine zsk ?_; have hxa12 := hxa12 e12; have hx' := hx; refine Q1 ?_; refine zf0 ?_; refine zl hS ?_; refine zv hS ?_; refine zB1 hS [_, _, _, _, _, _, _, _] ?_; intro b1 w1 hS; refine za el_T45 u_T45 hS ?_; intro vp2 w2 css2 hls2 hv2 hS; have hS := hS.ns; refine zf0 ?_; refine zst hS ?_; intro w1 hS; have hS := hS.ns; refine zn ?_)
                 all_goals (exact ⟨⟨_, at13, k12 - 1, f13, xs2 ++ [x], _, _, zh, zh, hL2, hP13, (by rw [List.length_append]; simp only [List.length_cons, List.length_nil]; omega), (by intro _; rw [List.length_append]; simp only [List.length_cons, List.length_nil]; omega), hls2, by assumption, hS.sp⟩, by rw [hm12, Q33 (j := 2) hS (i := 4) rfl rfl, St.slen hS (i := 3) rfl, hsl12, hcl12, hls2.1, List.length_append]; simp only [List.length_cons, List.length_nil]; omega⟩)))
         | (refine zcf ?_ -- Q2T c2
            all_goals (refine zex ?_)
            all_goals (have hTB := popt_end hP8 g7.fine (fun h9 => pif_n (is_no q8 (by rw [h9]))); obtain ⟨c10, hle2, hS2, hkb⟩ := St.freezeL (r := blockR) (hS.out (r := sl 52 12 vB cB) fd) hlB rfl (by omega); clear hS; have hS := hS2; simp only [List.eraseIdx_cons_zero, List.eraseIdx_cons_succ] at hS; (try have hle := hle.trans hle2); (try have hL0 := hL0.trans hle2); (try have hL1 := hL1.trans hle2); (try have hv := hv.up hle2); (try have hkp := hkp.up hle2); (try have hkr := hkr.up hle2); (try have hlF := hlF.up hle2); (try have hlB := hlB.up hle2); have hfn : funcR.at c10 [.int .i64 rg, vps, vrs, vB] ⟨rg, ps, rs, bs⟩ := ⟨_, _, _, rfl, hkp, hkr, hkb⟩)
            all_goals (refine Q0 ?_; have hS : St c10 _ (rgb p27 (.slice av tk.length nv) src.length at8 f8 :: blk p8 43 [.int .i64 rg, vps, vrs, vB] :: sl 43 4 vF cF :: blk p7 24 [vF] :: blk p5 29 [.int .i64 0, .int .i64 0] :: blk p3 29 [.int .i64 0, .int .i64 0] :: blk p2 24 [.slice none 0 0] :: L) := hS.sp; refine Q1 ?_; refine zm ?_; refine zR2 (c := Q1m (s := [125]) hv hTB.fine hS) (h := ?_); rintro v1 w1 ⟨at16, f16, g16, rfl, hS⟩; have hfu := take_fun g2 g3 g4 g5 g6 g7 hTB g16; refine zn ?_; refine Q1 ?_; refine zf0 ?_; refine zl hS ?_; refine zv hS ?_; refine zB1 hS [_, _, _, _] ?_; intro b1 w1 hS; refine za el_T22 u_T22 hS ?_; intro vp3 w3 css3 hls3 hv3 hS; have hS := hS.ns; refine zf0 ?_; refine zst hS ?_; intro w1 hS; have hS := hS.ns; refine zn ?_)
            all_goals (exact ⟨⟨_, at16, k - 1, f16, xs ++ [⟨rg, ps, rs, bs⟩], _, _, zh, zh, hL0, popt_p hP (ne_drop (by omega)) hfu.1 hfu.2, (by rw [List.length_append]; simp only [List.length_cons, List.length_nil]; omega), (by intro h9; have := hfu.2 h9; rw [List.length_append]; simp only [List.length_cons, List.length_nil]; omega), hls3, by assumption, hS.sp⟩, by rw [hm0, Q33 (j := 0) hS (i := 4) rfl rfl, St.slen hS (i := 3) rfl, hsl0, hcl0, hls3.1, List.length_append]; simp only [List.length_cons, List.length_nil]; omega⟩)))
    | (refine zcf ?_ -- Q2T c1
       all_goals (refine zex ?_; refine Q0 ?_; refine Q0 ?_; refine Q1 ?_; refine zm ?_; refine zR1 (c := Q1U hS) (h := ?_); rintro v1 w1 ⟨rfl, hS⟩; (first | rw [decide_eq_false hd2] | rw [decide_eq_true (show ((0, 0) : Flt).1 = 0 from rfl)]); refine znt ?_; refine zn ?_)
       all_goals
         first
         | (refine zct ?_ -- Q2T c4
            all_goals (refine Q0 ?_; refine zC [(0, none), (1, none), (2, none), (3, none), (4, none), (5, some (some [4])), (6, some none)] ?_; have hS := hS.drew; refine s_cq ?_; refine zb0 [_] ?_; refine zt ?_; refine s_cq ?_; refine zm ?_; refine zt ?_; refine s_cq ?_; refine znc ?_; refine zt ?_; refine s_cq ?_; refine zf0 ?_; refine zt ?_; refine s_cq ?_; refine zv hS ?_; refine zt ?_; refine Q5D ?_; refine zsn hS ?_; intro w1 hS; have hS := hS.ns; refine zt ?_; refine zy ?_; refine s_cf ?_; refine zsn hS ?_; intro w1 hS; have hS := hS.ns; refine zt ?_; refine zcn ?_; refine zr ?_; refine Q5G vw (Q5 (n := 1) (by kernel_rfl) (by kernel_rfl) (hS.blkAt fd) (by rfl) (by rfl)) vw (Q5 (n := 2) (by kernel_rfl) (by kernel_rfl) (hS.blkAt fd) (by rfl) (by rfl)) ?_)
            all_goals ((first | exact ⟨_, rfl, .inr ⟨_, Q7d hs, rfl, hS.sp⟩⟩ | exact ⟨_, rfl, .inr ⟨_, Qmc hs (funs_X.trans (Qu4 hP hd2)), rfl, St.weak hS.sp hle⟩⟩)))
         | (refine zcf ?_ -- Q2T c4
            all_goals refine zsk ?_)
       all_goals (refine Q0 ?_; refine Q0 ?_)
       all_goals (have hfin := funs_X.trans (popt_o hP (pif_n (ne_end (by omega)))); obtain ⟨c11, hle2, hS2, hkf⟩ := St.freezeL (r := funcR) (hS.out (r := sl 43 4 vF cF) fd) hlF rfl (by omega); clear hS; have hS := hS2; simp only [List.eraseIdx_cons_zero, List.eraseIdx_cons_succ] at hS; (try have hle := hle.trans hle2); (try have hL0 := hL0.trans hle2); (try have hv := hv.up hle2); (try have hlF := hlF.up hle2); have hx' : modR.at c11 [vF] ⟨xs⟩ := ⟨_, rfl, hkf⟩; have hms := Qh0 (by omega) hfin)
       all_goals (refine Q1 ?_; refine zv hS ?_; refine zR1 (c := rcheck_c hms hx' hS) (h := ?_); rintro v1 w1 ⟨rfl, hS⟩; unfold fltV; refine Q9 hS ?_; intro p12 w1 hS; refine zsn hS ?_; intro w1 hS; have hS := hS.ns; refine zn ?_; refine Q0 ?_; refine Q1 ?_; refine zf0 ?_; refine zl hS ?_)
       all_goals (first | (refine Q1h ?_) | (refine Q1j ?_) | (refine Qv rfl rfl (fun hc => ?_) (fun hc => ?_)))
       all_goals (refine zn ?_)
       all_goals
         first
         | (refine zct ?_ -- Q2T c5
            all_goals (refine Q0 ?_; refine zC [(0, none), (1, none), (2, some (some [1])), (3, some none)] ?_; have hS := hS.drew; refine s_cq ?_; refine zb0 [_] ?_; refine zt ?_; refine s_cq ?_; refine zv hS ?_; refine zt ?_; refine Q5D ?_; refine zsn hS ?_; intro w1 hS; have hS := hS.ns; refine zt ?_; refine zy ?_; refine s_cf ?_; refine zsn hS ?_; intro w1 hS; have hS := hS.ns; refine zt ?_; refine zcn ?_; refine zr ?_; refine Q5G vw (Q5 (n := 1) (by kernel_rfl) (by kernel_rfl) (hS.blkAt fd) (by rfl) (by rfl)) vw (Q5 (n := 2) (by kernel_rfl) (by kernel_rfl) (hS.blkAt fd) (by rfl) (by rfl)) ?_)
            all_goals ((first | exact ⟨_, rfl, .inr ⟨_, Q7d hs, rfl, hS.sp⟩⟩ | exact ⟨_, rfl, .inr ⟨_, Qmc hs (funs_X.trans (Qu4 hP hd2)), rfl, St.weak hS.sp hle⟩⟩ | exact ⟨_, rfl, .inr ⟨_, Qmb hs hfin (by omega), rfl, St.weak hS.sp hle⟩⟩)))
         | (refine zcf ?_ -- Q2T c5
            all_goals refine zsk ?_)
       all_goals (refine Q0 ?_; refine Q1 ?_; refine zv hS ?_; refine zb0 [_, _] ?_; refine zsn hS ?_; intro w1 hS; have hS := hS.ns; refine zsn hS ?_; intro w1 hS; have hS := hS.ns; refine zn ?_; refine zr ?_; refine Q5G vw (Q5 (n := 1) (by kernel_rfl) (by kernel_rfl) (hS.blkAt fd) (by rfl) (by rfl)) vw (Q5 (n := 2) (by kernel_rfl) (by kernel_rfl) (hS.blkAt fd) (by rfl) (by rfl)) ?_)
       all_goals ((first | exact ⟨_, rfl, .inr ⟨_, Q7d hs, rfl, hS.sp⟩⟩ | exact ⟨_, rfl, .inr ⟨_, Qmc hs (funs_X.trans (Qu4 hP hd2)), rfl, St.weak hS.sp hle⟩⟩ | exact ⟨_, rfl, .inr ⟨_, Qmb hs hfin (by omega), rfl, St.weak hS.sp hle⟩⟩ | exact ⟨_, rfl, .inl ⟨_, c11, vF, Qu7 hs hfin (by omega), rfl, hle, hx', hS.sp⟩⟩)))
end Go.Proofs.YtjecflbbcnocdaaGreatDoor
namespace Go.Proofs.YtjecflbbcnocdaaGreatDoor
open Go.Lir
set_option maxHeartbeats 1000000
attribute [local irreducible] LC.wp Q2 QA QB retQ Q1e LO.wp Qj Calls
set_option linter.unusedSimpArgs false
set_option linter.unusedVariables false
attribute [local irreducible] scan skip Q3h Module.fault Q3G wordN
variable {cx : Cx} {w : World} {L : List Res}
theorem rparse_o {s : List UInt8} {m : Module} (h : Q3G s = .ok m) (hT : NumK cx) (hl : s.length ≤ 100000) (hS : St cx w L) :
    Rets Tryz.prog Q2T [.string ⟨s.toArray⟩] w fun u w' => ∃ c' a n, cx.Le c' ∧ u = .tuple #[.agg ⟨[.slice a m.funcs.length n]⟩, .agg ⟨[.int .i64 0, .int .i64 0]⟩] ∧ funcR.sl c' (.slice a m.funcs.length n) m.funcs ∧ St c' w' L := by
  refine (QrK hT hl hS).mono ?_
  rintro u w' (⟨m2, c', vf, h1, rfl, hle, hm, hS⟩ | ⟨f, h1, rfl, hS⟩)
  · rw [h] at h1; cases h1
    obtain ⟨v9, e9, hf⟩ := Q47 hm
    cases e9
    obtain ⟨a, n, rfl⟩ := Rep.SR.shape hf
    exact ⟨c', a, n, hle, rfl, hf, hS⟩
  · rw [h] at h1; cases h1
theorem rparse_f {s : List UInt8} {f : Flt} (h : Q3G s = .error f) (hT : NumK cx) (hl : s.length ≤ 100000) (hS : St cx w L) :
    Rets Tryz.prog Q2T [.string ⟨s.toArray⟩] w fun u w' => u = .tuple #[.agg ⟨[vn]⟩, .agg ⟨[.int .i64 f.1, .int .i64 f.2]⟩] ∧ St cx w' L := by
  refine (QrK hT hl hS).mono ?_
  rintro u w' (⟨m2, c', vf, h1, rfl, hle, hm, hS⟩ | ⟨f2, h1, rfl, hS⟩)
  · rw [h] at h1; cases h1
  · rw [h] at h1; cases h1; exact ⟨rfl, hS⟩
theorem reads_o {s : List UInt8} {m : Module} {k : Int} (em : Q3G s = .ok m) (hl : s.length ≤ 9223372036854775807) (hT : NumK cx) (hS : St cx w L) : Rets Tryz.prog Q1g [.string ⟨s.toArray⟩, .int .i64 k] w fun u w' => u = .bool true ∧ St cx w' L := by
  have hle := St.refl hS
  all_goals refine Q5m ?_
  all_goals (unfold Law_ParseReads_lc; refine Q0 ?_; refine Q1 ?_; refine zm ?_; refine zn ?_; refine Q0 ?_; refine Q0 ?_; refine Q1 ?_; refine zR0 (c := QeX hT hS) (h := ?_); rintro v1 w1 ⟨rfl, hS⟩; refine znt ?_; refine zn ?_)
  all_goals
    first
    | (refine zct ?_ -- Q1g c0
       all_goals (refine Q0 ?_; refine Q1 ?_; refine zm ?_; refine zn ?_; refine zr ?_; refine zf ?_)
       all_goals (exact ⟨_, rfl, rfl, St.weak hS.sp hle⟩))
    | (refine zcf ?_ -- Q1g c0
       all_goals refine zsk ?_)
  all_goals (refine Q0 ?_; refine Q0 ?_; refine Q1 ?_; refine zm ?_; refine Q1P rfl ?_; refine Qcr rfl rfl ?_; refine zn ?_)
  refine QM rfl (fun hc => ?_) (fun hc => ?_)
  · skip
    all_goals (refine Q0 ?_; refine Q1 ?_; refine zm ?_; refine zn ?_; refine zr ?_; refine zf ?_; exact ⟨_, rfl, rfl, St.weak hS.sp hle⟩)
  · skip
    all_goals (refine zsk ?_; refine Q0 ?_; refine Q1 ?_; refine zm ?_)
    all_goals (refine zR1 (c := pparse_o em hT hl hS) (h := ?_); rintro v1 w1 ⟨c1, am, nm, hle2, rfl, hkm, hS⟩; (try have hle := hle.trans hle2); have hT1 := hT.up hle2)
    all_goals (refine zm ?_; refine zxt ?_; refine zxt ?_; refine Q9 hS ?_; intro p5 w1 hS; refine Q9 hS ?_; intro p6 w1 hS; refine zsn hS ?_; intro w1 hS; have hS := hS.ns; refine zsn hS ?_; intro w1 hS; have hS := hS.ns; refine zn ?_; refine Q0 ?_; refine Q1 ?_; refine zm ?_)
    all_goals (refine zR1 (c := rparse_o em hT1 (by omega) hS) (h := ?_); rintro v1 w1 ⟨c2, an, nn, hle2, rfl, hkn, hS⟩; (try have hle := hle.trans hle2); (try have hkm := hkm.up hle2); have hx' : modR.at c2 [.slice am m.funcs.length nm] m := ⟨_, rfl, hkm⟩; have hy' : modR.at c2 [.slice an m.funcs.length nn] m := ⟨_, rfl, hkn⟩)
    all_goals (refine zm ?_; refine zxt ?_; refine zxt ?_; refine Q9 hS ?_; intro p7 w1 hS; refine Q9 hS ?_; intro p8 w1 hS; refine zsn hS ?_; intro w1 hS; have hS := hS.ns; refine zsn hS ?_; intro w1 hS; have hS := hS.ns; refine zn ?_; refine Q0 ?_; refine Q1 ?_; refine zv hS ?_; refine zv hS ?_; refine QtH (a := (0, 0)) Qs4 rfl rfl ?_; refine zm ?_; (first | refine zgn ?_ | (refine zgy ?_; refine zv hS ?_)); (first | refine zgn ?_ | (refine zgy ?_; refine zv hS ?_)); (first | refine zgn ?_ | (refine zgy ?_; refine zR2 (c := Ql1 hx' hy' hS) (h := ?_); rintro v1 w1 ⟨rfl, hS⟩; rw [decide_eq_true (show m = m from rfl)])); refine zpt ?_; refine zm ?_; (first | refine zgn ?_ | (refine zgy ?_; refine zm ?_)); (first | refine zgn ?_ | (refine zgy ?_; refine zR1 (c := QrQ hS) (h := ?_); rintro v1 w1 ⟨rfl, hS⟩)); (first | refine zgn ?_ | (refine zgy ?_; refine zm ?_)); (first | refine zgn ?_ | (refine zgy ?_; refine zR1 (c := QrL hS) (h := ?_); rintro v1 w1 ⟨rfl, hS⟩)))
    all_goals ((first | refine zgn ?_ | (refine zgy ?_; refine Ql0 rfl rfl rfl ?_)); refine zpt ?_; refine zm ?_; (first | refine zgn ?_ | (refine zgy ?_; refine zm ?_)); (first | refine zgn ?_ | (refine zgy ?_; refine zR1 (c := Qgh hS) (h := ?_); rintro v1 w1 ⟨rfl, hS⟩)); (first | refine zgn ?_ | (refine zgy ?_; refine zm ?_)); (first | refine zgn ?_ | (refine zgy ?_; refine zR1 (c := QlW hS) (h := ?_); rintro v1 w1 ⟨rfl, hS⟩)); (first | refine zgn ?_ | (refine zgy ?_; refine Ql0 rfl rfl rfl ?_)); refine zpt ?_; refine zm ?_; refine zn ?_; refine zr ?_; refine zf ?_; exact ⟨_, rfl, rfl, St.weak hS.sp hle⟩)
theorem reads_f {s : List UInt8} {f : Flt} {k : Int} (em : Q3G s = .error f) (hl : s.length ≤ 9223372036854775807) (hT : NumK cx) (hS : St cx w L) : Rets Tryz.prog Q1g [.string ⟨s.toArray⟩, .int .i64 k] w fun u w' => u = .bool true ∧ St cx w' L := by
  have hle := St.refl hS
  have hx' : modR.at cx [vn] ⟨[]⟩ := ⟨_, rfl, Rep.SR.nil _ _ _⟩
  all_goals refine Q5m ?_
  all_goals (unfold Law_ParseReads_lc; refine Q0 ?_; refine Q1 ?_; refine zm ?_; refine zn ?_; refine Q0 ?_; refine Q0 ?_; refine Q1 ?_; refine zR0 (c := QeX hT hS) (h := ?_); rintro v1 w1 ⟨rfl, hS⟩; refine znt ?_; refine zn ?_)
  all_goals
    first
    | (refine zct ?_ -- Q1g c0
       all_goals (refine Q0 ?_; refine Q1 ?_; refine zm ?_; refine zn ?_; refine zr ?_; refine zf ?_)
       all_goals (exact ⟨_, rfl, rfl, St.weak hS.sp hle⟩))
    | (refine zcf ?_ -- Q1g c0
       all_goals refine zsk ?_)
  all_goals (refine Q0 ?_; refine Q0 ?_; refine Q1 ?_; refine zm ?_; refine Q1P rfl ?_; refine Qcr rfl rfl ?_; refine zn ?_)
  refine QM rfl (fun hc => ?_) (fun hc => ?_)
  · skip
    all_goals (refine Q0 ?_; refine Q1 ?_; refine zm ?_; refine zn ?_; refine zr ?_; refine zf ?_; exact ⟨_, rfl, rfl, St.weak hS.sp hle⟩)
  · skip
    all_goals (refine zsk ?_; refine Q0 ?_; refine Q1 ?_; refine zm ?_; refine zR1 (c := pparse_f em hT hl hS) (h := ?_); rintro v1 w1 ⟨rfl, hS⟩; refine zm ?_; refine zxt ?_; refine zxt ?_; refine Q9 hS ?_; intro p5 w1 hS; refine Q9 hS ?_; intro p6 w1 hS; refine zsn hS ?_; intro w1 hS; have hS := hS.ns; refine zsn hS ?_; intro w1 hS; have hS := hS.ns; refine zn ?_; refine Q0 ?_; refine Q1 ?_; refine zm ?_; refine zR1 (c := rparse_f em hT (by omega) hS) (h := ?_); rintro v1 w1 ⟨rfl, hS⟩; refine zm ?_; refine zxt ?_; refine zxt ?_; refine Q9 hS ?_; intro p7 w1 hS; refine Q9 hS ?_; intro p8 w1 hS; refine zsn hS ?_; intro w1 hS; have hS := hS.ns; refine zsn hS ?_; intro w1 hS; have hS := hS.ns; refine zn ?_; refine Q0 ?_; refine Q1 ?_; refine zv hS ?_; refine zv hS ?_; refine QtH (a := f) Qs4 rfl rfl ?_; refine zm ?_; (first | refine zgn ?_ | (refine zgy ?_; refine zv hS ?_)); (first | refine zgn ?_ | (refine zgy ?_; refine zv hS ?_)))
    all_goals ((first | refine zgn ?_ | (refine zgy ?_; refine zR2 (c := Ql1 hx' hx' hS) (h := ?_); rintro v1 w1 ⟨rfl, hS⟩; rw [decide_eq_true (show (⟨[]⟩ : Module) = ⟨[]⟩ from rfl)])); refine zpt ?_; refine zm ?_; (first | refine zgn ?_ | (refine zgy ?_; refine zm ?_)); (first | refine zgn ?_ | (refine zgy ?_; refine zR1 (c := QrQ hS) (h := ?_); rintro v1 w1 ⟨rfl, hS⟩)); (first | refine zgn ?_ | (refine zgy ?_; refine zm ?_)); (first | refine zgn ?_ | (refine zgy ?_; refine zR1 (c := QrL hS) (h := ?_); rintro v1 w1 ⟨rfl, hS⟩)); (first | refine zgn ?_ | (refine zgy ?_; refine Ql0 rfl rfl rfl ?_)); refine zpt ?_; refine zm ?_; (first | refine zgn ?_ | (refine zgy ?_; refine zm ?_)); (first | refine zgn ?_ | (refine zgy ?_; refine zR1 (c := Qgh hS) (h := ?_); rintro v1 w1 ⟨rfl, hS⟩)); (first | refine zgn ?_ | (refine zgy ?_; refine zm ?_)); (first | refine zgn ?_ | (refine zgy ?_; refine zR1 (c := QlW hS) (h := ?_); rintro v1 w1 ⟨rfl, hS⟩)); (first | refine zgn ?_ | (refine zgy ?_; refine Ql0 rfl rfl rfl ?_)); refine zpt ?_; refine zm ?_; refine zn ?_; refine zr ?_; refine zf ?_; exact ⟨_, rfl, rfl, St.weak hS.sp hle⟩)
theorem Qoj (s : List UInt8) (k : Int) (hl : s.length ≤ 9223372036854775807) (hT : NumK cx) (hS : St cx w L) : Rets Tryz.prog Q1g [.string ⟨s.toArray⟩, .int .i64 k] w fun u w' => u = .bool true ∧ St cx w' L := by
  rcases parse_two s with ⟨m, em⟩ | ⟨f, _, em⟩
  · exact reads_o em hl hT hS
  · exact reads_f em hl hT hS
end Go.Proofs.YtjecflbbcnocdaaGreatDoor
namespace Go.Proofs.YtjecflbbcnocdaaGreatDoor
open Go.Lir
theorem parseReads_rd {w : World} (hT : NumK (Cx.top w)) (s : ByteArray) (k : Int) (h : s.size ≤ maxLen) : Rets Tryz.prog Q1g [.string s, .int .i64 k] w fun v w' => v = .bool true ∧ Fr NF w w' :=
  Rets.mono (Qoj (cx := Cx.top w) s.data.toList k (by have h : s.data.size ≤ 2 ^ 63 - 1 := h; rw [Array.length_toList]; omega) hT (St.top w)) fun _ _ ⟨h, h2⟩ => ⟨h, h2.fr⟩
end Go.Proofs.YtjecflbbcnocdaaGreatDoor
namespace Go.Proofs.YtjecflbbcnocdaaGreatDoor
open Go.Lir
abbrev laid3 : List (String × DataW Unit) := [("math/bits.deBruijn32tab", Rows.laid_math_bits_deBruijn32tab), ("math/bits.deBruijn64tab", Rows.laid_math_bits_deBruijn64tab), ("internal/strconv.uint64pow10", Rows.laid_internal_strconv_uint64pow10), ("strconv.ErrRange", Rows.laid_strconv_ErrRange), ("strconv.ErrSyntax", Rows.laid_strconv_ErrSyntax)]
theorem door_met (os : Os) (args : Array Value) : laidMetH Tryz.prog laid3 ((World.doorLaid Tryz.prog 2000 os).forCall (fun _ _ => 0) ⟨#[], args, []⟩).memory :=
  laidMetH_of_parts3 (fuel := 8) (laidMet_of_run' 8 (by kernel_rfl) (by kernel_rfl)) (by kernel_rfl) (by kernel_rfl)
theorem pow_lit : (Rows.laid_internal_strconv_uint64pow10 : DataW Unit) = Lib.tabData .u64 Lib.pow10Tab := by kernel_rfl
theorem err_row (u : TypeId) (h : Tryz.prog.typeName? 3 u = some "*errors.errorString") : u = 204 :=
  typeName_ptr_named (nm := "errors.errorString") (by rw [show "*" ++ "errors.errorString" = "*errors.errorString" by decide]; kernel_rfl) (by kernel_rfl) (by decide) u (by rw [show "*" ++ "errors.errorString" = "*errors.errorString" by decide]; exact h)
theorem err_of {W : World} {n : String} {g : Nat} {text : List UInt8} {r : List (String × DataW Unit)} (hg : Tryz.prog.globalNamed n = some g) (ht : (Tryz.prog.globals[g]?).map (·.type) = some 109) (hlt : g < W.heap.size) (h : laidMet Tryz.prog ((n, .iface "*errors.errorString" (.ptr (.agg [.lit (.string text)]))) :: r) W) : ErrV (Cx.top W) g := by
  obtain ⟨a, s, hv, _⟩ := laid_sentinel h hg ht Tryz.underlying109 err_row Tryz.underlying204 Tryz.underlying206 rfl rfl Tryz.underlying9 (by kernel_rfl) (by kernel_rfl)
  refine ⟨hlt, fun w hw => ⟨.iface 204 (.pointer (some a)), ?_, .inr ⟨_, _, rfl⟩⟩⟩
  have hw2 : w.heap[g]? = W.heap[g]? := hw
  have h2 : w.var? Tryz.prog n = some #[.iface 204 (.pointer (some a))] := by
    unfold World.var? at hv ⊢
    rw [hg] at hv ⊢
    simp only [Option.bind_some] at hv ⊢
    rw [hw2]; exact hv
  exact World.var?_cell hg h2 0
theorem big_of {W : World} {n : String} {g : Nat} {x : DataW Unit} {r : List (String × DataW Unit)} (hg : Tryz.prog.globalNamed n = some g) (h : laidMet Tryz.prog ((n, x) :: r) W) : g < W.heap.size := by
  obtain ⟨ps, ⟨g0, t0, cs0, f0, p0, q0, hg0, ht0, hv0, hd0, _, e0⟩, _, hrows⟩ := h
  obtain rfl := Option.some.inj (hg.symm.trans hg0)
  rcases Nat.lt_or_ge g W.heap.size with h' | h'
  · exact h'
  · unfold World.var? at hv0
    rw [hg] at hv0
    simp only [Option.bind_some, Array.getElem?_eq_none h'] at hv0
    cases hv0
/-- What the numbers' texts need lies in what is only read. -/
theorem pow_of {W : World} (h : laidMetH Tryz.prog laid3 W) : NumK (Cx.top W) := by
  rw [MakeChecks.laidMetH_plain _ _ _ (by kernel_rfl)] at h
  have h2 := h.tail.tail
  have h3 := h2.tail
  rw [pow_lit] at h2
  exact ⟨TabK.top (Lib.tabIs_of_head (g := 0) (t := 193) (e := 177) (n := 20) (by kernel_rfl) (by kernel_rfl) (by kernel_rfl) (by kernel_rfl) (by kernel_rfl) (by kernel_rfl) h2), err_of (g := 2) (by kernel_rfl) (by kernel_rfl) (big_of (by kernel_rfl) h3.tail) h3.tail, err_of (g := 3) (by kernel_rfl) (by kernel_rfl) (big_of (by kernel_rfl) h3) h3⟩
end Go.Proofs.YtjecflbbcnocdaaGreatDoor
