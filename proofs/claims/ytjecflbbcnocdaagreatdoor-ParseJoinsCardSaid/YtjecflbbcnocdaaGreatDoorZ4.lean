/- Lemmas of the proof, part 4: what the functions of the program do (contracts), and what follows. -/
import Derived.Test.YtjecflbbcnocdaaGreatDoorZ2
import Derived.Test.YtjecflbbcnocdaaGreatDoorZ3
import Derived.Lib.ParseIntBTie
namespace Go.Proofs.YtjecflbbcnocdaaGreatDoor
open Go.Lir
set_option maxHeartbeats 1000000
attribute [local irreducible] LC.wp Q3 QF QK retQ Q1E LO.wp Qq Calls
set_option linter.unusedSimpArgs false
set_option linter.unusedVariables false
attribute [local irreducible] skip Lib.itoa Lib.parseIntB tok1
variable {cx : Cx} {w : World} {L : List Res}
abbrev tokV (a : Int) (t : List UInt8) (m : Option Int) : Value := .agg ⟨[.int .i64 a, .string ⟨t.toArray⟩, .bool m.isSome, .int .i64 (m.getD 0)]⟩
theorem Qoo {t : List UInt8} (h : ∀ n, Lib.parseIntB 64 t ≠ .ok n) : QdP t = none := by
  unfold QdP
  split
  · rename_i n hn; exact absurd hn (h n)
  · rfl
theorem Qon {t : List UInt8} {n : Int} (h : Lib.parseIntB 64 t = .ok n) : QdP t = if Lib.itoa n = t then some n else none := by
  unfold QdP; rw [h]
theorem Qmw {src pre : List UInt8} {sb at0 : Nat} {a : Int} (hT : NumK cx) (hl : src.length ≤ 50000) (hpre : pre.length ≤ 1) (ha : at0 ≤ src.length) (hS : St cx w (scn sb src at0 :: L)) :
    Rets Tryz.prog Q1N [.pointer (some ⟨sb, 0, none⟩), .int .i64 a, .string ⟨pre.toArray⟩] w fun u w' => ((∃ n, QdP (pre ++ (src.drop at0).takeWhile Q17) = some n ∧ u = .tuple #[tokV a (pre ++ (src.drop at0).takeWhile Q17) (some n), .int .i64 0]) ∨ (QdP (pre ++ (src.drop at0).takeWhile Q17) = none ∧ u = .tuple #[tokV 0 [] none, .int .i64 8])) ∧ St cx w' (scn sb src (at0 + ((src.drop at0).takeWhile Q17).length) :: L) := by
  have hw : ((src.drop at0).takeWhile Q17).length ≤ 50000 := by
    have h1 := (List.takeWhile_prefix (l := src.drop at0) Q17).length_le
    rw [List.length_drop] at h1; omega
  obtain ⟨t, ht⟩ : ∃ t, pre ++ (src.drop at0).takeWhile Q17 = t := ⟨_, rfl⟩
  have htl : t.length ≤ 50001 := by rw [← ht, List.length_append]; omega
  rw [ht]
  all_goals refine Q4S ?_
  all_goals (unfold token_scanner_number_lc; refine Q0 ?_; refine Q1 ?_; refine Qb hS ?_; intro p6 w1 hS; refine zm ?_; refine zn ?_; refine Q0 ?_; refine Q1 ?_; refine zm ?_; refine zm ?_; have hS : St cx _ (scn sb src at0 :: _) := hS.mv1; refine zR2 (c := Qnn (g := 118) (p := Q17) (by kernel_rfl) (fun c {_ _ _} h => Qlz h) (by omega) ha hS) (h := ?_); rintro v1 w1 ⟨rfl, hS⟩; refine s_sadd rfl rfl (by omega) ?_; rw [ht]; refine zm ?_; refine zn ?_; refine Q0 ?_; refine Q1 ?_; refine zm ?_)
  all_goals (refine zR3 (c := parse_c (by omega) hT hS) (h := ?_); rintro v1 w1 (⟨n, hn, rfl, hS⟩ | ⟨hno, n, T, p, rfl, hp, hS⟩))
  all_goals (refine zm ?_; refine Q1M rfl rfl ?_; refine Q1M rfl rfl ?_; refine zm ?_; refine zm ?_; refine zn ?_; refine Q0 ?_; refine Q0 ?_; refine Q1 ?_; refine zm ?_; (first | refine Qmk Tryz.underlying109 rfl ?_ | refine Qml Tryz.underlying109 rfl ?_); refine zm ?_; (first | refine s_gn rfl rfl ?_ | (refine s_gy rfl ?_; refine zm ?_)); (first | refine s_gn rfl rfl ?_ | (refine s_gy rfl ?_; have hb9 := Lib.parseIntB_bounds hn; refine zR2 (c := fmt_c (by omega) (by omega) hT hS) (h := ?_); rintro v1 w1 ⟨rfl, hS⟩)); (first | refine s_gn rfl rfl ?_ | (refine s_gy rfl ?_; refine zm ?_)))
  all_goals (first | refine s_gn rfl rfl ?_ | (refine s_gy rfl ?_; refine s_sneqx rfl rfl ?_; cases hq : decide (Lib.itoa n ≠ t)))
  all_goals ((first | (refine zpt ?_) | (refine zpf ?_)); refine zn ?_)
  all_goals
    first
    | (refine Q4 rfl ?_ -- Q1N c0
       all_goals (refine Q0 ?_; refine Q1 ?_; refine zb0 [_, _, _, _] ?_; refine zsn hS ?_; intro w1 hS; have hS := hS.ns; refine zm ?_; refine zn ?_; refine zr ?_; refine QU vw (Qa (n := 4) (by kernel_rfl) (by kernel_rfl) (hS.blkAt fd) (by rfl) (by rfl)) vw ?_)
       all_goals ((first | exact ⟨_, rfl, .inr ⟨Qoo hno, rfl⟩, hS.sp⟩ | exact ⟨_, rfl, .inr ⟨by rw [Qon hn, if_neg (of_decide_eq_true hq)], rfl⟩, hS.sp⟩)))
    | (refine Q5 rfl ?_ -- Q1N c0
       all_goals refine zsk ?_)
  all_goals (refine Q0 ?_; refine Q1 ?_; refine zm ?_; refine zm ?_; refine zm ?_; refine zb4 [_, _, _, _] ?_; refine zsn hS ?_; intro w1 hS; have hS := hS.ns; refine zm ?_; refine zn ?_; refine zr ?_; refine QU vw (Qa (n := 4) (by kernel_rfl) (by kernel_rfl) (hS.blkAt fd) (by rfl) (by rfl)) vw ?_; (first | exact ⟨_, rfl, .inr ⟨Qoo hno, rfl⟩, hS.sp⟩ | exact ⟨_, rfl, .inr ⟨by rw [Qon hn, if_neg (of_decide_eq_true hq)], rfl⟩, hS.sp⟩ | exact ⟨_, rfl, .inl ⟨n, by rw [Qon hn, if_pos (Classical.not_not.1 (of_decide_eq_false hq))], rfl⟩, hS.sp⟩))
abbrev signs : List UInt8 := [40, 41, 123, 125, 60, 62, 44, 59, 45]
theorem QnB (c : UInt8) (h : c.toNat ≠ 45) : (0 ≤ Lib.indexByte signs c ↔ Qav c = true) := by
  have hall : ∀ p : Fin 256, p.val ≠ 45 → (decide (0 ≤ Lib.indexByte signs (UInt8.ofNat p.val)) = Qav (UInt8.ofNat p.val)) := by decide +kernel
  have h1 := hall ⟨c.toNat, c.toNat_lt⟩ h
  simp only [UInt8.ofNat_toNat] at h1
  rw [← h1, decide_eq_true_iff]
theorem Q71 {t : List UInt8} {n : Int} (h : QdP t = some n) : numT t = .ok (t, some n) := by unfold numT; rw [h]
theorem Q72 {t : List UInt8} (h : QdP t = none) : numT t = .error 8 := by unfold numT; rw [h]
theorem QZ {b : Bool} (h : b = false) : ¬ b = true := by rw [h]; exact Bool.false_ne_true
theorem QmJ {l : List UInt8} (h : l.take 2 = [45, 62]) : l = 45 :: 62 :: l.drop 2 := by
  conv => lhs; rw [← List.take_append_drop 2 l, h]
  rfl
theorem eq45 {c : UInt8} (h : c.toNat = 45) : c = 45 := UInt8.toNat_inj.1 h
theorem ne45 {c : UInt8} (h : c.toNat ≠ 45) : ¬ c = 45 := fun e => h (by rw [e]; rfl)
theorem Qnb {d : UInt8} (h : Q17 d = true) : ¬ d = 62 := by rintro rfl; exact absurd h (by decide)
theorem min62 {l r : List UInt8} {d : UInt8} (h : decide (l.take ([45, 62] : List UInt8).length = [45, 62]) = false) (hl : l = 45 :: d :: r) : ¬ d = 62 := by
  rintro rfl
  exact absurd (by rw [hl]; rfl) (of_decide_eq_false h)
theorem Qp2 {sb at0 : Nat} {src l : List UInt8} (h : St cx w (scn sb src (at0 + 1 + l.length) :: L)) : St cx w (scn sb src (at0 + (45 :: l).length) :: L) := by
  rw [List.length_cons, show at0 + (l.length + 1) = at0 + 1 + l.length by omega]; exact h
/-- What the reading of the next one gives back. -/
def NextS (cx : Cx) (L : List Res) (sb : Nat) (src : List UInt8) (at0 : Nat) (u : Value) (w' : World) : Prop :=
  (∃ t m, tok1 (src.drop at0) = .ok (t, m) ∧ u = .tuple #[tokV at0 t m, .int .i64 0] ∧ St cx w' (scn sb src (at0 + t.length) :: L)) ∨ (∃ e at1, tok1 (src.drop at0) = .error e ∧ e ≠ 0 ∧ u = .tuple #[tokV 0 [] none, .int .i64 e] ∧ St cx w' (scn sb src at1 :: L))
theorem next_c {src : List UInt8} {sb at0 : Nat} (hT : NumK cx) (hl : src.length ≤ 50000) (ha : at0 < src.length) (hS : St cx w (scn sb src at0 :: L)) :
    Rets Tryz.prog Qv [.pointer (some ⟨sb, 0, none⟩)] w fun u w' => NextS cx L sb src at0 u w' := by
  obtain ⟨c, hc9⟩ : ∃ x, src[at0]? = some x := ⟨_, List.getElem?_eq_getElem ha⟩
  have hdc := Q6 hc9
  all_goals refine Q6g ?_
  all_goals (unfold token_scanner_next_lc; refine Q0 ?_; refine Q1 ?_; refine Qb hS ?_; intro p2 w1 hS; refine zm ?_; refine zn ?_; refine Q0 ?_; refine Q1 ?_; refine zm ?_; refine Qn rfl ?_; refine Q2 rfl ?_; refine zl hS ?_; refine zm ?_; refine zn ?_; refine Q0 ?_; refine Q0 ?_; refine Q1 ?_; refine zm ?_; refine Qn rfl ?_; refine Q2 rfl ?_; refine zl hS ?_; refine zm ?_; refine Qi3 rfl rfl hc9 ?_; refine zm ?_; refine zn ?_; refine Qh ?_; refine Q0 ?_; refine Q1 ?_; refine zm ?_)
  all_goals (refine zR1 (c := Qmz hS) (h := ?_); rintro v1 w1 ⟨rfl, hS⟩; cases hq0 : Q3e c)
  all_goals (refine zm ?_; refine zn ?_)
  all_goals
    first
    | (refine Q4 rfl ?_ -- Qv c0
       all_goals (refine Q0 ?_; refine Q1 ?_; refine zm ?_; refine zm ?_; have hS : St cx _ (scn sb src at0 :: _) := hS.mv1; refine zR2 (c := Qnn (g := 116) (p := Q3e) (by kernel_rfl) (fun c {_ _ _} h => Qmz h) (by omega) (by omega) hS) (h := ?_); rintro v1 w1 ⟨rfl, hS⟩; refine zb2 [_, _, _, _] ?_; refine zsn hS ?_; intro w1 hS; have hS := hS.ns; refine zm ?_; refine zn ?_; refine zr ?_; refine QU vw (Qa (n := 4) (by kernel_rfl) (by kernel_rfl) (hS.blkAt fd) (by rfl) (by rfl)) vw ?_)
       all_goals (exact ⟨_, rfl, .inl ⟨(src.drop at0).takeWhile Q3e, none, by rw [hdc, Q3W hq0], rfl, hS.sp⟩⟩))
    | (refine Q5 rfl ?_ -- Qv c0
       all_goals (refine Q0 ?_; refine Q1 ?_; refine zm ?_)
       all_goals (refine zR1 (c := Qlz hS) (h := ?_); rintro v1 w1 ⟨rfl, hS⟩; cases hq1 : Q17 c)
       all_goals (refine zm ?_; refine zn ?_)
       all_goals
         first
         | (refine Q5 rfl ?_ -- Qv c1
            all_goals (refine Q0 ?_; refine Q1 ?_; refine zm ?_; refine Qn rfl ?_; refine Q2 rfl ?_; refine zl hS ?_; refine zm ?_; refine Qi2 rfl (l' := at0) (h' := src.length) rfl ⟨_, rfl⟩ (by omega) (by omega) ?_; rw [List.take_length])
            all_goals (refine zR2 (c := hp_c (p := [45, 62]) (by rw [List.length_drop]; omega) hS) (h := ?_); rintro v1 w1 ⟨rfl, hS⟩; cases hq2 : decide ((src.drop at0).take ([45, 62] : List UInt8).length = [45, 62]))
            all_goals (refine zm ?_; refine zn ?_)
            all_goals
              first
              | (refine Q5 rfl ?_ -- Qv c2
                 all_goals (refine Q0 ?_; refine Q1 ?_; refine zm ?_)
                 all_goals (first | (refine Qw ?_) | (refine Qy ?_) | (refine Qj rfl rfl (fun hc => ?_) (fun hc => ?_)))
                 all_goals (refine zm ?_; (first | refine s_gn rfl rfl ?_ | (refine s_gy rfl ?_; refine zm ?_)); (first | refine s_gn rfl rfl ?_ | (refine s_gy rfl ?_; refine zad ?_)); (first | refine s_gn rfl rfl ?_ | (refine s_gy rfl ?_; refine zm ?_)); (first | refine s_gn rfl rfl ?_ | (refine s_gy rfl ?_; refine Qn rfl ?_)); (first | refine s_gn rfl rfl ?_ | (refine s_gy rfl ?_; refine Q2 rfl ?_)); (first | refine s_gn rfl rfl ?_ | (refine s_gy rfl ?_; refine zl hS ?_)); (first | refine s_gn rfl rfl ?_ | (refine s_gy rfl ?_; refine Q20 rfl ?_)))
                 all_goals (first | refine s_gn rfl rfl ?_ | (refine s_gy rfl ?_; (first | (refine Q26 ?_) | (refine Q27 ?_) | (refine QR rfl rfl (fun hc => ?_) (fun hc => ?_)))))
                 all_goals ((first | (refine zpt ?_) | (refine zpf ?_)); refine zm ?_; (first | refine s_gn rfl rfl ?_ | (refine s_gy rfl ?_; refine zm ?_)); (first | refine s_gn rfl rfl ?_ | (refine s_gy rfl ?_; refine Qn rfl ?_)); (first | refine s_gn rfl rfl ?_ | (refine s_gy rfl ?_; refine Q2 rfl ?_)); (first | refine s_gn rfl rfl ?_ | (refine s_gy rfl ?_; refine zl hS ?_)); (first | refine s_gn rfl rfl ?_ | (refine s_gy rfl ?_; refine zm ?_)); (first | refine s_gn rfl rfl ?_ | (refine s_gy rfl ?_; refine zad ?_)); (first | refine s_gn rfl rfl ?_ | (refine s_gy rfl ?_; obtain ⟨d, hd9⟩ : ∃ x, src[at0 + 1]? = some x := ⟨_, List.getElem?_eq_getElem (by omega)⟩; refine Qi3 (m := at0 + 1) rfl rfl hd9 ?_)))
                 all_goals (first | refine s_gn rfl rfl ?_ | (refine s_gy rfl ?_; refine zR1 (c := Qlz hS) (h := ?_); rintro v1 w1 ⟨rfl, hS⟩; cases hq3 : Q17 d))
                 all_goals ((first | (refine zpt ?_) | (refine zpf ?_)); refine zm ?_; refine zn ?_)
                 all_goals
                   first
                   | (refine Q5 rfl ?_ -- Qv c3
                      all_goals (refine Q0 ?_; refine Q1 ?_; refine zm ?_)
                      all_goals (first | (refine Q12 ?_) | (refine Q18 ?_))
                      all_goals (refine zm ?_; (first | refine s_gn rfl rfl ?_ | (refine s_gy rfl ?_; refine zm ?_)); (first | refine s_gn rfl rfl ?_ | (refine s_gy rfl ?_; refine zR2 (c := iby_c (s := signs) hS) (h := ?_); rintro v1 w1 ⟨rfl, hS⟩; have hsi := QnB c (by omega))))
                      all_goals (first | refine s_gn rfl rfl ?_ | (refine s_gy rfl ?_; (first | (refine Qb5 ?_) | (refine Qb6 ?_) | (refine Q3d rfl rfl (fun hc => ?_) (fun hc => ?_)))))
                      all_goals ((first | (refine zpt ?_) | (refine zpf ?_)); refine zm ?_; refine zn ?_)
                      all_goals
                        first
                        | (refine Q5 rfl ?_ -- Qv c4
                           all_goals refine zsk ?_)
                        | (refine Q4 rfl ?_ -- Qv c4
                           all_goals (refine Q0 ?_; refine Q1 ?_; refine zm ?_; refine Qn rfl ?_; refine Q2 rfl ?_; refine zl hS ?_; refine zad ?_; refine Qn rfl ?_; refine Q2 rfl ?_; refine zst hS ?_; intro w1 hS; have hS := hS.ns; refine zn ?_; refine Q0 ?_; refine Q1 ?_; refine zm ?_; refine zm ?_; refine Qn rfl ?_; refine Q2 rfl ?_; refine zl hS ?_; refine zm ?_; refine zm ?_; refine zad ?_; refine Qi2 rfl (l' := at0) (h' := at0 + 1) ⟨_, rfl⟩ ⟨_, rfl⟩ (by omega) (by omega) ?_; rw [show (src.take (at0 + 1)).drop at0 = [c] by rw [QjW hc9, List.drop_left' (by rw [List.length_take]; omega)]]; refine zb2 [_, _, _, _] ?_; refine zsn hS ?_; intro w1 hS; have hS := hS.ns; refine zm ?_; refine zn ?_; refine zr ?_; refine QU vw (Qa (n := 4) (by kernel_rfl) (by kernel_rfl) (hS.blkAt fd) (by rfl) (by rfl)) vw ?_)
                           all_goals ((first | exact ⟨_, rfl, .inl ⟨(src.drop at0).takeWhile Q3e, none, by rw [hdc, Q3W hq0], rfl, hS.sp⟩⟩ | exact ⟨_, rfl, .inl ⟨(src.drop at0).takeWhile Q17, some n, by rw [hdc, Q2E (QZ hq0) hq1, ← hdc, Q71 hn], rfl, hS.sp⟩⟩ | exact ⟨_, rfl, .inr ⟨8, _, by rw [hdc, Q2E (QZ hq0) hq1, ← hdc, Q72 hn], by decide, rfl, hS.sp⟩⟩ | exact ⟨_, rfl, .inl ⟨[45, 62], none, by rw [QmJ (of_decide_eq_true hq2), QcY], rfl, hS.sp⟩⟩ | exact ⟨_, rfl, .inl ⟨45 :: (src.drop (at0 + 1)).takeWhile Q17, some n, by rw [hdc, eq45 (c := c) (by omega), Q6 hd9, Q3V (Qnb hq3) hq3, ← Q6 hd9, Q71 (t := 45 :: _) hn], rfl, Qp2 hS.sp⟩⟩ | exact ⟨_, rfl, .inr ⟨8, _, by rw [hdc, eq45 (c := c) (by omega), Q6 hd9, Q3V (Qnb hq3) hq3, ← Q6 hd9, Q72 (t := 45 :: _) hn], by decide, rfl, hS.sp⟩⟩ | exact ⟨_, rfl, .inl ⟨[c], none, by rw [hdc, QcX (QZ hq0) (QZ hq1) (ne45 (by omega)) (hsi.1 (by omega))], rfl, hS.sp⟩⟩))))
                   | (refine Q4 rfl ?_ -- Qv c3
                      all_goals (refine Q0 ?_; refine Q1 ?_; refine zm ?_; refine Qn rfl ?_; refine Q2 rfl ?_; refine zl hS ?_; refine zad ?_; refine Qn rfl ?_; refine Q2 rfl ?_; refine zst hS ?_; intro w1 hS; have hS := hS.ns; refine zn ?_; refine Q0 ?_; refine Q1 ?_; refine zm ?_; refine zm ?_)
                      all_goals (have hS : St cx _ (scn sb src (at0 + 1) :: blk p2 126 [.int .i64 0, .string ⟨#[]⟩, .bool false, .int .i64 0] :: L) := hS.sp; refine zR3 (c := Qmw (pre := [45]) hT hl (by simp) (by omega) hS) (h := ?_); rintro v1 w1 ⟨⟨n, hn, rfl⟩ | ⟨hn, rfl⟩, hS⟩ <;> rw [List.singleton_append] at hn)
                      all_goals (refine Q1M rfl rfl ?_; refine Q1M rfl rfl ?_; refine zsn hS ?_; intro w1 hS; have hS := hS.ns; refine zm ?_; refine zn ?_; refine zr ?_; refine QU vw (Qa (n := 4) (by kernel_rfl) (by kernel_rfl) (hS.blkAt fd) (by rfl) (by rfl)) vw ?_)
                      all_goals ((first | exact ⟨_, rfl, .inl ⟨(src.drop at0).takeWhile Q3e, none, by rw [hdc, Q3W hq0], rfl, hS.sp⟩⟩ | exact ⟨_, rfl, .inl ⟨(src.drop at0).takeWhile Q17, some n, by rw [hdc, Q2E (QZ hq0) hq1, ← hdc, Q71 hn], rfl, hS.sp⟩⟩ | exact ⟨_, rfl, .inr ⟨8, _, by rw [hdc, Q2E (QZ hq0) hq1, ← hdc, Q72 hn], by decide, rfl, hS.sp⟩⟩ | exact ⟨_, rfl, .inl ⟨[45, 62], none, by rw [QmJ (of_decide_eq_true hq2), QcY], rfl, hS.sp⟩⟩ | exact ⟨_, rfl, .inl ⟨45 :: (src.drop (at0 + 1)).takeWhile Q17, some n, by rw [hdc, eq45 (c := c) (by omega), Q6 hd9, Q3V (Qnb hq3) hq3, ← Q6 hd9, Q71 (t := 45 :: _) hn], rfl, Qp2 hS.sp⟩⟩ | exact ⟨_, rfl, .inr ⟨8, _, by rw [hdc, eq45 (c := c) (by omega), Q6 hd9, Q3V (Qnb hq3) hq3, ← Q6 hd9, Q72 (t := 45 :: _) hn], by decide, rfl, hS.sp⟩⟩))))
              | (refine Q4 rfl ?_ -- Qv c2
                 all_goals (refine Q0 ?_; refine Q1 ?_; refine zm ?_; refine Qn rfl ?_; refine Q2 rfl ?_; refine zl hS ?_; refine zad ?_; refine Qn rfl ?_; refine Q2 rfl ?_; refine zst hS ?_; intro w1 hS; have hS := hS.ns; refine zn ?_; refine Q0 ?_; refine Q1 ?_; refine zm ?_; refine zb2 [_, _, _, _] ?_; refine zsn hS ?_; intro w1 hS; have hS := hS.ns; refine zm ?_; refine zn ?_; refine zr ?_; refine QU vw (Qa (n := 4) (by kernel_rfl) (by kernel_rfl) (hS.blkAt fd) (by rfl) (by rfl)) vw ?_)
                 all_goals ((first | exact ⟨_, rfl, .inl ⟨(src.drop at0).takeWhile Q3e, none, by rw [hdc, Q3W hq0], rfl, hS.sp⟩⟩ | exact ⟨_, rfl, .inl ⟨(src.drop at0).takeWhile Q17, some n, by rw [hdc, Q2E (QZ hq0) hq1, ← hdc, Q71 hn], rfl, hS.sp⟩⟩ | exact ⟨_, rfl, .inr ⟨8, _, by rw [hdc, Q2E (QZ hq0) hq1, ← hdc, Q72 hn], by decide, rfl, hS.sp⟩⟩ | exact ⟨_, rfl, .inl ⟨[45, 62], none, by rw [QmJ (of_decide_eq_true hq2), QcY], rfl, hS.sp⟩⟩))))
         | (refine Q4 rfl ?_ -- Qv c1
            all_goals (refine Q0 ?_; refine Q1 ?_; refine zm ?_; refine zm ?_)
            all_goals (have hS : St cx _ (scn sb src at0 :: _) := hS.mv1; refine zR3 (c := Qmw (pre := []) hT hl (by simp) (by omega) hS) (h := ?_); rintro v1 w1 ⟨⟨n, hn, rfl⟩ | ⟨hn, rfl⟩, hS⟩ <;> rw [List.nil_append] at hn)
            all_goals (refine Q1M rfl rfl ?_; refine Q1M rfl rfl ?_; refine zsn hS ?_; intro w1 hS; have hS := hS.ns; refine zm ?_; refine zn ?_; refine zr ?_; refine QU vw (Qa (n := 4) (by kernel_rfl) (by kernel_rfl) (hS.blkAt fd) (by rfl) (by rfl)) vw ?_)
            all_goals ((first | exact ⟨_, rfl, .inl ⟨(src.drop at0).takeWhile Q3e, none, by rw [hdc, Q3W hq0], rfl, hS.sp⟩⟩ | exact ⟨_, rfl, .inl ⟨(src.drop at0).takeWhile Q17, some n, by rw [hdc, Q2E (QZ hq0) hq1, ← hdc, Q71 hn], rfl, hS.sp⟩⟩ | exact ⟨_, rfl, .inr ⟨8, _, by rw [hdc, Q2E (QZ hq0) hq1, ← hdc, Q72 hn], by decide, rfl, hS.sp⟩⟩))))
  all_goals (refine Q0 ?_; refine Q1 ?_; refine zb0 [_, _, _, _] ?_; refine zsn hS ?_; intro w1 hS; have hS := hS.ns; refine zm ?_; refine zn ?_; refine zr ?_; refine QU vw (Qa (n := 4) (by kernel_rfl) (by kernel_rfl) (hS.blkAt fd) (by rfl) (by rfl)) vw ?_)
  all_goals ((first | exact ⟨_, rfl, .inl ⟨(src.drop at0).takeWhile Q3e, none, by rw [hdc, Q3W hq0], rfl, hS.sp⟩⟩ | exact ⟨_, rfl, .inl ⟨(src.drop at0).takeWhile Q17, some n, by rw [hdc, Q2E (QZ hq0) hq1, ← hdc, Q71 hn], rfl, hS.sp⟩⟩ | exact ⟨_, rfl, .inr ⟨8, _, by rw [hdc, Q2E (QZ hq0) hq1, ← hdc, Q72 hn], by decide, rfl, hS.sp⟩⟩ | exact ⟨_, rfl, .inl ⟨[45, 62], none, by rw [QmJ (of_decide_eq_true hq2), QcY], rfl, hS.sp⟩⟩ | exact ⟨_, rfl, .inl ⟨45 :: (src.drop (at0 + 1)).takeWhile Q17, some n, by rw [hdc, eq45 (c := c) (by omega), Q6 hd9, Q3V (Qnb hq3) hq3, ← Q6 hd9, Q71 (t := 45 :: _) hn], rfl, Qp2 hS.sp⟩⟩ | exact ⟨_, rfl, .inr ⟨8, _, by rw [hdc, eq45 (c := c) (by omega), Q6 hd9, Q3V (Qnb hq3) hq3, ← Q6 hd9, Q72 (t := 45 :: _) hn], by decide, rfl, hS.sp⟩⟩ | exact ⟨_, rfl, .inl ⟨[c], none, by rw [hdc, QcX (QZ hq0) (QZ hq1) (ne45 (by omega)) (hsi.1 (by omega))], rfl, hS.sp⟩⟩ | exact ⟨_, rfl, .inr ⟨6, _, by rw [hdc, Qme (QZ hq0) (QZ hq1) (ne45 (by omega)) (fun h9 => absurd (hsi.2 h9) (by omega))], by decide, rfl, hS.sp⟩⟩ | exact ⟨_, rfl, .inr ⟨6, _, by rw [hdc, eq45 (c := c) (by omega), List.drop_eq_nil_of_le (by omega), tok1_one], by decide, rfl, hS.sp⟩⟩ | exact ⟨_, rfl, .inr ⟨6, _, by rw [hdc, eq45 (c := c) (by omega), Q6 hd9, tok1_min (min62 hq2 (by rw [hdc, eq45 (c := c) (by omega), Q6 hd9])) (QZ hq3)], by decide, rfl, hS.sp⟩⟩))
end Go.Proofs.YtjecflbbcnocdaaGreatDoor
namespace Go.Proofs.YtjecflbbcnocdaaGreatDoor
open Go.Lir
set_option maxHeartbeats 1000000
attribute [local irreducible] LC.wp Q3 QF QK retQ Q1E LO.wp Qq Calls
set_option linter.unusedSimpArgs false
set_option linter.unusedVariables false
attribute [local irreducible] skip Q1Z scan tok1
variable {cx : Cx} {w : World} {L : List Res}
/-- What a scan gives back. -/
def ScanS (cx : Cx) (L : List Res) (src : List UInt8) (u : Value) (w' : World) : Prop :=
  (∃ l c' v, scan src = .ok l ∧ cx.Le c' ∧ u = .tuple #[v, .agg ⟨[.int .i64 0, .int .i64 0]⟩] ∧ tokR.sl c' v l ∧ St c' w' L) ∨ (∃ e n, scan src = .error (e, n) ∧ u = .tuple #[.slice none 0 0, .agg ⟨[.int .i64 e, .int .i64 n]⟩] ∧ St cx w' L)
theorem scan_c {src : List UInt8} (hT : NumK cx) (hl : src.length ≤ 100000) (hS : St cx w L) :
    Rets Tryz.prog Q3b [.string ⟨src.toArray⟩] w fun u w' => ScanS cx L src u w' := by
  have hle := St.refl hS
  all_goals refine Qa5 ?_
  all_goals (unfold token_Scan_lc; refine Q0 ?_; refine Q1 ?_; refine zm ?_; refine Qb hS ?_; intro p3 w1 hS; refine zn ?_; refine Q0 ?_; refine Q0 ?_; refine Q1 ?_; refine zm ?_; refine Q20 rfl ?_)
  all_goals (first | (refine QQ ?_) | (refine Q11 ?_) | (refine Qr rfl rfl (fun hc => ?_) (fun hc => ?_)))
  all_goals (refine zn ?_)
  all_goals
    first
    | (refine Q4 rfl ?_ -- Q3b c0
       all_goals (refine Q0 ?_; refine Q1 ?_; refine zb2 [_, _] ?_; refine zm ?_; refine zsn hS ?_; intro w1 hS; have hS := hS.ns; refine zn ?_; refine zr ?_; refine Qi8 vw vw (Qa (n := 2) (by kernel_rfl) (by kernel_rfl) (hS.blkAt fd) (by rfl) (by rfl)) ?_)
       all_goals (exact ⟨_, rfl, .inr ⟨2, 40000, Qa9 (by omega), rfl, hS.sp⟩⟩))
    | (refine Q5 rfl ?_ -- Q3b c0
       all_goals refine zsk ?_)
  all_goals (refine Q0 ?_; refine Q1 ?_; refine zm ?_; refine zb1 [_, _] ?_; refine zb hS ?_; intro p15 w1 hS; refine zm ?_; refine zn ?_; refine Q0 ?_; refine Q1 ?_; refine zm ?_; refine zn ?_; refine Q0 ?_; refine Q0 ?_; refine Q1 ?_; refine zm ?_; have hS : St cx _ (scn p15 src 0 :: blk p3 29 [.int .i64 0, .int .i64 0] :: L) := hS.sp; refine zR1 (c := QoX (by omega) (by omega) hS) (h := ?_); rintro v1 w1 ⟨at1, rfl, h01, h02, h03, hS⟩; refine zn ?_; refine Qh ?_)
  refine zo [0, 3, 4] (fun A ρ' w' => ∃ (k i : Nat) (out : List Tok) (vb : Value) (cb : List (List Value)) (q6 q8 q7 : Value), Has ρ' A ∧ Has ρ' [(5, vb), (6, q6), (7, q7), (8, q8)] ∧ (i ≤ src.length) ∧ (src.length - i < k) ∧ (scan src = Q1Z src.length k (src.drop i) out) ∧ (out.length ≤ i) ∧ (tokR.ls cx cb out) ∧ (oneC vb = true) ∧ St cx w' (scn p15 src i :: sl 126 4 vb cb :: blk p3 29 [.int .i64 0, .int .i64 0] :: L)) (fun _ w' => (src.length - QoU w' p15 1).toNat) ?_ ?_
  · exact ⟨src.length + 1, at1, [], .slice none 0 0, [], _, _, _, zh, zh, (by omega), (by omega), scan_few (by omega) (by rw [h03]; rfl), (by omega), Rep.LR.nil _ _ _, rfl, by have hS := hS.nil (T := 126) (es := 4); exact hS.sp⟩
  rintro ρ w1 ⟨k, i, out, vb, cb, q6, q8, q7, hA, hρ, hi, hk, hd, hol, hlb, hvb, hS⟩; obtain ⟨ρ, rfl⟩ := env2 hA hρ; have hm0 := Q7q (j := 1) hS (i := 0) rfl rfl
  unfold Qa6
  all_goals (refine Q0 ?_; refine Q0 ?_; refine Q1 ?_; refine zm ?_; refine Qn rfl ?_; refine Q2 rfl ?_; refine zl hS ?_; refine zm ?_; refine Q20 rfl ?_; refine Q1x rfl rfl ?_; refine zn ?_)
  refine QO rfl (fun hc => ?_) (fun hc => ?_)
  · skip
    all_goals (refine zsk ?_; refine Q0 ?_; refine Qh ?_; refine Q0 ?_; refine Q1 ?_; refine zm ?_; refine Qn rfl ?_; refine Q2 rfl ?_; refine zl hS ?_; refine zm ?_; refine zn ?_; refine Q0 ?_; refine Q1 ?_; refine zm ?_)
    all_goals (have hS : St cx _ (scn p15 src i :: _) := hS; refine zR1 (c := next_c hT (by omega) (by omega) hS) (h := ?_); rintro v1 w1 (⟨t, m, ht, rfl, hS⟩ | ⟨e, at9, ht, he, rfl, hS⟩))
    all_goals (refine zm ?_; refine Q1M rfl rfl ?_; refine Q1M rfl rfl ?_; refine Qb hS ?_; intro p7 w1 hS; refine zsn hS ?_; intro w1 hS; have hS := hS.ns; refine zm ?_; refine zn ?_; refine Q0 ?_; refine Q0 ?_; refine Q1 ?_; refine zm ?_)
    all_goals (first | (refine Q12 ?_) | (refine Q18 ?_))
    all_goals (refine zn ?_)
    all_goals
      first
      | (refine Q5 rfl ?_ -- Q3b c2
         all_goals refine zsk ?_)
      | (refine Q4 rfl ?_ -- Q3b c2
         all_goals (refine Q0 ?_; refine Q1 ?_; refine zm ?_; refine zm ?_; refine zb2 [_, _] ?_; refine zm ?_; refine zsn hS ?_; intro w1 hS; have hS := hS.ns; refine zn ?_; refine zr ?_; refine Qi8 vw vw (Qa (n := 2) (by kernel_rfl) (by kernel_rfl) (hS.blkAt fd) (by rfl) (by rfl)) ?_)
         all_goals ((first | exact ⟨_, rfl, .inr ⟨2, 40000, Qa9 (by omega), rfl, hS.sp⟩⟩ | exact ⟨_, rfl, .inr ⟨e, i, by rw [hd, show k = k - 1 + 1 by omega, Qk3 (by omega) ht], rfl, hS.sp⟩⟩)))
    all_goals (have hf9 := tok1_fit (by omega) ht; have hd9 : tokR.at cx [.int .i64 (i : Int), .string ⟨t.toArray⟩, .bool m.isSome, .int .i64 (m.getD 0)] (⟨i, t, m⟩ : Tok) := rfl; refine Q1 ?_; refine zm ?_; refine zv hS ?_; refine zB1 hS [_, _, _, _] ?_; intro b1 w1 hS; refine za el_T63 u_T63 hS ?_; intro vp1 w1 css1 hls1 hv1 hS; have hS := hS.ns; refine zm ?_; refine zn ?_; refine Q1 ?_; refine zm ?_; have hS : St cx _ (scn p15 src (i + t.length) :: sl 126 4 vp1 css1 :: blk p3 29 [.int .i64 0, .int .i64 0] :: L) := hS.sp; refine zR1 (c := QoX (by omega) (by omega) hS) (h := ?_); rintro v1 w1 ⟨at2, rfl, h11, h12, h13, hS⟩; refine zn ?_; exact ⟨⟨k - 1, at2, out ++ [⟨i, t, m⟩], _, _, _, _, _, zh, zh, (by omega), (by omega), QnE (by rw [show k - 1 + 1 = k by omega]; exact hd) (by omega) ht h13, (by first | omega | assumption | rfl | (simp; done) | (simp; omega)), by assumption, by assumption, hS.sp⟩, by rw [hm0, Q7q (j := 1) hS (i := 0) rfl rfl]; omega⟩)
  · skip
    all_goals (refine zex ?_; obtain ⟨c2, hle2, hS2, hk2⟩ := St.freezeL (r := tokR) (hS.out (r := sl 126 4 vb cb) fd) hlb rfl (by omega); clear hS; have hS := hS2; simp only [List.eraseIdx_cons_zero, List.eraseIdx_cons_succ] at hS; refine Q0 ?_; refine Q1 ?_; refine zm ?_; refine zb0 [_, _] ?_; refine zm ?_; refine zsn hS ?_; intro w1 hS; have hS := hS.ns; refine zn ?_; refine zr ?_; refine Qi8 vw vw (Qa (n := 2) (by kernel_rfl) (by kernel_rfl) (hS.blkAt fd) (by rfl) (by rfl)) ?_; (first | exact ⟨_, rfl, .inr ⟨2, 40000, Qa9 (by omega), rfl, hS.sp⟩⟩ | exact ⟨_, rfl, .inr ⟨e, i, by rw [hd, show k = k - 1 + 1 by omega, Qk3 (by omega) ht], rfl, hS.sp⟩⟩ | exact ⟨_, rfl, .inl ⟨out, c2, vb, by rw [hd, QnG (by omega)], hle2, rfl, hk2, hS.sp⟩⟩))
end Go.Proofs.YtjecflbbcnocdaaGreatDoor
namespace Go.Proofs.YtjecflbbcnocdaaGreatDoor
open Go.Lir
set_option maxHeartbeats 1000000
attribute [local irreducible] LC.wp Q3 QF QK retQ Q1E LO.wp Qq Calls
set_option linter.unusedSimpArgs false
set_option linter.unusedVariables false
theorem deep_c : ∀ (t : Ty) {cx : Cx} {w : World} {L : List Res} {cs : List Value} {left : Int}, tyR.at cx cs t → left ≤ 1000000 → St cx w L →
    Rets Tryz.prog Q3B [.agg ⟨cs⟩, .int .i64 left] w fun v w' => v = .bool (t.deepB left) ∧ St cx w' L := by
  intro t
  induction t using Ty.ind with
  | h k r l ih =>
    intro cx w L cs left ht h1 hS
    obtain ⟨v, rfl, hl⟩ := Q1b ht
    simp only [Ty.kind, Ty.r, Ty.l] at hl ht ⊢
    have hlen := hl.len
    rw [Ty.deepB]
    all_goals refine QhO ?_
    all_goals (unfold types_deep_lc; refine Q0 ?_; refine Q1 ?_; refine zb hS ?_; intro p2 w1 hS; refine zm ?_; refine zn ?_; refine Q0 ?_; refine Q0 ?_; refine Q1 ?_; refine zm ?_)
    all_goals (first | (refine Q26 ?_) | (refine Q27 ?_) | (refine QR rfl rfl (fun hc => ?_) (fun hc => ?_)))
    all_goals (refine zn ?_)
    all_goals
      first
      | (refine Q4 rfl ?_ -- Q3B c0
         all_goals (refine Q0 ?_; refine Q1 ?_; refine zm ?_; refine zn ?_; refine zr ?_; refine zf ?_)
         all_goals (refine ⟨_, rfl, ?_, hS.sp⟩; rw [if_pos (by omega)]; done))
      | (refine Q5 rfl ?_ -- Q3B c0
         all_goals refine zsk ?_)
    all_goals (refine Q0 ?_; refine Q0 ?_; refine Q1 ?_; refine Q2 rfl ?_; refine zl hS ?_; refine zL ?_; refine zm ?_; refine zn ?_; refine Qh ?_)
    refine zoL hS [1, 10, 11] (fun A LL ρ' w' => ∃ (j : Nat), Has ρ' A ∧ Has ρ' [(12, .int .i64 j)] ∧ (j ≤ l.length) ∧ (Tys.deepB l (left - 1) = Tys.deepB (l.drop j) (left - 1)) ∧ St cx w' (LL)) (fun ρ' _ => (l.length - iv (ρ' 12)).toNat) ?_ ?_
    · exact ⟨0, zh, zh, (by omega), by simp, hS.sp⟩
    rintro ρ w1 ⟨j, hA, hρ, hj, hd, hS⟩; obtain ⟨ρ, rfl⟩ := env2 hA hρ
    unfold Qa4
    all_goals (refine Q0 ?_; refine Q1 ?_; refine Q1x rfl rfl ?_; refine zn ?_; refine Q0 ?_)
    refine QO rfl (fun hc => ?_) (fun hc => ?_)
    · skip
      all_goals (refine zsk ?_; refine Q0 ?_; refine Qh ?_; refine Q0 ?_; refine Q1 ?_; refine zi ?_; intro b1 o1 cs1 x1 hat1 hx1 he1; obtain ⟨vl1, rfl, hl1⟩ := Q1b he1; (first | (refine zv hS ?_) | (refine zvk hS ?_)); refine Qb hS ?_; intro p6 w1 hS; refine zsn hS ?_; intro w1 hS; have hS := hS.ns; refine zn ?_; refine Q0 ?_; refine Q1 ?_; refine zv hS ?_; refine zm ?_; refine zsu ?_)
      all_goals (refine zR2 (c := ih _ (List.mem_of_getElem? (by assumption)) (by assumption) (by omega) hS) (h := ?_); rintro v1 w1 ⟨rfl, hS⟩; cases hg : x1.deepB (left - 1))
      all_goals (refine Q1w rfl ?_; refine zn ?_)
      all_goals
        first
        | (refine Q5 rfl ?_ -- Q3B c2
           all_goals refine zsk ?_)
        | (refine Q4 rfl ?_ -- Q3B c2
           all_goals (refine Q0 ?_; refine Q1 ?_; refine zm ?_; refine zn ?_; refine zr ?_; refine zf ?_)
           all_goals (first | (refine ⟨_, rfl, ?_, hS.sp⟩; rw [if_pos (by omega)]; done) | (refine ⟨_, rfl, ?_, hS.sp⟩; rw [if_neg (by omega), hd, Q6 hx1, Tys.deepB, hg, Bool.false_and]; done)))
      all_goals (refine Q1 ?_; refine zad ?_; refine zm ?_; refine zn ?_; exact ⟨⟨j + 1, zh, zh, (by omega), by rw [hd, Q6 hx1, Tys.deepB, hg, Bool.true_and], hS.sp⟩, Q16 (by omega)⟩)
    · skip
      all_goals (refine zex ?_; refine Q0 ?_; refine Q1 ?_; refine zm ?_; refine zn ?_; refine zr ?_; refine zf ?_; (first | (refine ⟨_, rfl, ?_, hS.sp⟩; rw [if_pos (by omega)]; done) | (refine ⟨_, rfl, ?_, hS.sp⟩; rw [if_neg (by omega), hd, Q6 hx1, Tys.deepB, hg, Bool.false_and]; done) | (refine ⟨_, rfl, ?_, hS.sp⟩; rw [if_neg (by omega), hd, List.drop_of_length_le (by omega), Tys.deepB]; done)))
theorem wrong_c : ∀ (t : Ty) {cx : Cx} {w : World} {L : List Res} {cs : List Value} {regs : Int}, tyR.at cx cs t → St cx w L →
    Rets Tryz.prog QC [.agg ⟨cs⟩, .int .i64 regs] w fun v w' => v = .int .i64 (t.wrong 8 regs) ∧ St cx w' L := by
  intro t
  induction t using Ty.ind with
  | h k r l ih =>
    intro cx w L cs regs ht hS
    obtain ⟨v, rfl, hl⟩ := Q1b ht
    simp only [Ty.kind, Ty.r, Ty.l] at hl ht ⊢
    have hlen := hl.len
    rw [Ty.wrong]
    all_goals refine Qfl ?_
    all_goals (unfold types_wrong_lc; refine Q0 ?_; refine Q1 ?_; refine zb hS ?_; intro p2 w1 hS; refine zm ?_; refine zn ?_)
    refine zML hS [1, 2] (fun A LL ρ' w' => Has ρ' A ∧ Has ρ' [] ∧ (1 ≤ k ∧ k ≤ 4 ∧ k ≠ 1 ∧ (k ≠ 3 → l.length = 0) ∧ l.length ≤ 8) ∧ St cx w' (LL)) ?_ ?_
    · skip
      all_goals (refine Q0 ?_; refine Q1 ?_; refine Q2 rfl ?_; refine zl hS ?_; refine zn ?_; refine Qh ?_; refine Q0 ?_; refine Q1 ?_)
      all_goals (first | (refine Qw ?_) | (refine Qy ?_) | (refine Qj rfl rfl (fun hc => ?_) (fun hc => ?_)))
      all_goals (refine zm ?_; refine zn ?_)
      all_goals
        first
        | (refine Q4 rfl ?_ -- QC c0
           all_goals (refine Q0 ?_; refine Q0 ?_; refine Q1 ?_; refine Q2 rfl ?_; refine zl hS ?_)
           all_goals (first | (refine Q12 ?_) | (refine Q18 ?_) | (refine Qx rfl rfl (fun hc => ?_) (fun hc => ?_)))
           all_goals (refine zm ?_; (first | refine s_gn rfl rfl ?_ | (refine s_gy rfl ?_; refine Q2 rfl ?_)); (first | refine s_gn rfl rfl ?_ | (refine s_gy rfl ?_; refine zl hS ?_)); (first | refine s_gn rfl rfl ?_ | (refine s_gy rfl ?_; refine zL ?_)))
           all_goals (first | refine s_gn rfl rfl ?_ | (refine s_gy rfl ?_; (first | (refine QQ ?_) | (refine Q11 ?_) | (refine Qr rfl rfl (fun hc => ?_) (fun hc => ?_)))))
           all_goals ((first | (refine zpt ?_) | (refine zpf ?_)); refine zn ?_)
           all_goals
             first
             | (refine Q4 rfl ?_ -- QC c1
                all_goals (refine Q0 ?_; refine Q1 ?_; refine zm ?_; refine zn ?_; refine zr ?_; refine zf ?_)
                all_goals (refine ⟨_, rfl, ?_, hS.sp⟩; (repeat (first | rw [if_pos (by omega)] | rw [if_neg (by omega)])); done))
             | (refine Q5 rfl ?_ -- QC c1
                all_goals refine zsk ?_)
           all_goals (refine Q0 ?_; refine Q1 ?_; refine zm ?_; refine zn ?_; refine zr ?_; refine zf ?_)
           all_goals (first | (refine ⟨_, rfl, ?_, hS.sp⟩; (repeat (first | rw [if_pos (by omega)] | rw [if_neg (by omega)])); done) | (refine ⟨_, rfl, ?_, hS.sp⟩; ((repeat (first | rw [if_pos (by omega)] | rw [if_neg (by omega)])); rw [hd, Q6 hx1, Tys.wrong, if_pos (by assumption)]); done) | (refine ⟨_, rfl, ?_, hS.sp⟩; ((repeat (first | rw [if_pos (by omega)] | rw [if_neg (by omega)])); rw [List.eq_nil_of_length_eq_zero (l := l) (by omega), Tys.wrong]); done)))
        | (refine Q5 rfl ?_ -- QC c0
           all_goals (refine Q0 ?_; refine Q0 ?_; refine Q1 ?_)
           all_goals (first | (refine Qw ?_) | (refine Qy ?_) | (refine Qj rfl rfl (fun hc => ?_) (fun hc => ?_)))
           all_goals (refine zm ?_; refine zn ?_)
           all_goals
             first
             | (refine Q4 rfl ?_ -- QC c2
                all_goals refine zsk ?_)
             | (refine Q5 rfl ?_ -- QC c2
                all_goals (refine Q1 ?_)
                all_goals (first | (refine Qw ?_) | (refine Qy ?_) | (refine Qj rfl rfl (fun hc => ?_) (fun hc => ?_)))
                all_goals (refine zm ?_)
                all_goals refine zn ?_)
           all_goals
             first
             | (refine Q4 rfl ?_ -- QC c3
                all_goals (refine Q0 ?_; refine Q1 ?_; refine Q2 rfl ?_; refine zl hS ?_; refine zL ?_)
                all_goals (first | (refine QQ ?_) | (refine Q11 ?_) | (refine Qr rfl rfl (fun hc => ?_) (fun hc => ?_)))
                all_goals (refine zn ?_)
                all_goals
                  first
                  | (refine Q4 rfl ?_ -- QC c4
                     all_goals (refine Q0 ?_; refine Q1 ?_; refine zm ?_; refine zn ?_; refine zr ?_; refine zf ?_)
                     all_goals (refine ⟨_, rfl, ?_, hS.sp⟩; (repeat (first | rw [if_pos (by omega)] | rw [if_neg (by omega)])); done))
                  | (refine Q5 rfl ?_ -- QC c4
                     all_goals refine zsk ?_))
             | (refine Q5 rfl ?_ -- QC c3
                all_goals (refine Q0 ?_; refine Q1 ?_)
                all_goals (first | (refine Qw ?_) | (refine Qy ?_) | (refine Qj rfl rfl (fun hc => ?_) (fun hc => ?_)))
                all_goals (refine zm ?_; refine zn ?_)
                all_goals
                  first
                  | (refine Q4 rfl ?_ -- QC c5
                     all_goals (refine Q0 ?_; refine Q1 ?_; refine Q2 rfl ?_; refine zl hS ?_; refine zL ?_)
                     all_goals (first | (refine QQ ?_) | (refine Q11 ?_) | (refine Qr rfl rfl (fun hc => ?_) (fun hc => ?_)))
                     all_goals (refine zn ?_)
                     all_goals
                       first
                       | (refine Q4 rfl ?_ -- QC c6
                          all_goals (refine Q0 ?_; refine Q1 ?_; refine zm ?_; refine zn ?_; refine zr ?_; refine zf ?_)
                          all_goals (refine ⟨_, rfl, ?_, hS.sp⟩; (repeat (first | rw [if_pos (by omega)] | rw [if_neg (by omega)])); done))
                       | (refine Q5 rfl ?_ -- QC c6
                          all_goals refine zsk ?_))
                  | (refine Q5 rfl ?_ -- QC c5
                     all_goals (refine Q0 ?_; refine Q1 ?_; refine zm ?_; refine zn ?_; refine zr ?_; refine zf ?_)
                     all_goals (refine ⟨_, rfl, ?_, hS.sp⟩; (repeat (first | rw [if_pos (by omega)] | rw [if_neg (by omega)])); done))))
      all_goals (exact ⟨zh, zh, by omega, hS.sp⟩)
    rintro ρ w1 ⟨hA, hρ, hk, hS⟩; obtain ⟨ρ, rfl⟩ := env2 hA hρ
    all_goals (refine Q0 ?_; refine Q0 ?_; refine Q1 ?_; refine Q2 rfl ?_; refine zl hS ?_)
    all_goals (first | (refine Q26 ?_) | (refine Q27 ?_) | (refine QR rfl rfl (fun hc => ?_) (fun hc => ?_)))
    all_goals (refine zm ?_; (first | refine s_gn rfl rfl ?_ | (refine s_gy rfl ?_; refine Q2 rfl ?_)); (first | refine s_gn rfl rfl ?_ | (refine s_gy rfl ?_; refine zl hS ?_)); (first | refine s_gn rfl rfl ?_ | (refine s_gy rfl ?_; refine zm ?_)))
    all_goals (first | refine s_gn rfl rfl ?_ | (refine s_gy rfl ?_; (first | (refine Qb5 ?_) | (refine Qb6 ?_) | (refine Q3d rfl rfl (fun hc => ?_) (fun hc => ?_)))))
    all_goals ((first | (refine zpt ?_) | (refine zpf ?_)); refine zn ?_)
    all_goals
      first
      | (refine Q4 rfl ?_ -- QC c7
         all_goals (refine Q0 ?_; refine Q1 ?_; refine zm ?_; refine zn ?_; refine zr ?_; refine zf ?_)
         all_goals (refine ⟨_, rfl, ?_, hS.sp⟩; (repeat (first | rw [if_pos (by omega)] | rw [if_neg (by omega)])); done))
      | (refine Q5 rfl ?_ -- QC c7
         all_goals refine zsk ?_)
    all_goals (refine Q0 ?_; refine Q0 ?_; refine Q1 ?_; refine Q2 rfl ?_; refine zl hS ?_; refine zL ?_; refine zm ?_; refine zn ?_; refine Qh ?_)
    refine zoL hS [1, 44, 45] (fun A LL ρ' w' => ∃ (j : Nat), Has ρ' A ∧ Has ρ' [(46, .int .i64 j)] ∧ (j ≤ l.length) ∧ (Tys.wrong 8 l regs = Tys.wrong 8 (l.drop j) regs) ∧ St cx w' (LL)) (fun ρ' _ => (l.length - iv (ρ' 46)).toNat) ?_ ?_
    · exact ⟨0, zh, zh, (by omega), by simp, hS.sp⟩
    rintro ρ w1 ⟨j, hA, hρ, hj, hd, hS⟩; obtain ⟨ρ, rfl⟩ := env2 hA hρ
    unfold Q65
    all_goals (refine Q0 ?_; refine Q1 ?_; refine Q1x rfl rfl ?_; refine zn ?_; refine Q0 ?_)
    refine QO rfl (fun hc => ?_) (fun hc => ?_)
    · skip
      all_goals (refine zsk ?_; refine Q0 ?_; refine Qh ?_; refine Q0 ?_; refine Q1 ?_; refine zi ?_; intro b1 o1 cs1 x1 hat1 hx1 he1; obtain ⟨vl1, rfl, hl1⟩ := Q1b he1; (first | (refine zv hS ?_) | (refine zvk hS ?_)); refine Qb hS ?_; intro p6 w1 hS; refine zsn hS ?_; intro w1 hS; have hS := hS.ns; refine zn ?_; refine Q0 ?_; refine Q1 ?_; refine zv hS ?_; refine zm ?_; refine zR2 (c := ih _ (List.mem_of_getElem? (by assumption)) (by assumption) hS) (h := ?_); rintro v1 w1 ⟨rfl, hS⟩; refine zm ?_; refine zn ?_; refine Q0 ?_; refine Q1 ?_; refine zm ?_)
      all_goals (first | (refine Q12 ?_) | (refine Q18 ?_) | (refine Qx rfl rfl (fun hc => ?_) (fun hc => ?_)))
      all_goals (refine zn ?_)
      all_goals
        first
        | (refine Q4 rfl ?_ -- QC c9
           all_goals (refine Q0 ?_; refine Q1 ?_; refine zm ?_; refine zm ?_; refine zn ?_; refine zr ?_; refine zf ?_)
           all_goals (first | (refine ⟨_, rfl, ?_, hS.sp⟩; (repeat (first | rw [if_pos (by omega)] | rw [if_neg (by omega)])); done) | (refine ⟨_, rfl, ?_, hS.sp⟩; ((repeat (first | rw [if_pos (by omega)] | rw [if_neg (by omega)])); rw [hd, Q6 hx1, Tys.wrong, if_pos (by assumption)]); done)))
        | (refine Q5 rfl ?_ -- QC c9
           all_goals refine zsk ?_)
      all_goals (refine Q1 ?_; refine zad ?_; refine zm ?_; refine zn ?_; exact ⟨⟨j + 1, zh, zh, (by omega), by rw [hd, Q6 hx1, Tys.wrong, if_neg (by omega)], hS.sp⟩, Q16 (by omega)⟩)
    · skip
      all_goals (refine zex ?_; refine Q0 ?_; refine Q1 ?_; refine zm ?_; refine zn ?_; refine zr ?_; refine zf ?_; (first | (refine ⟨_, rfl, ?_, hS.sp⟩; (repeat (first | rw [if_pos (by omega)] | rw [if_neg (by omega)])); done) | (refine ⟨_, rfl, ?_, hS.sp⟩; ((repeat (first | rw [if_pos (by omega)] | rw [if_neg (by omega)])); rw [hd, Q6 hx1, Tys.wrong, if_pos (by assumption)]); done) | (refine ⟨_, rfl, ?_, hS.sp⟩; ((repeat (first | rw [if_pos (by omega)] | rw [if_neg (by omega)])); rw [List.eq_nil_of_length_eq_zero (l := l) (by omega), Tys.wrong]); done) | (refine ⟨_, rfl, ?_, hS.sp⟩; ((repeat (first | rw [if_pos (by omega)] | rw [if_neg (by omega)])); rw [hd, List.drop_of_length_le (by omega), Tys.wrong]); done)))
theorem tcheck_c {t : Ty} {cx : Cx} {w : World} {L : List Res} {cs : List Value} {regs : Int} (ht : tyR.at cx cs t) (hS : St cx w L) :
    Rets Tryz.prog Q4K [.agg ⟨cs⟩, .int .i64 regs] w fun v w' => v = .int .i64 (t.fault regs) ∧ St cx w' L := by
  obtain ⟨v, rfl, hl⟩ := Q1b ht
  unfold Ty.fault
  all_goals refine Qfs ?_
  all_goals (unfold types_Check_lc; refine Q0 ?_; refine Q1 ?_; refine zb hS ?_; intro p2 w1 hS; refine zm ?_; refine zn ?_; refine Q0 ?_; refine Q0 ?_; refine Q1 ?_; refine zv hS ?_)
  all_goals (refine zR2 (c := deep_c t ht (by omega) hS) (h := ?_); rintro v1 w1 ⟨rfl, hS⟩; cases hg : t.deepB 4)
  all_goals (refine Q1w rfl ?_; refine zn ?_)
  all_goals
    first
    | (refine Q4 rfl ?_ -- Q4K c0
       all_goals (refine Q0 ?_; refine Q1 ?_; refine zm ?_; refine zn ?_; refine zr ?_; refine zf ?_)
       all_goals (refine ⟨_, rfl, ?_, hS.sp⟩; (rfl); done))
    | (refine Q5 rfl ?_ -- Q4K c0
       all_goals refine zsk ?_)
  all_goals (refine Q0 ?_; refine Q1 ?_; refine zv hS ?_; refine zm ?_; refine zR2 (c := wrong_c t ht hS) (h := ?_); rintro v1 w1 ⟨rfl, hS⟩; refine zm ?_; refine zn ?_; refine zr ?_; refine zf ?_; refine ⟨_, rfl, ?_, hS.sp⟩; (rfl); done)
theorem depth_c : ∀ (t : Ty) {cx : Cx} {w : World} {L : List Res} {cs : List Value} {most : Int}, tyR.at cx cs t → 0 ≤ most → most ≤ 1000 → St cx w L →
    Rets Tryz.prog Q47 [.agg ⟨cs⟩, .int .i64 most] w fun v w' => v = .int .i64 (t.depth most) ∧ St cx w' L := by
  intro t
  induction t using Ty.ind with
  | h k r l ih =>
    intro cx w L cs most ht h0 h1 hS
    obtain ⟨v, rfl, hl⟩ := Q1b ht
    simp only [Ty.kind, Ty.r, Ty.l] at hl ht ⊢
    have hlen := hl.len
    rw [Ty.depth]
    all_goals refine Qm4 ?_
    all_goals (unfold R_DeepOf_lc; refine Q0 ?_; refine Q1 ?_; refine zb hS ?_; intro p2 w1 hS; refine zm ?_; refine zn ?_; refine Q0 ?_; refine Q1 ?_; refine zm ?_; refine zn ?_; refine Q0 ?_; refine Q0 ?_; refine Q1 ?_; refine zm ?_; refine zn ?_; refine Qh ?_)
    refine zoL hS [1, 2] (fun A LL ρ' w' => ∃ (j : Nat) (n : Int), Has ρ' A ∧ Has ρ' [(5, .int .i64 n), (6, .int .i64 j)] ∧ (j ≤ l.length) ∧ (0 ≤ n) ∧ (n ≤ 1002) ∧ (Tys.depth l most 0 = Tys.depth (l.drop j) most n) ∧ St cx w' (LL)) (fun ρ' _ => (l.length - iv (ρ' 6)).toNat) ?_ ?_
    · exact ⟨0, 0, zh, zh, (by omega), (by omega), (by omega), by simp, hS.sp⟩
    rintro ρ w1 ⟨j, n, hA, hρ, hj, hn0, hn, hd, hS⟩; obtain ⟨ρ, rfl⟩ := env2 hA hρ
    unfold QeL
    all_goals (refine Q0 ?_; refine Q0 ?_; refine Q1 ?_; refine zm ?_; refine Q2 rfl ?_; refine zl hS ?_; refine zL ?_)
    all_goals (first | (refine Q26 ?_) | (refine Q27 ?_) | (refine QR rfl rfl (fun hc => ?_) (fun hc => ?_)))
    all_goals (refine zm ?_; (first | refine s_gn rfl rfl ?_ | (refine s_gy rfl ?_; refine zm ?_)); (first | refine s_gn rfl rfl ?_ | (refine s_gy rfl ?_; refine zm ?_)))
    all_goals (first | refine s_gn rfl rfl ?_ | (refine s_gy rfl ?_; (first | (refine zleqt ?_) | (refine zleqf ?_) | (refine Qlb rfl rfl (fun hc => ?_) (fun hc => ?_)))))
    all_goals ((first | (refine zpt ?_) | (refine zpf ?_)); refine zn ?_)
    all_goals
      first
      | (refine Q5 rfl ?_ -- Q47 c0
         all_goals (refine zex ?_; refine Q0 ?_; refine Q1 ?_; refine zm ?_; refine zm ?_; refine zn ?_; refine zr ?_; refine zf ?_)
         all_goals (first | (refine ⟨_, rfl, ?_, hS.sp⟩; rw [hd]; cases hx : l.drop j with | nil => exact absurd (List.drop_eq_nil_iff.1 hx) (by omega) | cons y m => rw [Tys.depth, if_pos (by omega), if_pos (by omega)]; done) | (refine ⟨_, rfl, ?_, hS.sp⟩; rw [hd, List.drop_of_length_le (by omega), Tys.depth]; done) | (refine ⟨_, rfl, ?_, hS.sp⟩; rw [hd]; cases hx : l.drop j with | nil => rw [Tys.depth] | cons y m => rw [Tys.depth, if_neg (by omega)]; done)))
      | (refine Q4 rfl ?_ -- Q47 c0
         all_goals (refine zsk ?_; refine Q0 ?_; refine Qh ?_; refine Q0 ?_; refine Q0 ?_; refine Q1 ?_; refine zm ?_)
         all_goals (first | (refine Qw ?_) | (refine Qy ?_) | (refine Qj rfl rfl (fun hc => ?_) (fun hc => ?_)))
         all_goals (refine zn ?_)
         all_goals
           first
           | (refine Q4 rfl ?_ -- Q47 c1
              all_goals (refine Q0 ?_; refine Q1 ?_; refine zm ?_; refine zn ?_; refine zr ?_; refine zf ?_)
              all_goals (refine ⟨_, rfl, ?_, hS.sp⟩; rw [hd]; cases hx : l.drop j with | nil => exact absurd (List.drop_eq_nil_iff.1 hx) (by omega) | cons y m => rw [Tys.depth, if_pos (by omega), if_pos (by omega)]; done))
           | (refine Q5 rfl ?_ -- Q47 c1
              all_goals refine zsk ?_)
         all_goals (refine Q0 ?_; refine Q1 ?_; refine Q2 rfl ?_; refine zl hS ?_; refine zm ?_; refine zi ?_; intro b1 o1 cs1 x1 hat1 hx1 he1; obtain ⟨vl1, rfl, hl1⟩ := Q1b he1; (first | (refine zv hS ?_) | (refine zvk hS ?_)); refine zm ?_; refine zsu ?_; have hb := Ty.depth_rng x1 (most := most - 1) (by omega); refine zR2 (c := ih _ (List.mem_of_getElem? (by assumption)) (by assumption) (by omega) (by omega) hS) (h := ?_); rintro v1 w1 ⟨rfl, hS⟩; refine zad ?_; refine zm ?_; refine zn ?_; refine Q0 ?_; refine Q1 ?_; refine zm ?_; refine zm ?_)
         all_goals (first | (refine QQ ?_) | (refine Q11 ?_) | (refine Qr rfl rfl (fun hc => ?_) (fun hc => ?_)))
         all_goals (refine zn ?_)
         all_goals
           first
           | (refine Q4 rfl ?_ -- Q47 c2
              all_goals (refine Q1 ?_; refine zm ?_; refine zm ?_)
              all_goals refine zn ?_)
           | (refine Q5 rfl ?_ -- Q47 c2
              all_goals refine zsk ?_)
         all_goals (refine Q1 ?_; refine zm ?_; refine zad ?_; refine zm ?_; refine zn ?_)
         all_goals (first | (exact ⟨⟨j + 1, _, zh, zh, (by omega), (by omega), (by omega), by rw [hd, Q6 hx1, Tys.depth, if_pos (by omega), if_neg (by omega), if_pos (by omega)], hS.sp⟩, Q16 (by omega)⟩) | (exact ⟨⟨j + 1, _, zh, zh, (by omega), (by omega), (by omega), by rw [hd, Q6 hx1, Tys.depth, if_pos (by omega), if_neg (by omega), if_neg (by omega)], hS.sp⟩, Q16 (by omega)⟩)))
theorem rwrong_c : ∀ (t : Ty) {cx : Cx} {w : World} {L : List Res} {cs : List Value} {regs : Int}, tyR.at cx cs t → St cx w L →
    Rets Tryz.prog Q1p [.agg ⟨cs⟩, .int .i64 regs] w fun v w' => v = .int .i64 (t.wrong 8 regs) ∧ St cx w' L := by
  intro t
  induction t using Ty.ind with
  | h k r l ih =>
    intro cx w L cs regs ht hS
    obtain ⟨v, rfl, hl⟩ := Q1b ht
    simp only [Ty.kind, Ty.r, Ty.l] at hl ht ⊢
    have hlen := hl.len
    rw [Ty.wrong]
    all_goals refine Qgk ?_
    all_goals (unfold R_typeFault_lc; refine Q0 ?_; refine Q1 ?_; refine zb hS ?_; intro p2 w1 hS; refine zm ?_; refine zn ?_; refine Q0 ?_; refine Q0 ?_; refine Q1 ?_; refine Q2 rfl ?_; refine zl hS ?_)
    all_goals (first | (refine Q26 ?_) | (refine Q27 ?_) | (refine QR rfl rfl (fun hc => ?_) (fun hc => ?_)))
    all_goals (refine zm ?_; (first | refine s_gn rfl rfl ?_ | (refine s_gy rfl ?_; refine Q2 rfl ?_)); (first | refine s_gn rfl rfl ?_ | (refine s_gy rfl ?_; refine zl hS ?_)))
    all_goals (first | refine s_gn rfl rfl ?_ | (refine s_gy rfl ?_; (first | (refine QQ ?_) | (refine Q11 ?_) | (refine Qr rfl rfl (fun hc => ?_) (fun hc => ?_)))))
    all_goals ((first | (refine zpt ?_) | (refine zpf ?_)); refine zn ?_)
    all_goals
      first
      | (refine Q4 rfl ?_ -- Q1p c0
         all_goals (refine Q0 ?_; refine Q1 ?_; refine zm ?_; refine zn ?_; refine zr ?_; refine zf ?_)
         all_goals (refine ⟨_, rfl, ?_, hS.sp⟩; (repeat (first | rw [if_pos (by omega)] | rw [if_neg (by omega)])); done))
      | (refine Q5 rfl ?_ -- Q1p c0
         all_goals refine zsk ?_)
    refine zML hS [1, 2] (fun A LL ρ' w' => Has ρ' A ∧ Has ρ' [] ∧ (1 ≤ k ∧ k ≤ 4 ∧ (k = 1 → r = 0) ∧ (k ≠ 3 → l.length = 0)) ∧ St cx w' (LL)) ?_ ?_
    · skip
      all_goals (refine Q0 ?_; refine Q1 ?_; refine Q2 rfl ?_; refine zl hS ?_)
      all_goals (first | (refine Qw ?_) | (refine Qy ?_) | (refine Qj rfl rfl (fun hc => ?_) (fun hc => ?_)))
      all_goals (refine zm ?_; (first | refine s_gn rfl rfl ?_ | (refine s_gy rfl ?_; refine Q2 rfl ?_)); (first | refine s_gn rfl rfl ?_ | (refine s_gy rfl ?_; refine zl hS ?_)))
      all_goals (first | refine s_gn rfl rfl ?_ | (refine s_gy rfl ?_; (first | (refine Q12 ?_) | (refine Q18 ?_) | (refine Qx rfl rfl (fun hc => ?_) (fun hc => ?_)))))
      all_goals ((first | (refine zpt ?_) | (refine zpf ?_)); refine zm ?_; (first | refine s_gn rfl rfl ?_ | (refine s_gy rfl ?_; refine Q2 rfl ?_)); (first | refine s_gn rfl rfl ?_ | (refine s_gy rfl ?_; refine zl hS ?_)))
      all_goals (first | refine s_gn rfl rfl ?_ | (refine s_gy rfl ?_; (first | (refine Q12 ?_) | (refine Q18 ?_) | (refine Qx rfl rfl (fun hc => ?_) (fun hc => ?_)))))
      all_goals ((first | refine s_gn rfl rfl ?_ | (refine s_gy rfl ?_; refine zm ?_)); (first | refine s_gn rfl rfl ?_ | (refine s_gy rfl ?_; refine Q2 rfl ?_)); (first | refine s_gn rfl rfl ?_ | (refine s_gy rfl ?_; refine zl hS ?_)); (first | refine s_gn rfl rfl ?_ | (refine s_gy rfl ?_; refine zL ?_)))
      all_goals (first | refine s_gn rfl rfl ?_ | (refine s_gy rfl ?_; (first | (refine QQ ?_) | (refine Q11 ?_) | (refine Qr rfl rfl (fun hc => ?_) (fun hc => ?_)))))
      all_goals ((first | refine s_gn rfl rfl ?_ | (refine s_gy rfl ?_; (first | (refine zpt ?_) | (refine zpf ?_)))); (first | (refine zpt ?_) | (refine zpf ?_)); refine zn ?_)
      all_goals
        first
        | (refine Q4 rfl ?_ -- Q1p c1
           all_goals (refine Q0 ?_; refine Q1 ?_; refine zm ?_; refine zn ?_; refine zr ?_; refine zf ?_)
           all_goals (refine ⟨_, rfl, ?_, hS.sp⟩; (repeat (first | rw [if_pos (by omega)] | rw [if_neg (by omega)])); done))
        | (refine Q5 rfl ?_ -- Q1p c1
           all_goals refine zsk ?_)
      all_goals (exact ⟨zh, zh, by omega, hS.sp⟩)
    rintro ρ w1 ⟨hA, hρ, hk, hS⟩; obtain ⟨ρ, rfl⟩ := env2 hA hρ
    all_goals (refine Q0 ?_; refine Q0 ?_; refine Q1 ?_; refine Q2 rfl ?_; refine zl hS ?_; refine zL ?_)
    all_goals (first | (refine QQ ?_) | (refine Q11 ?_) | (refine Qr rfl rfl (fun hc => ?_) (fun hc => ?_)))
    all_goals (refine zn ?_)
    all_goals
      first
      | (refine Q4 rfl ?_ -- Q1p c2
         all_goals (refine Q0 ?_; refine Q1 ?_; refine zm ?_; refine zn ?_; refine zr ?_; refine zf ?_)
         all_goals (refine ⟨_, rfl, ?_, hS.sp⟩; (repeat (first | rw [if_pos (by omega)] | rw [if_neg (by omega)])); done))
      | (refine Q5 rfl ?_ -- Q1p c2
         all_goals refine zsk ?_)
    refine zML hS [1, 2] (fun A LL ρ' w' => Has ρ' A ∧ Has ρ' [] ∧ (l.length ≤ 8) ∧ (k ≠ 1 → 0 ≤ r ∧ r < regs) ∧ St cx w' (LL)) ?_ ?_
    · skip
      all_goals (refine Q0 ?_; refine Q1 ?_; refine Q2 rfl ?_; refine zl hS ?_)
      all_goals (first | (refine Q12 ?_) | (refine Q18 ?_) | (refine Qx rfl rfl (fun hc => ?_) (fun hc => ?_)))
      all_goals (refine zm ?_; (first | refine s_gn rfl rfl ?_ | (refine s_gy rfl ?_; refine Q2 rfl ?_)); (first | refine s_gn rfl rfl ?_ | (refine s_gy rfl ?_; refine zl hS ?_)))
      all_goals (first | refine s_gn rfl rfl ?_ | (refine s_gy rfl ?_; (first | (refine Q26 ?_) | (refine Q27 ?_) | (refine QR rfl rfl (fun hc => ?_) (fun hc => ?_)))))
      all_goals ((first | refine s_gn rfl rfl ?_ | (refine s_gy rfl ?_; refine zm ?_)); (first | refine s_gn rfl rfl ?_ | (refine s_gy rfl ?_; refine Q2 rfl ?_)); (first | refine s_gn rfl rfl ?_ | (refine s_gy rfl ?_; refine zl hS ?_)); (first | refine s_gn rfl rfl ?_ | (refine s_gy rfl ?_; refine zm ?_)))
      all_goals (first | refine s_gn rfl rfl ?_ | (refine s_gy rfl ?_; (first | (refine Qb5 ?_) | (refine Qb6 ?_) | (refine Q3d rfl rfl (fun hc => ?_) (fun hc => ?_)))))
      all_goals ((first | refine s_gn rfl rfl ?_ | (refine s_gy rfl ?_; (first | (refine zpt ?_) | (refine zpf ?_)))); (first | (refine zpt ?_) | (refine zpf ?_)); refine zn ?_)
      all_goals
        first
        | (refine Q4 rfl ?_ -- Q1p c3
           all_goals (refine Q0 ?_; refine Q1 ?_; refine zm ?_; refine zn ?_; refine zr ?_; refine zf ?_)
           all_goals (refine ⟨_, rfl, ?_, hS.sp⟩; (repeat (first | rw [if_pos (by omega)] | rw [if_neg (by omega)])); done))
        | (refine Q5 rfl ?_ -- Q1p c3
           all_goals refine zsk ?_)
      all_goals (exact ⟨zh, zh, by omega, by omega, hS.sp⟩)
    rintro ρ w1 ⟨hA, hρ, hk2, hk3, hS⟩; obtain ⟨ρ, rfl⟩ := env2 hA hρ
    all_goals (refine Q0 ?_; refine Q0 ?_; refine Q1 ?_; refine zm ?_; refine zn ?_; refine Qh ?_)
    refine zoL hS [1, 2] (fun A LL ρ' w' => ∃ (j : Nat), Has ρ' A ∧ Has ρ' [(5, .int .i64 j)] ∧ (j ≤ l.length) ∧ (Tys.wrong 8 l regs = Tys.wrong 8 (l.drop j) regs) ∧ St cx w' (LL)) (fun ρ' _ => (l.length - iv (ρ' 5)).toNat) ?_ ?_
    · exact ⟨0, zh, zh, (by omega), by simp, hS.sp⟩
    rintro ρ w1 ⟨j, hA, hρ, hj, hd, hS⟩; obtain ⟨ρ, rfl⟩ := env2 hA hρ
    unfold Q7c
    all_goals (refine Q0 ?_; refine Q0 ?_; refine Q1 ?_; refine zm ?_; refine Q2 rfl ?_; refine zl hS ?_; refine zL ?_; refine Q1x rfl rfl ?_; refine zn ?_)
    refine QO rfl (fun hc => ?_) (fun hc => ?_)
    · skip
      all_goals (refine zsk ?_; refine Q0 ?_; refine Qh ?_; refine Q0 ?_; refine Q1 ?_; refine Q2 rfl ?_; refine zl hS ?_; refine zm ?_; refine zi ?_; intro b1 o1 cs1 x1 hat1 hx1 he1; obtain ⟨vl1, rfl, hl1⟩ := Q1b he1; (first | (refine zv hS ?_) | (refine zvk hS ?_)); refine zm ?_; refine zR2 (c := ih _ (List.mem_of_getElem? (by assumption)) (by assumption) hS) (h := ?_); rintro v1 w1 ⟨rfl, hS⟩; refine zm ?_; refine zn ?_; refine Q0 ?_; refine Q1 ?_; refine zm ?_)
      all_goals (first | (refine Q12 ?_) | (refine Q18 ?_) | (refine Qx rfl rfl (fun hc => ?_) (fun hc => ?_)))
      all_goals (refine zn ?_)
      all_goals
        first
        | (refine Q4 rfl ?_ -- Q1p c5
           all_goals (refine Q0 ?_; refine Q1 ?_; refine zm ?_; refine zm ?_; refine zn ?_; refine zr ?_; refine zf ?_)
           all_goals (first | (refine ⟨_, rfl, ?_, hS.sp⟩; (repeat (first | rw [if_pos (by omega)] | rw [if_neg (by omega)])); done) | (refine ⟨_, rfl, ?_, hS.sp⟩; ((repeat (first | rw [if_pos (by omega)] | rw [if_neg (by omega)])); rw [hd, Q6 hx1, Tys.wrong, if_pos (by assumption)]); done)))
        | (refine Q5 rfl ?_ -- Q1p c5
           all_goals refine zsk ?_)
      all_goals (refine Q1 ?_; refine zm ?_; refine zad ?_; refine zm ?_; refine zn ?_; exact ⟨⟨j + 1, zh, zh, (by omega), by rw [hd, Q6 hx1, Tys.wrong, if_neg (by omega)], hS.sp⟩, Q16 (by omega)⟩)
    · skip
      all_goals (refine zex ?_; refine Q0 ?_; refine Q1 ?_; refine zm ?_; refine zn ?_; refine zr ?_; refine zf ?_; (first | (refine ⟨_, rfl, ?_, hS.sp⟩; (repeat (first | rw [if_pos (by omega)] | rw [if_neg (by omega)])); done) | (refine ⟨_, rfl, ?_, hS.sp⟩; ((repeat (first | rw [if_pos (by omega)] | rw [if_neg (by omega)])); rw [hd, Q6 hx1, Tys.wrong, if_pos (by assumption)]); done) | (refine ⟨_, rfl, ?_, hS.sp⟩; ((repeat (first | rw [if_pos (by omega)] | rw [if_neg (by omega)])); rw [hd, List.drop_of_length_le (by omega), Tys.wrong]); done)))
theorem QnU {t : Ty} {cx : Cx} {w : World} {L : List Res} {cs : List Value} {regs : Int} (ht : tyR.at cx cs t) (hS : St cx w L) :
    Rets Tryz.prog Q5a [.agg ⟨cs⟩, .int .i64 regs] w fun v w' => v = .int .i64 (t.fault regs) ∧ St cx w' L := by
  obtain ⟨v, rfl, hl⟩ := Q1b ht
  have hdp := Ty.depth_iff t (most := 4) (by omega)
  unfold Ty.fault
  all_goals refine QgB ?_
  all_goals (unfold R_TypeFault_lc; refine Q0 ?_; refine Q1 ?_; refine zb hS ?_; intro p2 w1 hS; refine zm ?_; refine zn ?_; refine Q0 ?_; refine Q0 ?_; refine Q1 ?_; refine zv hS ?_; refine zR2 (c := depth_c t ht (by omega) (by omega) hS) (h := ?_); rintro v1 w1 ⟨rfl, hS⟩)
  all_goals (first | (refine QQ ?_) | (refine Q11 ?_) | (refine Qr rfl rfl (fun hc => ?_) (fun hc => ?_)))
  all_goals (refine zn ?_)
  all_goals
    first
    | (refine Q4 rfl ?_ -- Q5a c0
       all_goals (refine Q0 ?_; refine Q1 ?_; refine zm ?_; refine zn ?_; refine zr ?_; refine zf ?_)
       all_goals (refine ⟨_, rfl, ?_, hS.sp⟩; (rw [if_pos]; cases hg : t.deepB 4 <;> simp_all <;> omega); done))
    | (refine Q5 rfl ?_ -- Q5a c0
       all_goals refine zsk ?_)
  all_goals (refine Q0 ?_; refine Q1 ?_; refine zv hS ?_; refine zm ?_; refine zR2 (c := rwrong_c t ht hS) (h := ?_); rintro v1 w1 ⟨rfl, hS⟩; refine zm ?_; refine zn ?_; refine zr ?_; refine zf ?_)
  all_goals (first | (refine ⟨_, rfl, ?_, hS.sp⟩; (rw [if_pos]; cases hg : t.deepB 4 <;> simp_all <;> omega); done) | (refine ⟨_, rfl, ?_, hS.sp⟩; (rw [if_neg]; cases hg : t.deepB 4 <;> simp_all <;> omega); done))
end Go.Proofs.YtjecflbbcnocdaaGreatDoor
namespace Go.Proofs.YtjecflbbcnocdaaGreatDoor
open Go.Lir
set_option maxHeartbeats 1000000
attribute [local irreducible] LC.wp Q3 QF QK retQ Q1E LO.wp Qq Calls
set_option linter.unusedSimpArgs false
set_option linter.unusedVariables false
end Go.Proofs.YtjecflbbcnocdaaGreatDoor
namespace Go.Proofs.YtjecflbbcnocdaaGreatDoor
open Go.Lir
set_option maxHeartbeats 1000000
attribute [local irreducible] LC.wp Q3 QF QK retQ Q1E LO.wp Qq Calls
set_option linter.unusedSimpArgs false
set_option linter.unusedVariables false
theorem Qk8 {l : List Ty} (ih : ∀ x ∈ l, ∀ (y : Ty) {cx : Cx} {w : World} {L : List Res} {cs ds : List Value}, tyR.at cx cs x → tyR.at cx ds y → St cx w L → Rets Tryz.prog QbV [.agg ⟨cs⟩, .agg ⟨ds⟩] w fun u w' => u = .bool (decide (x = y)) ∧ St cx w' L)
    {m : List Ty} {cx : Cx} {w : World} {L : List Res} {v v2 : Value} (hl : tyR.sl cx v l) (hm : tyR.sl cx v2 m) (hS : St cx w L) : Rets Tryz.prog Q2N [v, v2] w fun u w' => u = .bool (decide (l = m)) ∧ St cx w' L := by
  have hlen := hl.len
  all_goals refine QgL ?_
  all_goals (unfold R_SameTypes_lc; refine Q0 ?_; refine Q1 ?_; refine zm ?_; refine zn ?_; refine Q0 ?_; refine Q0 ?_; refine Q1 ?_; refine zm ?_; refine zL ?_; refine zm ?_; refine zL ?_)
  all_goals (first | (refine Q12 ?_) | (refine Q18 ?_) | (refine Qx rfl rfl (fun hc => ?_) (fun hc => ?_)))
  all_goals (refine zn ?_)
  all_goals
    first
    | (refine Q4 rfl ?_ -- Q2N c0
       all_goals (refine Q0 ?_; refine Q1 ?_; refine zm ?_; refine zn ?_; refine zr ?_; refine zf ?_)
       all_goals (refine ⟨_, rfl, ?_, hS.sp⟩; rw [decide_eq_false]; exact fun e => absurd (congrArg List.length e) (by omega); done))
    | (refine Q5 rfl ?_ -- Q2N c0
       all_goals refine zsk ?_)
  all_goals (refine Q0 ?_; refine Q0 ?_; refine Q1 ?_; refine zm ?_; refine zn ?_; refine Qh ?_)
  refine zoL hS [0, 1] (fun A LL ρ' w' => ∃ (j : Nat), Has ρ' A ∧ Has ρ' [(5, .int .i64 j)] ∧ (j ≤ l.length) ∧ (l.length = m.length) ∧ (l = m ↔ l.drop j = m.drop j) ∧ St cx w' (LL)) (fun ρ' _ => (l.length - iv (ρ' 5)).toNat) ?_ ?_
  · exact ⟨0, zh, zh, (by omega), (by omega), by simp, hS.sp⟩
  rintro ρ w1 ⟨j, hA, hρ, hj, hlm, hd, hS⟩; obtain ⟨ρ, rfl⟩ := env2 hA hρ
  unfold Q9a
  all_goals (refine Q0 ?_; refine Q0 ?_; refine Q1 ?_; refine zm ?_; refine zm ?_; refine zL ?_; refine Q1x rfl rfl ?_; refine zn ?_)
  refine QO rfl (fun hc => ?_) (fun hc => ?_)
  · skip
    all_goals (refine zsk ?_; refine Q0 ?_; refine Qh ?_; refine Q0 ?_; refine zD [(0, none), (1, none), (2, none), (3, none), (4, none), (5, none), (6, none), (7, none), (8, some none), (9, some none)] ?_; have hS := hS.drew; refine zm ?_; refine zm ?_; refine zi ?_; intro b1 o1 cs1 x1 hat1 hx1 he1; obtain ⟨vl1, rfl, hl1⟩ := Q1b he1; (first | (refine zv hS ?_) | (refine zvk hS ?_)); refine zm ?_; refine zm ?_; refine zi ?_; intro b2 o2 cs2 x2 hat2 hx2 he2; obtain ⟨vl2, rfl, hl2⟩ := Q1b he2; (first | (refine zv hS ?_) | (refine zvk hS ?_)))
    all_goals (refine zR2 (c := ih _ (List.mem_of_getElem? hx1) _ he1 he2 hS) (h := ?_); rintro v1 w1 ⟨rfl, hS⟩; (cases hdec : decide (x1 = x2)); have hg := of_decide_eq_false hdec; rotate_left; have hg := of_decide_eq_true hdec; all_goals skip)
    all_goals (refine Q1w rfl ?_; refine zn ?_)
    all_goals
      first
      | (refine Q4 rfl ?_ -- Q2N c2
         all_goals (refine Q0 ?_; refine Q1 ?_; refine zm ?_; refine zn ?_; refine zr ?_; refine zf ?_)
         all_goals (first | (refine ⟨_, rfl, ?_, hS.sp⟩; rw [decide_eq_false]; exact fun e => absurd (congrArg List.length e) (by omega); done) | (refine ⟨_, rfl, ?_, hS.sp⟩; rw [decide_eq_false]; rw [hd, Q6 hx1, Q6 hx2]; simp [hg]; done)))
      | (refine Q5 rfl ?_ -- Q2N c2
         all_goals refine zsk ?_)
    all_goals (refine Q1 ?_; refine zm ?_; refine zad ?_; refine zm ?_; refine zn ?_; exact ⟨⟨j + 1, zh, zh, (by omega), (by omega), by rw [hd, Q6 hx1, Q6 hx2, hg]; simp, hS.sp⟩, Q16 (by omega)⟩)
  · skip
    all_goals (refine zex ?_; refine Q0 ?_; refine Q1 ?_; refine zm ?_; refine zn ?_; refine zr ?_; refine zf ?_; (first | (refine ⟨_, rfl, ?_, hS.sp⟩; rw [decide_eq_false]; exact fun e => absurd (congrArg List.length e) (by omega); done) | (refine ⟨_, rfl, ?_, hS.sp⟩; rw [decide_eq_false]; rw [hd, Q6 hx1, Q6 hx2]; simp [hg]; done) | (refine ⟨_, rfl, ?_, hS.sp⟩; rw [decide_eq_true]; rw [hd, List.drop_of_length_le (by omega), List.drop_of_length_le (by omega)]; done)))
theorem rsame_c : ∀ (t u : Ty) {cx : Cx} {w : World} {L : List Res} {cs ds : List Value}, tyR.at cx cs t → tyR.at cx ds u → St cx w L →
    Rets Tryz.prog QbV [.agg ⟨cs⟩, .agg ⟨ds⟩] w fun v w' => v = .bool (decide (t = u)) ∧ St cx w' L := by
  intro t
  induction t using Ty.ind with
  | h k r l ih =>
    rintro ⟨k2, r2, m⟩ cx w L cs ds ht hu hS
    obtain ⟨v, rfl, hl⟩ := Q1b ht
    obtain ⟨v2, rfl, hm⟩ := Q1b hu
    simp only [Ty.kind, Ty.r, Ty.l, Ty.mk.injEq] at hl hm ht hu ⊢
    all_goals refine Qjg ?_
    all_goals (unfold R_SameType_lc; refine Q0 ?_; refine Q1 ?_; refine zb hS ?_; intro p2 w1 hS; refine zb hS ?_; intro p3 w1 hS; refine zm ?_; refine zn ?_; refine Q0 ?_; refine Q1 ?_; refine Q2 rfl ?_; refine zl hS ?_; refine Q2 rfl ?_; refine zl hS ?_)
    all_goals (first | (refine Qw ?_) | (refine Qy ?_) | (refine Qj rfl rfl (fun hc => ?_) (fun hc => ?_)))
    all_goals (refine zm ?_; (first | refine s_gn rfl rfl ?_ | (refine s_gy rfl ?_; refine Q2 rfl ?_)); (first | refine s_gn rfl rfl ?_ | (refine s_gy rfl ?_; refine zl hS ?_)); (first | refine s_gn rfl rfl ?_ | (refine s_gy rfl ?_; refine Q2 rfl ?_)); (first | refine s_gn rfl rfl ?_ | (refine s_gy rfl ?_; refine zl hS ?_)))
    all_goals (first | refine s_gn rfl rfl ?_ | (refine s_gy rfl ?_; (first | (refine Qw ?_) | (refine Qy ?_) | (refine Qj rfl rfl (fun hc => ?_) (fun hc => ?_)))))
    all_goals ((first | (refine zpt ?_) | (refine zpf ?_)); refine zm ?_; (first | refine s_gn rfl rfl ?_ | (refine s_gy rfl ?_; refine Q2 rfl ?_)); (first | refine s_gn rfl rfl ?_ | (refine s_gy rfl ?_; refine zl hS ?_)); (first | refine s_gn rfl rfl ?_ | (refine s_gy rfl ?_; refine Q2 rfl ?_)); (first | refine s_gn rfl rfl ?_ | (refine s_gy rfl ?_; refine zl hS ?_)); (first | refine s_gn rfl rfl ?_ | (refine s_gy rfl ?_; refine zR2 (c := Qk8 ih hl hm hS) (h := ?_); rintro v1 w1 ⟨rfl, hS⟩)); (first | (refine zpt ?_) | (refine zpf ?_)); refine zm ?_; refine zn ?_; refine zr ?_; refine zf ?_; refine ⟨_, rfl, ?_, hS.sp⟩; (simp [*]); done)
theorem Q7j {l m : List Ty} {cx : Cx} {w : World} {L : List Res} {v v2 : Value} (hl : tyR.sl cx v l) (hm : tyR.sl cx v2 m) (hS : St cx w L) : Rets Tryz.prog Q2N [v, v2] w fun u w' => u = .bool (decide (l = m)) ∧ St cx w' L :=
  Qk8 (fun x _ => rsame_c x) hl hm hS
/-- slices.EqualFunc, by a function that tells whether two are the same. -/
theorem eqfT_c {l : List Ty} {f : FuncId} (hf : Q38 Tryz.prog f = true) {m : List Ty} {cx : Cx} {w : World} {L : List Res} {v v2 : Value}
    (hcall : ∀ x ∈ l, ∀ y ∈ m, ∀ {w : World} {L : List Res} {cs ds : List Value}, tyR.at cx cs x → tyR.at cx ds y → St cx w L → Rets Tryz.prog f [.agg ⟨cs⟩, .agg ⟨ds⟩] w fun u w' => u = .bool (decide (x = y)) ∧ St cx w' L)
    (hl : tyR.sl cx v l) (hm : tyR.sl cx v2 m) (hS : St cx w L) : Rets Tryz.prog Qf [v, v2, .func (.func f) #[] #[]] w fun u w' => u = .bool (decide (l = m)) ∧ St cx w' L := by
  have hlen := hl.len
  all_goals refine Q1o ?_
  all_goals (unfold slices_EqualFunc_api_Type_api_Type_api_Type_api_Type_lc; refine Q0 ?_; refine Q1 ?_; refine zm ?_; refine zn ?_; refine Q0 ?_; refine Q0 ?_; refine Q1 ?_; refine zm ?_; refine zL ?_; refine zm ?_; refine zL ?_)
  all_goals (first | (refine Q12 ?_) | (refine Q18 ?_) | (refine Qx rfl rfl (fun hc => ?_) (fun hc => ?_)))
  all_goals (refine zn ?_)
  all_goals
    first
    | (refine Q4 rfl ?_ -- Qf c0
       all_goals (refine Q0 ?_; refine Q1 ?_; refine zm ?_; refine zn ?_; refine zr ?_; refine zf ?_)
       all_goals (refine ⟨_, rfl, ?_, hS.sp⟩; rw [decide_eq_false]; exact fun e => absurd (congrArg List.length e) (by omega); done))
    | (refine Q5 rfl ?_ -- Qf c0
       all_goals refine zsk ?_)
  all_goals (refine Q0 ?_; refine Q0 ?_; refine Q1 ?_; refine zm ?_; refine zL ?_; refine zm ?_; refine zn ?_; refine Qh ?_)
  refine zoL hS [1, 2, 15, 16] (fun A LL ρ' w' => ∃ (j : Nat), Has ρ' A ∧ Has ρ' [(17, .int .i64 j)] ∧ (j ≤ l.length) ∧ (l.length = m.length) ∧ (l = m ↔ l.drop j = m.drop j) ∧ St cx w' (LL)) (fun ρ' _ => (l.length - iv (ρ' 17)).toNat) ?_ ?_
  · exact ⟨0, zh, zh, (by omega), (by omega), by simp, hS.sp⟩
  rintro ρ w1 ⟨j, hA, hρ, hj, hlm, hd, hS⟩; obtain ⟨ρ, rfl⟩ := env2 hA hρ
  unfold QH
  all_goals (refine Q0 ?_; refine Q1 ?_; refine Q1x rfl rfl ?_; refine zn ?_; refine Q0 ?_)
  refine QO rfl (fun hc => ?_) (fun hc => ?_)
  · skip
    all_goals (refine zsk ?_; refine Q0 ?_; refine Qh ?_; refine Q0 ?_; refine Q1 ?_; refine zm ?_; refine zi ?_; intro b1 o1 cs1 x1 hat1 hx1 he1; obtain ⟨vl1, rfl, hl1⟩ := Q1b he1; (first | (refine zv hS ?_) | (refine zvk hS ?_)); refine Qb hS ?_; intro p8 w1 hS; refine zm ?_; refine zsn hS ?_; intro w1 hS; have hS := hS.ns; refine zn ?_; refine Q0 ?_; refine Q1 ?_; refine zm ?_; refine zm ?_; refine zi ?_; intro b2 o2 cs2 x2 hat2 hx2 he2; obtain ⟨vl2, rfl, hl2⟩ := Q1b he2; (first | (refine zv hS ?_) | (refine zvk hS ?_)); refine Qb hS ?_; intro p9 w1 hS; refine zsn hS ?_; intro w1 hS; have hS := hS.ns; refine zn ?_; refine Q0 ?_; refine Q1 ?_; refine zm ?_; refine zv hS ?_; refine zv hS ?_)
    all_goals (refine QnI rfl hf (by rfl) (hcall _ (List.mem_of_getElem? hx1) _ (List.mem_of_getElem? hx2) he1 he2 hS) ?_; rintro v1 w1 ⟨rfl, hS⟩; (cases hdec : decide (x1 = x2)); have hg := of_decide_eq_false hdec; rotate_left; have hg := of_decide_eq_true hdec; all_goals skip)
    all_goals (refine Q1w rfl ?_; refine zn ?_)
    all_goals
      first
      | (refine Q4 rfl ?_ -- Qf c2
         all_goals (refine Q0 ?_; refine Q1 ?_; refine zm ?_; refine zn ?_; refine zr ?_; refine zf ?_)
         all_goals (first | (refine ⟨_, rfl, ?_, hS.sp⟩; rw [decide_eq_false]; exact fun e => absurd (congrArg List.length e) (by omega); done) | (refine ⟨_, rfl, ?_, hS.sp⟩; rw [decide_eq_false]; rw [hd, Q6 hx1, Q6 hx2]; simp [hg]; done)))
      | (refine Q5 rfl ?_ -- Qf c2
         all_goals refine zsk ?_)
    all_goals (refine Q1 ?_; refine zad ?_; refine zm ?_; refine zn ?_; exact ⟨⟨j + 1, zh, zh, (by omega), (by omega), by rw [hd, Q6 hx1, Q6 hx2, hg]; simp, hS.sp⟩, Q16 (by omega)⟩)
  · skip
    all_goals (refine zex ?_; refine Q0 ?_; refine Q1 ?_; refine zm ?_; refine zn ?_; refine zr ?_; refine zf ?_; (first | (refine ⟨_, rfl, ?_, hS.sp⟩; rw [decide_eq_false]; exact fun e => absurd (congrArg List.length e) (by omega); done) | (refine ⟨_, rfl, ?_, hS.sp⟩; rw [decide_eq_false]; rw [hd, Q6 hx1, Q6 hx2]; simp [hg]; done) | (refine ⟨_, rfl, ?_, hS.sp⟩; rw [decide_eq_true]; rw [hd, List.drop_of_length_le (by omega), List.drop_of_length_le (by omega)]; done)))
theorem psame_c : ∀ (t u : Ty) {cx : Cx} {w : World} {L : List Res} {cs ds : List Value}, tyR.at cx cs t → tyR.at cx ds u → St cx w L →
    Rets Tryz.prog Qhi [.agg ⟨cs⟩, .agg ⟨ds⟩] w fun v w' => v = .bool (decide (t = u)) ∧ St cx w' L := by
  intro t
  induction t using Ty.ind with
  | h k r l ih =>
    rintro ⟨k2, r2, m⟩ cx w L cs ds ht hu hS
    obtain ⟨v, rfl, hl⟩ := Q1b ht
    obtain ⟨v2, rfl, hm⟩ := Q1b hu
    simp only [Ty.kind, Ty.r, Ty.l, Ty.mk.injEq] at hl hm ht hu ⊢
    all_goals refine QhR ?_
    all_goals (unfold types_Same_lc; refine Q0 ?_; refine Q1 ?_; refine zb hS ?_; intro p2 w1 hS; refine zb hS ?_; intro p3 w1 hS; refine zm ?_; refine zn ?_; refine Q0 ?_; refine Q1 ?_; refine Q2 rfl ?_; refine zl hS ?_; refine Q2 rfl ?_; refine zl hS ?_)
    all_goals (first | (refine Qw ?_) | (refine Qy ?_) | (refine Qj rfl rfl (fun hc => ?_) (fun hc => ?_)))
    all_goals (refine zm ?_; (first | refine s_gn rfl rfl ?_ | (refine s_gy rfl ?_; refine Q2 rfl ?_)); (first | refine s_gn rfl rfl ?_ | (refine s_gy rfl ?_; refine zl hS ?_)); (first | refine s_gn rfl rfl ?_ | (refine s_gy rfl ?_; refine Q2 rfl ?_)); (first | refine s_gn rfl rfl ?_ | (refine s_gy rfl ?_; refine zl hS ?_)))
    all_goals (first | refine s_gn rfl rfl ?_ | (refine s_gy rfl ?_; (first | (refine Qw ?_) | (refine Qy ?_) | (refine Qj rfl rfl (fun hc => ?_) (fun hc => ?_)))))
    all_goals ((first | (refine zpt ?_) | (refine zpf ?_)); refine zm ?_; (first | refine s_gn rfl rfl ?_ | (refine s_gy rfl ?_; refine Q2 rfl ?_)); (first | refine s_gn rfl rfl ?_ | (refine s_gy rfl ?_; refine zl hS ?_)); (first | refine s_gn rfl rfl ?_ | (refine s_gy rfl ?_; refine Q2 rfl ?_)); (first | refine s_gn rfl rfl ?_ | (refine s_gy rfl ?_; refine zl hS ?_)); (first | refine s_gn rfl rfl ?_ | (refine s_gy rfl ?_; refine zR3 (c := eqfT_c (by kernel_rfl) (fun x hx y _ {_ _ _ _} h1 h2 h3 => ih x hx y h1 h2 h3) hl hm hS) (h := ?_); rintro v1 w1 ⟨rfl, hS⟩)); (first | (refine zpt ?_) | (refine zpf ?_)); refine zm ?_; refine zn ?_; refine zr ?_; refine zf ?_; refine ⟨_, rfl, ?_, hS.sp⟩; (simp [*]); done)
end Go.Proofs.YtjecflbbcnocdaaGreatDoor
namespace Go.Proofs.YtjecflbbcnocdaaGreatDoor
open Go.Lir
set_option maxHeartbeats 1000000
attribute [local irreducible] LC.wp Q3 QF QK retQ Q1E LO.wp Qq Calls
set_option linter.unusedSimpArgs false
set_option linter.unusedVariables false
theorem QdE {l m : List Int} {cx : Cx} {w : World} {L : List Res} {v v2 : Value} (hl : intR.sl cx v l) (hm : intR.sl cx v2 m) (hS : St cx w L) : Rets Tryz.prog Q3F [v, v2] w fun u w' => u = .bool (decide (l = m)) ∧ St cx w' L := by
  have hlen := hl.len
  all_goals refine Qjq ?_
  all_goals (unfold R_SameInts_lc; refine Q0 ?_; refine Q1 ?_; refine zm ?_; refine zn ?_; refine Q0 ?_; refine Q0 ?_; refine Q1 ?_; refine zm ?_; refine zL ?_; refine zm ?_; refine zL ?_)
  all_goals (first | (refine Q12 ?_) | (refine Q18 ?_) | (refine Qx rfl rfl (fun hc => ?_) (fun hc => ?_)))
  all_goals (refine zn ?_)
  all_goals
    first
    | (refine Q4 rfl ?_ -- Q3F c0
       all_goals (refine Q0 ?_; refine Q1 ?_; refine zm ?_; refine zn ?_; refine zr ?_; refine zf ?_)
       all_goals (refine ⟨_, rfl, ?_, hS.sp⟩; rw [decide_eq_false]; exact fun e => absurd (congrArg List.length e) (by omega); done))
    | (refine Q5 rfl ?_ -- Q3F c0
       all_goals refine zsk ?_)
  all_goals (refine Q0 ?_; refine Q0 ?_; refine Q1 ?_; refine zm ?_; refine zn ?_; refine Qh ?_)
  refine zoL hS [0, 1] (fun A LL ρ' w' => ∃ (j : Nat), Has ρ' A ∧ Has ρ' [(5, .int .i64 j)] ∧ (j ≤ l.length) ∧ (l.length = m.length) ∧ (l = m ↔ l.drop j = m.drop j) ∧ St cx w' (LL)) (fun ρ' _ => (l.length - iv (ρ' 5)).toNat) ?_ ?_
  · exact ⟨0, zh, zh, (by omega), (by omega), by simp, hS.sp⟩
  rintro ρ w1 ⟨j, hA, hρ, hj, hlm, hd, hS⟩; obtain ⟨ρ, rfl⟩ := env2 hA hρ
  unfold QaW
  all_goals (refine Q0 ?_; refine Q0 ?_; refine Q1 ?_; refine zm ?_; refine zm ?_; refine zL ?_; refine Q1x rfl rfl ?_; refine zn ?_)
  refine QO rfl (fun hc => ?_) (fun hc => ?_)
  · skip
    all_goals (refine zsk ?_; refine Q0 ?_; refine Qh ?_; refine Q0 ?_; refine zD [(0, none), (1, none), (2, none), (3, none), (4, none), (5, none), (6, none), (7, none), (8, some none)] ?_; have hS := hS.drew; refine zm ?_; refine zm ?_; refine zi ?_; intro b1 o1 cs1 x1 hat1 hx1 he1; obtain rfl := Qd3 he1; (first | (refine zl hS ?_) | (refine zlk hS ?_)); refine zm ?_; refine zm ?_; refine zi ?_; intro b2 o2 cs2 x2 hat2 hx2 he2; obtain rfl := Qd3 he2; (first | (refine zl hS ?_) | (refine zlk hS ?_)))
    all_goals (first | (refine Q12 ?_) | (refine Q18 ?_) | (refine Qx rfl rfl (fun hc => ?_) (fun hc => ?_)))
    all_goals (refine zn ?_)
    all_goals
      first
      | (refine Q4 rfl ?_ -- Q3F c2
         all_goals (refine Q0 ?_; refine Q1 ?_; refine zm ?_; refine zn ?_; refine zr ?_; refine zf ?_)
         all_goals (first | (refine ⟨_, rfl, ?_, hS.sp⟩; rw [decide_eq_false]; exact fun e => absurd (congrArg List.length e) (by omega); done) | (refine ⟨_, rfl, ?_, hS.sp⟩; rw [decide_eq_false]; rw [hd, Q6 hx1, Q6 hx2]; simp [*]; done)))
      | (refine Q5 rfl ?_ -- Q3F c2
         all_goals refine zsk ?_)
    all_goals (refine Q1 ?_; refine zm ?_; refine zad ?_; refine zm ?_; refine zn ?_; exact ⟨⟨j + 1, zh, zh, (by omega), (by omega), by rw [hd, Q6 hx1, Q6 hx2, show x1 = x2 by omega]; simp, hS.sp⟩, Q16 (by omega)⟩)
  · skip
    all_goals (refine zex ?_; refine Q0 ?_; refine Q1 ?_; refine zm ?_; refine zn ?_; refine zr ?_; refine zf ?_; (first | (refine ⟨_, rfl, ?_, hS.sp⟩; rw [decide_eq_false]; exact fun e => absurd (congrArg List.length e) (by omega); done) | (refine ⟨_, rfl, ?_, hS.sp⟩; rw [decide_eq_false]; rw [hd, Q6 hx1, Q6 hx2]; simp [*]; done) | (refine ⟨_, rfl, ?_, hS.sp⟩; rw [decide_eq_true]; rw [hd, List.drop_of_length_le (by omega), List.drop_of_length_le (by omega)]; done)))
theorem Qk7 {x y : To} {cx : Cx} {w : World} {L : List Res} {cs ds : List Value} (hx : toR.at cx cs x) (hy : toR.at cx ds y) (hS : St cx w L) : Rets Tryz.prog QmK [.agg ⟨cs⟩, .agg ⟨ds⟩] w fun u w' => u = .bool (decide (x = y)) ∧ St cx w' L := by
  obtain ⟨n, xr, xa⟩ := x
  obtain ⟨n2, yr, ya⟩ := y
  obtain ⟨v1, v2, rfl, h1, h2⟩ := Q9d hx
  obtain ⟨v3, v4, rfl, h3, h4⟩ := Q9d hy
  simp only [To.mk.injEq] at *
  all_goals refine QlT ?_
  all_goals (unfold R_sameTo_lc; refine Q0 ?_; refine Q1 ?_; refine zb hS ?_; intro p2 w1 hS; refine zb hS ?_; intro p3 w1 hS; refine zm ?_; refine zn ?_; refine Q0 ?_; refine Q1 ?_; refine Q2 rfl ?_; refine zl hS ?_; refine Q2 rfl ?_; refine zl hS ?_)
  all_goals (first | (refine Qw ?_) | (refine Qy ?_) | (refine Qj rfl rfl (fun hc => ?_) (fun hc => ?_)))
  all_goals (refine zm ?_; (first | refine s_gn rfl rfl ?_ | (refine s_gy rfl ?_; refine Q2 rfl ?_)); (first | refine s_gn rfl rfl ?_ | (refine s_gy rfl ?_; refine zl hS ?_)); (first | refine s_gn rfl rfl ?_ | (refine s_gy rfl ?_; refine Q2 rfl ?_)); (first | refine s_gn rfl rfl ?_ | (refine s_gy rfl ?_; refine zl hS ?_)))
  all_goals ((first | (refine s_gn rfl rfl ?_) | (refine s_gy rfl ?_; refine zR2 (c := QdE h1 h3 hS) (h := ?_); rintro v1 w1 ⟨rfl, hS⟩; (cases hdec : decide (xr = yr)); have hg := of_decide_eq_false hdec; rotate_left; have hg := of_decide_eq_true hdec; all_goals skip)))
  all_goals ((first | (refine zpt ?_) | (refine zpf ?_)); refine zm ?_; (first | refine s_gn rfl rfl ?_ | (refine s_gy rfl ?_; refine Q2 rfl ?_)); (first | refine s_gn rfl rfl ?_ | (refine s_gy rfl ?_; refine zl hS ?_)); (first | refine s_gn rfl rfl ?_ | (refine s_gy rfl ?_; refine Q2 rfl ?_)); (first | refine s_gn rfl rfl ?_ | (refine s_gy rfl ?_; refine zl hS ?_)); (first | (refine s_gn rfl rfl ?_) | (refine s_gy rfl ?_; refine zR2 (c := QdE h2 h4 hS) (h := ?_); rintro v1 w1 ⟨rfl, hS⟩)); (first | (refine zpt ?_) | (refine zpf ?_)); refine zm ?_; refine zn ?_; refine zr ?_; refine zf ?_; refine ⟨_, rfl, ?_, hS.sp⟩; (simp [*]); done)
theorem QmW {x y : Ins} {cx : Cx} {w : World} {L : List Res} {cs ds : List Value} (hx : insR.at cx cs x) (hy : insR.at cx ds y) (hS : St cx w L) : Rets Tryz.prog QkC [.agg ⟨cs⟩, .agg ⟨ds⟩] w fun u w' => u = .bool (decide (x = y)) ∧ St cx w' L := by
  obtain ⟨n, a, b, c, k, nn, xr, xa⟩ := x
  obtain ⟨n2, a2, b2, c2, k2, nn2, yr, ya⟩ := y
  obtain ⟨v1, v2, rfl, h1, h2⟩ := Q3i hx
  obtain ⟨v3, v4, rfl, h3, h4⟩ := Q3i hy
  simp only [Ins.mk.injEq] at *
  all_goals refine QkB ?_
  all_goals (unfold R_sameIns_lc; refine Q0 ?_; refine Q1 ?_; refine zb hS ?_; intro p2 w1 hS; refine zb hS ?_; intro p3 w1 hS; refine zm ?_; refine zn ?_; refine Q0 ?_; refine Q1 ?_; refine Q2 rfl ?_; refine zl hS ?_; refine Q2 rfl ?_; refine zl hS ?_)
  all_goals (first | (refine Qw ?_) | (refine Qy ?_) | (refine Qj rfl rfl (fun hc => ?_) (fun hc => ?_)))
  all_goals (refine zm ?_; (first | refine s_gn rfl rfl ?_ | (refine s_gy rfl ?_; refine Q2 rfl ?_)); (first | refine s_gn rfl rfl ?_ | (refine s_gy rfl ?_; refine zl hS ?_)); (first | refine s_gn rfl rfl ?_ | (refine s_gy rfl ?_; refine Q2 rfl ?_)); (first | refine s_gn rfl rfl ?_ | (refine s_gy rfl ?_; refine zl hS ?_)))
  all_goals (first | refine s_gn rfl rfl ?_ | (refine s_gy rfl ?_; (first | (refine Qw ?_) | (refine Qy ?_) | (refine Qj rfl rfl (fun hc => ?_) (fun hc => ?_)))))
  all_goals ((first | (refine zpt ?_) | (refine zpf ?_)); refine zm ?_; (first | refine s_gn rfl rfl ?_ | (refine s_gy rfl ?_; refine Q2 rfl ?_)); (first | refine s_gn rfl rfl ?_ | (refine s_gy rfl ?_; refine zl hS ?_)); (first | refine s_gn rfl rfl ?_ | (refine s_gy rfl ?_; refine Q2 rfl ?_)); (first | refine s_gn rfl rfl ?_ | (refine s_gy rfl ?_; refine zl hS ?_)))
  all_goals (first | refine s_gn rfl rfl ?_ | (refine s_gy rfl ?_; (first | (refine Qw ?_) | (refine Qy ?_) | (refine Qj rfl rfl (fun hc => ?_) (fun hc => ?_)))))
  all_goals ((first | (refine zpt ?_) | (refine zpf ?_)); refine zm ?_; (first | refine s_gn rfl rfl ?_ | (refine s_gy rfl ?_; refine Q2 rfl ?_)); (first | refine s_gn rfl rfl ?_ | (refine s_gy rfl ?_; refine zl hS ?_)); (first | refine s_gn rfl rfl ?_ | (refine s_gy rfl ?_; refine Q2 rfl ?_)); (first | refine s_gn rfl rfl ?_ | (refine s_gy rfl ?_; refine zl hS ?_)))
  all_goals (first | refine s_gn rfl rfl ?_ | (refine s_gy rfl ?_; (first | (refine Qw ?_) | (refine Qy ?_) | (refine Qj rfl rfl (fun hc => ?_) (fun hc => ?_)))))
  all_goals ((first | (refine zpt ?_) | (refine zpf ?_)); refine zm ?_; (first | refine s_gn rfl rfl ?_ | (refine s_gy rfl ?_; refine Q2 rfl ?_)); (first | refine s_gn rfl rfl ?_ | (refine s_gy rfl ?_; refine zl hS ?_)); (first | refine s_gn rfl rfl ?_ | (refine s_gy rfl ?_; refine Q2 rfl ?_)); (first | refine s_gn rfl rfl ?_ | (refine s_gy rfl ?_; refine zl hS ?_)))
  all_goals (first | refine s_gn rfl rfl ?_ | (refine s_gy rfl ?_; (first | (refine Qw ?_) | (refine Qy ?_) | (refine Qj rfl rfl (fun hc => ?_) (fun hc => ?_)))))
  all_goals ((first | (refine zpt ?_) | (refine zpf ?_)); refine zm ?_; (first | refine s_gn rfl rfl ?_ | (refine s_gy rfl ?_; refine Q2 rfl ?_)); (first | refine s_gn rfl rfl ?_ | (refine s_gy rfl ?_; refine zl hS ?_)); (first | refine s_gn rfl rfl ?_ | (refine s_gy rfl ?_; refine Q2 rfl ?_)); (first | refine s_gn rfl rfl ?_ | (refine s_gy rfl ?_; refine zl hS ?_)))
  all_goals (first | refine s_gn rfl rfl ?_ | (refine s_gy rfl ?_; (first | (refine Qw ?_) | (refine Qy ?_) | (refine Qj rfl rfl (fun hc => ?_) (fun hc => ?_)))))
  all_goals ((first | (refine zpt ?_) | (refine zpf ?_)); refine zm ?_; (first | refine s_gn rfl rfl ?_ | (refine s_gy rfl ?_; refine Q2 rfl ?_)); (first | refine s_gn rfl rfl ?_ | (refine s_gy rfl ?_; refine zl hS ?_)); (first | refine s_gn rfl rfl ?_ | (refine s_gy rfl ?_; refine Q2 rfl ?_)); (first | refine s_gn rfl rfl ?_ | (refine s_gy rfl ?_; refine zl hS ?_)))
  all_goals ((first | (refine s_gn rfl rfl ?_) | (refine s_gy rfl ?_; refine zR2 (c := QdE h1 h3 hS) (h := ?_); rintro v1 w1 ⟨rfl, hS⟩; (cases hdec : decide (xr = yr)); have hg := of_decide_eq_false hdec; rotate_left; have hg := of_decide_eq_true hdec; all_goals skip)))
  all_goals ((first | (refine zpt ?_) | (refine zpf ?_)); refine zm ?_; (first | refine s_gn rfl rfl ?_ | (refine s_gy rfl ?_; refine Q2 rfl ?_)); (first | refine s_gn rfl rfl ?_ | (refine s_gy rfl ?_; refine zl hS ?_)); (first | refine s_gn rfl rfl ?_ | (refine s_gy rfl ?_; refine Q2 rfl ?_)); (first | refine s_gn rfl rfl ?_ | (refine s_gy rfl ?_; refine zl hS ?_)); (first | (refine s_gn rfl rfl ?_) | (refine s_gy rfl ?_; refine zR2 (c := QdE h2 h4 hS) (h := ?_); rintro v1 w1 ⟨rfl, hS⟩)); (first | (refine zpt ?_) | (refine zpf ?_)); refine zm ?_; refine zn ?_; refine zr ?_; refine zf ?_; refine ⟨_, rfl, ?_, hS.sp⟩; (simp [*]); done)
end Go.Proofs.YtjecflbbcnocdaaGreatDoor
namespace Go.Proofs.YtjecflbbcnocdaaGreatDoor
open Go.Lir
set_option maxHeartbeats 1000000
attribute [local irreducible] LC.wp Q3 QF QK retQ Q1E LO.wp Qq Calls
set_option linter.unusedSimpArgs false
set_option linter.unusedVariables false
end Go.Proofs.YtjecflbbcnocdaaGreatDoor
namespace Go.Proofs.YtjecflbbcnocdaaGreatDoor
open Go.Lir
set_option maxHeartbeats 1000000
attribute [local irreducible] LC.wp Q3 QF QK retQ Q1E LO.wp Qq Calls
set_option linter.unusedSimpArgs false
set_option linter.unusedVariables false
variable {cx : Cx} {w : World} {L : List Res} {i : Nat}
abbrev jdg (b : Nat) (vf : Value) (g : Flt) (at' : Int) : Res := blk b 97 [vf, .int .i64 g.1, .int .i64 g.2, .int .i64 at']
theorem Q2n {is : Bool} {c : Int} {vf : Value} {g : Flt} {at' : Int} {b : Nat} (hc0 : is = true → c ≠ 0) (hS : St cx w L) (hi : nth L i = some (jdg b vf g at')) :
    Rets Tryz.prog Q33 [.pointer (some ⟨b, 0, none⟩), .bool is, .int .i64 c] w fun u w' => u = .tuple #[] ∧ St cx w' (L.set i (jdg b vf (orF g (mkF (if is = true then c else 0) at')) at')) := by
  have hS := hS.out hi
  cases is with
  | false =>
    have e : orF g (mkF (if false = true then c else 0) at') = g := Qn0 rfl
    rw [e]
    all_goals refine Q32 ?_
    all_goals (unfold code_judge_fail_lc; refine Q0 ?_; refine Q1 ?_; refine zm ?_; refine zm ?_; refine s_gn rfl rfl ?_; refine s_gn rfl rfl ?_; refine s_gn rfl rfl ?_; refine s_gn rfl rfl ?_; refine s_gn rfl rfl ?_)
    all_goals (refine s_gn rfl rfl ?_)
    all_goals ((first | (refine zpt ?_) | (refine zpf ?_)); refine zn ?_)
    all_goals
      first
      | (refine Q4 rfl ?_ -- Q33 c0
         all_goals (refine Q1 ?_; refine zm ?_; refine zm ?_; refine zm ?_; refine Qn rfl ?_; refine Q2 rfl ?_; refine zl hS ?_; refine zb2 [_, _] ?_; refine Qn rfl ?_; refine Q2 rfl ?_; refine zsn hS ?_; intro w1 hS; have hS := hS.ns)
         all_goals refine zn ?_)
      | (refine Q5 rfl ?_ -- Q33 c0
         all_goals refine zsk ?_)
    all_goals (refine Q5c ?_; exact ⟨_, rfl, rfl, St.back hS hi⟩)
  | true =>
    have hc0 := hc0 rfl
    by_cases h0 : g.1 = 0
    · have e : orF g (mkF (if true = true then c else 0) at') = (c, at') := by rw [if_pos rfl, Qat hc0]; unfold orF; rw [if_pos ⟨h0, hc0⟩]
      rw [e]
      all_goals refine Q32 ?_
      all_goals (unfold code_judge_fail_lc; refine Q0 ?_; refine Q1 ?_; refine zm ?_; refine zm ?_; (first | refine s_gn rfl rfl ?_ | (refine s_gy rfl ?_; refine zm ?_)); (first | refine s_gn rfl rfl ?_ | (refine s_gy rfl ?_; refine Qn rfl ?_)); (first | refine s_gn rfl rfl ?_ | (refine s_gy rfl ?_; refine Q2 rfl ?_)); (first | refine s_gn rfl rfl ?_ | (refine s_gy rfl ?_; (first | refine Q2 rfl ?_ | refine Q2b rfl ?_))); (first | refine s_gn rfl rfl ?_ | (refine s_gy rfl ?_; refine zl hS ?_)))
      all_goals (first | refine s_gn rfl rfl ?_ | (refine s_gy rfl ?_; refine Qw ?_))
      all_goals (refine zpt ?_; refine zn ?_)
      all_goals refine Q4 rfl ?_
      all_goals (refine Q1 ?_; refine zm ?_; refine zm ?_; refine zm ?_; refine Qn rfl ?_; refine Q2 rfl ?_; refine zl hS ?_; refine zb2 [_, _] ?_; refine Qn rfl ?_; refine Q2 rfl ?_; (first | (refine zsn hS ?_; intro w1 hS; have hS := hS.ns) | (refine zsm hS ?_; intro w1 hS; have hS := hS.ns)); refine zn ?_; refine Q5c ?_; exact ⟨_, rfl, rfl, St.back hS hi⟩)
    · rw [Q62 h0]
      all_goals refine Q32 ?_
      all_goals (unfold code_judge_fail_lc; refine Q0 ?_; refine Q1 ?_; refine zm ?_; refine zm ?_; (first | refine s_gn rfl rfl ?_ | (refine s_gy rfl ?_; refine zm ?_)); (first | refine s_gn rfl rfl ?_ | (refine s_gy rfl ?_; refine Qn rfl ?_)); (first | refine s_gn rfl rfl ?_ | (refine s_gy rfl ?_; refine Q2 rfl ?_)); (first | refine s_gn rfl rfl ?_ | (refine s_gy rfl ?_; (first | refine Q2 rfl ?_ | refine Q2b rfl ?_))); (first | refine s_gn rfl rfl ?_ | (refine s_gy rfl ?_; refine zl hS ?_)))
      all_goals (first | refine s_gn rfl rfl ?_ | (refine s_gy rfl ?_; (first | (refine Qw ?_) | (refine Qy ?_))))
      all_goals (refine zpt ?_; refine zn ?_)
      all_goals refine Q5 rfl ?_
      all_goals (refine zsk ?_; refine Q5c ?_; exact ⟨_, rfl, rfl, St.back hS hi⟩)
theorem uindex_c {s : List UInt8} {c : Nat} {v : Value} (hK : u8R.sl cx v s) (hS : St cx w L) : Rets Tryz.prog Q1D [v, .int .u8 c] w fun u w' => ∃ r : Int, u = .int .i64 r ∧ (0 ≤ r ↔ (s.any fun b => decide (b.toNat = c)) = true) ∧ St cx w' L := by
  have hlen := hK.len
  all_goals refine Q4h ?_
  all_goals (unfold slices_Index_byte_byte_lc; refine Q0 ?_; refine Q1 ?_; refine zm ?_; refine zn ?_; refine Q0 ?_; refine Q0 ?_; refine Q1 ?_; refine zm ?_; refine zL ?_; refine zm ?_; refine zn ?_; refine Qh ?_)
  refine zoL hS [0, 1, 7] (fun A LL ρ' w' => ∃ (j : Nat), Has ρ' A ∧ Has ρ' [(8, .int .i64 j)] ∧ (j ≤ s.length) ∧ ((s.any fun b => decide (b.toNat = c)) = ((s.drop j).any fun b => decide (b.toNat = c))) ∧ St cx w' (LL)) (fun ρ' _ => (s.length - iv (ρ' 8)).toNat) ?_ ?_
  · exact ⟨0, zh, zh, (by omega), by simp, hS.sp⟩
  rintro ρ w1 ⟨j, hA, hρ, hj, hd, hS⟩; obtain ⟨ρ, rfl⟩ := env2 hA hρ
  unfold Q2A
  all_goals (refine Q0 ?_; refine Q1 ?_; refine Q1x rfl rfl ?_; refine zn ?_; refine Q0 ?_)
  refine QO rfl (fun hc => ?_) (fun hc => ?_)
  · skip
    all_goals (refine zsk ?_; refine Q0 ?_; refine Qh ?_; refine Q0 ?_; refine Q1 ?_; refine zm ?_; refine zm ?_; refine zn ?_; refine Q0 ?_; refine Q1 ?_; refine zm ?_; refine zm ?_; refine zm ?_; refine zi ?_; intro b1 o1 cs1 x1 hat1 hx1 he1; (first | (obtain rfl := Qd3 he1) | (obtain rfl := u8R_out he1)); (first | (refine zl hS ?_) | (refine zlk hS ?_)))
    all_goals (first | (refine Qw ?_) | (refine Qy ?_) | (refine Qj rfl rfl (fun hc => ?_) (fun hc => ?_)))
    all_goals (refine zn ?_)
    all_goals
      first
      | (refine Q4 rfl ?_ -- Q1D c1
         all_goals (refine Q0 ?_; refine Q1 ?_; refine zm ?_; refine zm ?_; refine zn ?_; refine zr ?_; refine zf ?_)
         all_goals (exact ⟨_, rfl, j, rfl, by rw [hd, Q6 hx1, List.any_cons, decide_eq_true (by omega), Bool.true_or]; simp, hS.sp⟩))
      | (refine Q5 rfl ?_ -- Q1D c1
         all_goals refine zsk ?_)
    all_goals (refine Q1 ?_; refine zad ?_; refine zm ?_; refine zn ?_; exact ⟨⟨j + 1, zh, zh, (by omega), by rw [hd, Q6 hx1, List.any_cons, decide_eq_false (by omega), Bool.false_or], hS.sp⟩, Q16 (by omega)⟩)
  · skip
    all_goals (refine zex ?_; refine Q0 ?_; refine Q1 ?_; refine zm ?_; refine zn ?_; refine zr ?_; refine zf ?_; (first | (exact ⟨_, rfl, j, rfl, by rw [hd, Q6 hx1, List.any_cons, decide_eq_true (by omega), Bool.true_or]; simp, hS.sp⟩) | (exact ⟨_, rfl, -1, rfl, by rw [hd, List.drop_of_length_le (by omega)]; simp, hS.sp⟩)))
theorem Ql8 {s : List UInt8} {c : Nat} {v : Value} (hK : u8R.sl cx v s) (hS : St cx w L) : Rets Tryz.prog Q2B [v, .int .u8 c] w fun u w' => u = .bool (s.any fun b => decide (b.toNat = c)) ∧ St cx w' L := by
  all_goals refine Q3x ?_
  all_goals (unfold slices_Contains_byte_byte_lc; refine Q0 ?_; refine Q1 ?_; refine zm ?_; refine zn ?_; refine Q0 ?_; refine Q1 ?_; refine zm ?_; refine zm ?_; refine zR2 (c := uindex_c hK hS) (h := ?_); rintro v1 w1 ⟨r, rfl, hr, hS⟩)
  all_goals (first | (refine Qb5 ?_) | (refine Qb6 ?_) | (refine Q3d rfl rfl (fun hc => ?_) (fun hc => ?_)))
  all_goals (refine zm ?_; refine zn ?_; refine zr ?_; refine zf ?_)
  all_goals (refine ⟨_, rfl, ?_, hS.sp⟩; (cases hb : (s.any fun b => decide (b.toNat = c)) <;> simp_all); done)
theorem Qd7 {s : ByteArray} {c : Nat} (hs : s.size ≤ 1000000) (hS : St cx w L) : Rets Tryz.prog Qkt [.string s, .int .u8 c] w fun u w' => u = .bool (Q1q s c) ∧ St cx w' L := by
  have hle := St.refl hS
  all_goals refine Qks ?_
  all_goals (unfold code_with_lc; refine Q0 ?_; refine Q1 ?_; refine zm ?_; refine zn ?_; refine Q0 ?_; refine Q1 ?_; refine zm ?_; refine s_bytes (e := 5) (by kernel_rfl) (by kernel_rfl) (by kernel_rfl) hS vw ?_; intro v1 w1 hS; obtain ⟨c1, hle2, hS, hk1⟩ := St.freezeL (r := u8R) hS (u8R_ls _) rfl (by rw [Array.length_toList]; show s.size ≤ 140737488355328; omega); refine zm ?_; refine zR2 (c := Ql8 hk1 hS) (h := ?_); rintro v1 w1 ⟨rfl, hS⟩; refine zm ?_; refine zn ?_; refine zr ?_; refine zf ?_; exact ⟨_, rfl, rfl, St.weak hS.sp hle2⟩)
theorem has_c {op : Int} (hS : St cx w L) : Rets Tryz.prog QmF [.int .i64 op] w fun u w' => u = .string (hasF op) ∧ St cx w' L := by
  by_cases hb : op < 1 ∨ 14 < op
  · have e : hasF op = ⟨#[]⟩ := by unfold hasF; rw [if_pos hb]
    rw [e]
    all_goals refine Qe0 ?_
    all_goals (unfold code_has_lc; refine Q0 ?_; refine Q1 ?_; refine zm ?_; refine zn ?_; refine Q0 ?_; refine Q0 ?_; refine Q1 ?_; refine zm ?_)
    all_goals (first | (refine Q26 ?_) | (refine Q27 ?_) | (refine QR rfl rfl (fun hc => ?_) (fun hc => ?_)))
    all_goals (refine zm ?_; (first | refine s_gn rfl rfl ?_ | (refine s_gy rfl ?_; refine zm ?_)))
    all_goals (first | refine s_gn rfl rfl ?_ | (refine s_gy rfl ?_; refine QQ ?_))
    all_goals ((first | (refine zpt ?_) | (refine zpf ?_)); refine zn ?_)
    all_goals refine Q4 rfl ?_
    all_goals (refine Q0 ?_; refine Q1 ?_; refine zm ?_; refine zn ?_; refine zr ?_; refine zf ?_; refine ⟨_, rfl, ?_, hS.sp⟩; (rfl); done)
  · have hu : (hasTab.map Value.string)[op.toNat]? = some (.string (hasF op)) := by
      rcases op_cases (op := op) (by omega) (by omega) with rfl | rfl | rfl | rfl | rfl | rfl | rfl | rfl | rfl | rfl | rfl | rfl | rfl | rfl <;> rfl
    generalize hasF op = s at hu ⊢
    all_goals refine Qe0 ?_
    all_goals (unfold code_has_lc; refine Q0 ?_; refine Q1 ?_; refine zm ?_; refine zn ?_; refine Q0 ?_; refine Q0 ?_; refine Q1 ?_; refine zm ?_)
    all_goals (first | (refine Q26 ?_) | (refine Q27 ?_))
    all_goals (refine zm ?_; (first | refine s_gn rfl rfl ?_ | (refine s_gy rfl ?_; refine zm ?_)))
    all_goals (first | refine s_gn rfl rfl ?_ | (refine s_gy rfl ?_; (first | (refine QQ ?_) | (refine Q11 ?_))))
    all_goals ((first | (refine zpt ?_) | (refine zpf ?_)); refine zn ?_)
    all_goals refine Q5 rfl ?_
    all_goals (refine zsk ?_; refine Q0 ?_; refine Q1 ?_; refine QdC (cs := [_, _, _, _, _, _, _, _, _, _, _, _, _, _, _]) vw vw vw vw vw vw vw vw vw vw vw vw vw vw vw (by rfl) ?_; refine zm ?_; refine Qk6 (n := 15) (e := 9) (by kernel_rfl) (by kernel_rfl) (by kernel_rfl) vw vw (by omega) (by omega) hu ?_; refine zm ?_; refine zn ?_; refine zr ?_; refine zf ?_; refine ⟨_, rfl, ?_, hS.sp⟩; (rfl); done)
theorem Qoz (op : Int) : (hasF op).size ≤ 1000000 := by
  by_cases hb : op < 1 ∨ 14 < op
  · unfold hasF; rw [if_pos hb]; decide
  · rcases op_cases (op := op) (by omega) (by omega) with rfl | rfl | rfl | rfl | rfl | rfl | rfl | rfl | rfl | rfl | rfl | rfl | rfl | rfl <;> decide
theorem ins_end {g : Flt} {at' : Int} {n : Nat} {x : Ins} {q : Bool} {c3 : Int} (hq : q = true ↔ (((((((Q1q (hasF x.op) 97 = false ∧ x.a ≠ 0) ∨ (Q1q (hasF x.op) 98 = false ∧ x.b ≠ 0)) ∨ (Q1q (hasF x.op) 99 = false ∧ x.c ≠ 0)) ∨ (Q1q (hasF x.op) 107 = false ∧ x.k ≠ 0)) ∨ (Q1q (hasF x.op) 110 = false ∧ x.n ≠ 0)) ∨ (Q1q (hasF x.op) 103 = false ∧ 0 < x.regs.length)) ∨ (Q1q (hasF x.op) 114 = false ∧ 0 < x.args.length))) (h3 : c3 = Q2h n x) :
    orF (orF (orF g (mkF (if x.op < 1 ∨ 14 < x.op then 3 else 0) at')) (mkF (if q = true then 4 else 0) at')) (mkF c3 at') = orF g (mkF (Q31 n x) at') := by
  rw [Q2W, Q2W]
  congr 2
  subst h3
  unfold Q31
  by_cases hb : x.op < 1 ∨ 14 < x.op
  · rw [if_pos hb, if_pos hb]; rfl
  · rw [if_neg hb, if_neg hb]
    obtain ⟨h1, h2, h3, h4, h5, h6, h7⟩ := with_all x.op hb
    rw [h1, h2, h3, h4, h5, h6, h7] at hq
    simp only [or_assoc] at hq
    by_cases ho : x.odd
    · rw [if_pos ho, if_pos (hq.2 ho)]; rfl
    · rw [if_neg ho, if_neg fun h => ho (hq.1 h)]; rfl
theorem Q70 {a b : Int} (h : a ≠ 0) : orC a b = a := if_pos h
theorem Q63 (b : Int) : orC 0 b = b := rfl
section
attribute [local irreducible] orF mkF orC Q2h Q31 Q2z Q3q
set_option maxHeartbeats 1000000 in
theorem ins_c {x : Ins} {n : List Fun} {vf : Value} {g : Flt} {at' : Int} {b : Nat} {cs : List Value} (hx : insR.at cx cs x) (hf : funcR.sl cx vf n) (hS : St cx w L) (hi : nth L i = some (jdg b vf g at')) :
    Rets Tryz.prog QM [.pointer (some ⟨b, 0, none⟩), .agg ⟨cs⟩] w fun u w' => u = .tuple #[] ∧ St cx w' (L.set i (jdg b vf (orF g (mkF (Q31 n.length x) at')) at')) := by
  have hS := hS.out hi
  obtain ⟨vr, va, rfl, hr, ha⟩ := Q3i hx
  have hlr := hr.len
  have hla := ha.len
  have hln := hf.len
  have hsz := Qoz x.op
  all_goals refine QbM ?_
  all_goals (unfold code_judge_ins_lc; refine Q0 ?_; refine Q1 ?_; refine zb hS ?_; intro p3 w1 hS; refine zn ?_)
  refine zM [0, 3] (fun A ρ' w' => Has ρ' A ∧ Has ρ' [] ∧ St cx w' (blk p3 54 [.int .i64 x.op, .int .i64 x.a, .int .i64 x.b, .int .i64 x.c, .int .i64 x.k, .int .i64 x.n, vr, va] :: jdg b vf (orF g (mkF (if x.op < 1 ∨ 14 < x.op then 3 else 0) at')) at' :: L.eraseIdx i)) ?_ ?_
  · skip
    all_goals (refine Q1 ?_; refine zm ?_; refine Q2 rfl ?_; refine zl hS ?_)
    all_goals (first | (refine Q26 ?_) | (refine Q27 ?_) | (refine QR rfl rfl (fun hc => ?_) (fun hc => ?_)))
    all_goals (refine zm ?_; (first | refine s_gn rfl rfl ?_ | (refine s_gy rfl ?_; refine Q2 rfl ?_)); (first | refine s_gn rfl rfl ?_ | (refine s_gy rfl ?_; refine zl hS ?_)))
    all_goals (first | refine s_gn rfl rfl ?_ | (refine s_gy rfl ?_; (first | (refine QQ ?_) | (refine Q11 ?_) | (refine Qr rfl rfl (fun hc => ?_) (fun hc => ?_)))))
    all_goals ((first | (refine zpt ?_) | (refine zpf ?_)); refine zR3 (c := Q2n (by intro _; decide) hS fd) (h := ?_); rintro v1 w1 ⟨rfl, hS⟩; simp only [List.set_cons_zero, List.set_cons_succ, if_true, Bool.false_eq_true, if_false] at hS; refine zn ?_; exact ⟨zh, zh, by first | (rw [if_pos (by omega)]; exact hS.sp) | (rw [if_neg (by omega)]; exact hS.sp)⟩)
  rintro ρ w1 ⟨hA, hρ, hS⟩; obtain ⟨ρ, rfl⟩ := env2 hA hρ
  all_goals (refine Q0 ?_; refine Q1 ?_; refine Q2 rfl ?_; refine zl hS ?_; refine zR1 (c := has_c hS) (h := ?_); rintro v1 w1 ⟨rfl, hS⟩; refine zm ?_; refine zn ?_; generalize hh : hasF x.op = h at *; refine Q0 ?_; refine Q1 ?_)
  refine zKL hS 9 [0, 3, 4] (fun A LL ρ' w' => ∃ (q1 : Bool), Has ρ' A ∧ Has ρ' [(18, .pointer (some ⟨b, 0, none⟩)), (26, .bool q1)] ∧ (q1 = true ↔ (Q1q h 97 = false ∧ x.a ≠ 0)) ∧ St cx w' (LL)) ?_ ?_
  · skip
    all_goals (refine zm ?_; refine zm ?_; refine zR2 (c := Qd7 hsz hS) (h := ?_); rintro v1 w1 ⟨rfl, hS⟩)
    all_goals (cases ha1 : Q1q h 97)
    all_goals (refine Q1w rfl ?_; refine zm ?_; (first | refine s_gn rfl rfl ?_ | (refine s_gy rfl ?_; refine Q2 rfl ?_)); (first | refine s_gn rfl rfl ?_ | (refine s_gy rfl ?_; refine zl hS ?_)))
    all_goals (first | refine s_gn rfl rfl ?_ | (refine s_gy rfl ?_; (first | (refine Q12 ?_) | (refine Q18 ?_) | (refine Qx rfl rfl (fun hc => ?_) (fun hc => ?_)))))
    all_goals ((first | (refine zpt ?_) | (refine zpf ?_)); refine Q4V ?_; refine Q2f ?_)
    all_goals (first | (exact ⟨_, zh, zh, by exact ⟨fun _ => ⟨(by first | rfl | assumption), by omega⟩, fun _ => rfl⟩, hS.sp⟩) | (exact ⟨_, zh, zh, by exact ⟨fun h => Bool.noConfusion h, fun h => by obtain ⟨h1, h2⟩ := h; first | (exfalso; omega) | (simp_all; done)⟩, hS.sp⟩))
  rintro ρ w1 ⟨q1, hA, hρ, hq1, hS⟩; obtain ⟨ρ, rfl⟩ := env2 hA hρ
  refine zKL hS 10 [0, 3, 4, 18] (fun A LL ρ' w' => ∃ (q2 : Bool), Has ρ' A ∧ Has ρ' [(36, .bool q2)] ∧ (q2 = true ↔ ((Q1q h 97 = false ∧ x.a ≠ 0) ∨ (Q1q h 98 = false ∧ x.b ≠ 0))) ∧ St cx w' (LL)) ?_ ?_
  · skip
    all_goals (cases q1)
    all_goals (refine zm ?_; (first | refine s_gn rfl rfl ?_ | (refine s_gy rfl ?_; refine zm ?_)); (first | refine s_gn rfl rfl ?_ | (refine s_gy rfl ?_; refine zR2 (c := Qd7 hsz hS) (h := ?_); rintro v1 w1 ⟨rfl, hS⟩)))
    all_goals (cases ha2 : Q1q h 98)
    all_goals ((first | refine s_gn rfl rfl ?_ | (refine s_gy rfl ?_; refine Q1w rfl ?_)); (first | refine s_gn rfl rfl ?_ | (refine s_gy rfl ?_; refine zm ?_)); (first | refine s_gn rfl rfl ?_ | (refine s_gy rfl ?_; refine Q2 rfl ?_)); (first | refine s_gn rfl rfl ?_ | (refine s_gy rfl ?_; refine zl hS ?_)))
    all_goals (first | refine s_gn rfl rfl ?_ | (refine s_gy rfl ?_; (first | (refine Q12 ?_) | (refine Q18 ?_) | (refine Qx rfl rfl (fun hc => ?_) (fun hc => ?_)))))
    all_goals ((first | refine s_gn rfl rfl ?_ | (refine s_gy rfl ?_; (first | (refine zpt ?_) | (refine zpf ?_)))); (first | (refine zpt ?_) | (refine zpf ?_)); refine Q4V ?_; refine Q2f ?_)
    all_goals (first | (exact ⟨_, zh, zh, by exact ⟨fun _ => .inl (hq1.1 rfl), fun _ => rfl⟩, hS.sp⟩) | (exact ⟨_, zh, zh, by exact ⟨fun _ => .inr ⟨(by first | rfl | assumption), by omega⟩, fun _ => rfl⟩, hS.sp⟩) | (exact ⟨_, zh, zh, by exact ⟨fun h => Bool.noConfusion h, fun h => h.elim (fun h => hq1.2 h) (fun h => by obtain ⟨h1, h2⟩ := h; first | (exfalso; omega) | (simp_all; done))⟩, hS.sp⟩))
  rintro ρ w1 ⟨q2, hA, hρ, hq2, hS⟩; obtain ⟨ρ, rfl⟩ := env2 hA hρ
  refine zKL hS 10 [0, 3, 4, 18] (fun A LL ρ' w' => ∃ (q3 : Bool), Has ρ' A ∧ Has ρ' [(46, .bool q3)] ∧ (q3 = true ↔ (((Q1q h 97 = false ∧ x.a ≠ 0) ∨ (Q1q h 98 = false ∧ x.b ≠ 0)) ∨ (Q1q h 99 = false ∧ x.c ≠ 0))) ∧ St cx w' (LL)) ?_ ?_
  · skip
    all_goals (cases q2)
    all_goals (refine zm ?_; (first | refine s_gn rfl rfl ?_ | (refine s_gy rfl ?_; refine zm ?_)); (first | refine s_gn rfl rfl ?_ | (refine s_gy rfl ?_; refine zR2 (c := Qd7 hsz hS) (h := ?_); rintro v1 w1 ⟨rfl, hS⟩)))
    all_goals (cases ha3 : Q1q h 99)
    all_goals ((first | refine s_gn rfl rfl ?_ | (refine s_gy rfl ?_; refine Q1w rfl ?_)); (first | refine s_gn rfl rfl ?_ | (refine s_gy rfl ?_; refine zm ?_)); (first | refine s_gn rfl rfl ?_ | (refine s_gy rfl ?_; refine Q2 rfl ?_)); (first | refine s_gn rfl rfl ?_ | (refine s_gy rfl ?_; refine zl hS ?_)))
    all_goals (first | refine s_gn rfl rfl ?_ | (refine s_gy rfl ?_; (first | (refine Q12 ?_) | (refine Q18 ?_) | (refine Qx rfl rfl (fun hc => ?_) (fun hc => ?_)))))
    all_goals ((first | refine s_gn rfl rfl ?_ | (refine s_gy rfl ?_; (first | (refine zpt ?_) | (refine zpf ?_)))); (first | (refine zpt ?_) | (refine zpf ?_)); refine Q4V ?_; refine Q2f ?_)
    all_goals (first | (exact ⟨_, zh, zh, by exact ⟨fun _ => .inl (hq2.1 rfl), fun _ => rfl⟩, hS.sp⟩) | (exact ⟨_, zh, zh, by exact ⟨fun _ => .inr ⟨(by first | rfl | assumption), by omega⟩, fun _ => rfl⟩, hS.sp⟩) | (exact ⟨_, zh, zh, by exact ⟨fun h => Bool.noConfusion h, fun h => h.elim (fun h => hq2.2 h) (fun h => by obtain ⟨h1, h2⟩ := h; first | (exfalso; omega) | (simp_all; done))⟩, hS.sp⟩))
  rintro ρ w1 ⟨q3, hA, hρ, hq3, hS⟩; obtain ⟨ρ, rfl⟩ := env2 hA hρ
  refine zKL hS 10 [0, 3, 4, 18] (fun A LL ρ' w' => ∃ (q4 : Bool), Has ρ' A ∧ Has ρ' [(56, .bool q4)] ∧ (q4 = true ↔ ((((Q1q h 97 = false ∧ x.a ≠ 0) ∨ (Q1q h 98 = false ∧ x.b ≠ 0)) ∨ (Q1q h 99 = false ∧ x.c ≠ 0)) ∨ (Q1q h 107 = false ∧ x.k ≠ 0))) ∧ St cx w' (LL)) ?_ ?_
  · skip
    all_goals (cases q3)
    all_goals (refine zm ?_; (first | refine s_gn rfl rfl ?_ | (refine s_gy rfl ?_; refine zm ?_)); (first | refine s_gn rfl rfl ?_ | (refine s_gy rfl ?_; refine zR2 (c := Qd7 hsz hS) (h := ?_); rintro v1 w1 ⟨rfl, hS⟩)))
    all_goals (cases ha4 : Q1q h 107)
    all_goals ((first | refine s_gn rfl rfl ?_ | (refine s_gy rfl ?_; refine Q1w rfl ?_)); (first | refine s_gn rfl rfl ?_ | (refine s_gy rfl ?_; refine zm ?_)); (first | refine s_gn rfl rfl ?_ | (refine s_gy rfl ?_; refine Q2 rfl ?_)); (first | refine s_gn rfl rfl ?_ | (refine s_gy rfl ?_; refine zl hS ?_)))
    all_goals (first | refine s_gn rfl rfl ?_ | (refine s_gy rfl ?_; (first | (refine Q12 ?_) | (refine Q18 ?_) | (refine Qx rfl rfl (fun hc => ?_) (fun hc => ?_)))))
    all_goals ((first | refine s_gn rfl rfl ?_ | (refine s_gy rfl ?_; (first | (refine zpt ?_) | (refine zpf ?_)))); (first | (refine zpt ?_) | (refine zpf ?_)); refine Q4V ?_; refine Q2f ?_)
    all_goals (first | (exact ⟨_, zh, zh, by exact ⟨fun _ => .inl (hq3.1 rfl), fun _ => rfl⟩, hS.sp⟩) | (exact ⟨_, zh, zh, by exact ⟨fun _ => .inr ⟨(by first | rfl | assumption), by omega⟩, fun _ => rfl⟩, hS.sp⟩) | (exact ⟨_, zh, zh, by exact ⟨fun h => Bool.noConfusion h, fun h => h.elim (fun h => hq3.2 h) (fun h => by obtain ⟨h1, h2⟩ := h; first | (exfalso; omega) | (simp_all; done))⟩, hS.sp⟩))
  rintro ρ w1 ⟨q4, hA, hρ, hq4, hS⟩; obtain ⟨ρ, rfl⟩ := env2 hA hρ
  refine zKL hS 10 [0, 3, 4, 18] (fun A LL ρ' w' => ∃ (q5 : Bool), Has ρ' A ∧ Has ρ' [(66, .bool q5)] ∧ (q5 = true ↔ (((((Q1q h 97 = false ∧ x.a ≠ 0) ∨ (Q1q h 98 = false ∧ x.b ≠ 0)) ∨ (Q1q h 99 = false ∧ x.c ≠ 0)) ∨ (Q1q h 107 = false ∧ x.k ≠ 0)) ∨ (Q1q h 110 = false ∧ x.n ≠ 0))) ∧ St cx w' (LL)) ?_ ?_
  · skip
    all_goals (cases q4)
    all_goals (refine zm ?_; (first | refine s_gn rfl rfl ?_ | (refine s_gy rfl ?_; refine zm ?_)); (first | refine s_gn rfl rfl ?_ | (refine s_gy rfl ?_; refine zR2 (c := Qd7 hsz hS) (h := ?_); rintro v1 w1 ⟨rfl, hS⟩)))
    all_goals (cases ha5 : Q1q h 110)
    all_goals ((first | refine s_gn rfl rfl ?_ | (refine s_gy rfl ?_; refine Q1w rfl ?_)); (first | refine s_gn rfl rfl ?_ | (refine s_gy rfl ?_; refine zm ?_)); (first | refine s_gn rfl rfl ?_ | (refine s_gy rfl ?_; refine Q2 rfl ?_)); (first | refine s_gn rfl rfl ?_ | (refine s_gy rfl ?_; refine zl hS ?_)))
    all_goals (first | refine s_gn rfl rfl ?_ | (refine s_gy rfl ?_; (first | (refine Q12 ?_) | (refine Q18 ?_) | (refine Qx rfl rfl (fun hc => ?_) (fun hc => ?_)))))
    all_goals ((first | refine s_gn rfl rfl ?_ | (refine s_gy rfl ?_; (first | (refine zpt ?_) | (refine zpf ?_)))); (first | (refine zpt ?_) | (refine zpf ?_)); refine Q4V ?_; refine Q2f ?_)
    all_goals (first | (exact ⟨_, zh, zh, by exact ⟨fun _ => .inl (hq4.1 rfl), fun _ => rfl⟩, hS.sp⟩) | (exact ⟨_, zh, zh, by exact ⟨fun _ => .inr ⟨(by first | rfl | assumption), by omega⟩, fun _ => rfl⟩, hS.sp⟩) | (exact ⟨_, zh, zh, by exact ⟨fun h => Bool.noConfusion h, fun h => h.elim (fun h => hq4.2 h) (fun h => by obtain ⟨h1, h2⟩ := h; first | (exfalso; omega) | (simp_all; done))⟩, hS.sp⟩))
  rintro ρ w1 ⟨q5, hA, hρ, hq5, hS⟩; obtain ⟨ρ, rfl⟩ := env2 hA hρ
  refine zKL hS 11 [0, 3, 4, 18] (fun A LL ρ' w' => ∃ (q6 : Bool), Has ρ' A ∧ Has ρ' [(77, .bool q6)] ∧ (q6 = true ↔ ((((((Q1q h 97 = false ∧ x.a ≠ 0) ∨ (Q1q h 98 = false ∧ x.b ≠ 0)) ∨ (Q1q h 99 = false ∧ x.c ≠ 0)) ∨ (Q1q h 107 = false ∧ x.k ≠ 0)) ∨ (Q1q h 110 = false ∧ x.n ≠ 0)) ∨ (Q1q h 103 = false ∧ 0 < x.regs.length))) ∧ St cx w' (LL)) ?_ ?_
  · skip
    all_goals (cases q5)
    all_goals (refine zm ?_; (first | refine s_gn rfl rfl ?_ | (refine s_gy rfl ?_; refine zm ?_)); (first | refine s_gn rfl rfl ?_ | (refine s_gy rfl ?_; refine zR2 (c := Qd7 hsz hS) (h := ?_); rintro v1 w1 ⟨rfl, hS⟩)))
    all_goals (cases ha6 : Q1q h 103)
    all_goals ((first | refine s_gn rfl rfl ?_ | (refine s_gy rfl ?_; refine Q1w rfl ?_)); (first | refine s_gn rfl rfl ?_ | (refine s_gy rfl ?_; refine zm ?_)); (first | refine s_gn rfl rfl ?_ | (refine s_gy rfl ?_; refine Q2 rfl ?_)); (first | refine s_gn rfl rfl ?_ | (refine s_gy rfl ?_; refine zl hS ?_)); (first | refine s_gn rfl rfl ?_ | (refine s_gy rfl ?_; refine zL ?_)))
    all_goals (first | refine s_gn rfl rfl ?_ | (refine s_gy rfl ?_; (first | (refine QQ ?_) | (refine Q11 ?_) | (refine Qr rfl rfl (fun hc => ?_) (fun hc => ?_)))))
    all_goals ((first | refine s_gn rfl rfl ?_ | (refine s_gy rfl ?_; (first | (refine zpt ?_) | (refine zpf ?_)))); (first | (refine zpt ?_) | (refine zpf ?_)); refine Q4V ?_; refine Q2f ?_)
    all_goals (first | (exact ⟨_, zh, zh, by exact ⟨fun _ => .inl (hq5.1 rfl), fun _ => rfl⟩, hS.sp⟩) | (exact ⟨_, zh, zh, by exact ⟨fun _ => .inr ⟨(by first | rfl | assumption), by omega⟩, fun _ => rfl⟩, hS.sp⟩) | (exact ⟨_, zh, zh, by exact ⟨fun h => Bool.noConfusion h, fun h => h.elim (fun h => hq5.2 h) (fun h => by obtain ⟨h1, h2⟩ := h; first | (exfalso; omega) | (simp_all; done))⟩, hS.sp⟩))
  rintro ρ w1 ⟨q6, hA, hρ, hq6, hS⟩; obtain ⟨ρ, rfl⟩ := env2 hA hρ
  refine zKL hS 11 [0, 3, 18] (fun A LL ρ' w' => ∃ (q7 : Bool), Has ρ' A ∧ Has ρ' [(88, .bool q7)] ∧ (q7 = true ↔ (((((((Q1q h 97 = false ∧ x.a ≠ 0) ∨ (Q1q h 98 = false ∧ x.b ≠ 0)) ∨ (Q1q h 99 = false ∧ x.c ≠ 0)) ∨ (Q1q h 107 = false ∧ x.k ≠ 0)) ∨ (Q1q h 110 = false ∧ x.n ≠ 0)) ∨ (Q1q h 103 = false ∧ 0 < x.regs.length)) ∨ (Q1q h 114 = false ∧ 0 < x.args.length))) ∧ St cx w' (LL)) ?_ ?_
  · skip
    all_goals (cases q6)
    all_goals (refine zm ?_; (first | refine s_gn rfl rfl ?_ | (refine s_gy rfl ?_; refine zm ?_)); (first | refine s_gn rfl rfl ?_ | (refine s_gy rfl ?_; refine zR2 (c := Qd7 hsz hS) (h := ?_); rintro v1 w1 ⟨rfl, hS⟩)))
    all_goals (cases ha7 : Q1q h 114)
    all_goals ((first | refine s_gn rfl rfl ?_ | (refine s_gy rfl ?_; refine Q1w rfl ?_)); (first | refine s_gn rfl rfl ?_ | (refine s_gy rfl ?_; refine zm ?_)); (first | refine s_gn rfl rfl ?_ | (refine s_gy rfl ?_; refine Q2 rfl ?_)); (first | refine s_gn rfl rfl ?_ | (refine s_gy rfl ?_; refine zl hS ?_)); (first | refine s_gn rfl rfl ?_ | (refine s_gy rfl ?_; refine zL ?_)))
    all_goals (first | refine s_gn rfl rfl ?_ | (refine s_gy rfl ?_; (first | (refine QQ ?_) | (refine Q11 ?_) | (refine Qr rfl rfl (fun hc => ?_) (fun hc => ?_)))))
    all_goals ((first | refine s_gn rfl rfl ?_ | (refine s_gy rfl ?_; (first | (refine zpt ?_) | (refine zpf ?_)))); (first | (refine zpt ?_) | (refine zpf ?_)); refine Q4V ?_; refine Q2f ?_)
    all_goals (first | (exact ⟨_, zh, zh, by exact ⟨fun _ => .inl (hq6.1 rfl), fun _ => rfl⟩, hS.sp⟩) | (exact ⟨_, zh, zh, by exact ⟨fun _ => .inr ⟨(by first | rfl | assumption), by omega⟩, fun _ => rfl⟩, hS.sp⟩) | (exact ⟨_, zh, zh, by exact ⟨fun h => Bool.noConfusion h, fun h => h.elim (fun h => hq6.2 h) (fun h => by obtain ⟨h1, h2⟩ := h; first | (exfalso; omega) | (simp_all; done))⟩, hS.sp⟩))
  rintro ρ w1 ⟨q7, hA, hρ, hq7, hS⟩; obtain ⟨ρ, rfl⟩ := env2 hA hρ
  all_goals (refine zR3 (c := Q2n (by intro _; decide) hS fd) (h := ?_); rintro v1 w1 ⟨rfl, hS⟩; simp only [List.set_cons_zero, List.set_cons_succ, if_true, Bool.false_eq_true, if_false] at hS; refine zn ?_; refine Q0 ?_; clear hq1 hq2 hq3 hq4 hq5 hq6; have hq := hq7; clear hq7; refine Q1 ?_; refine Q2 rfl ?_; refine zl hS ?_; refine zn ?_; refine Qh ?_; refine Q0 ?_; refine Q1 ?_)
  all_goals (first | (refine Qw ?_) | (refine Qy ?_) | (refine Qj rfl rfl (fun hc => ?_) (fun hc => ?_)))
  all_goals (refine zm ?_; refine zn ?_)
  all_goals
    first
    | (refine Q4 rfl ?_ -- QM c0
       all_goals (refine Q1 ?_; refine zm ?_; refine Q2 rfl ?_; refine zl hS ?_)
       all_goals (first | (refine Q26 ?_) | (refine Q27 ?_) | (refine QR rfl rfl (fun hc => ?_) (fun hc => ?_)))
       all_goals (refine zm ?_; (first | refine s_gn rfl rfl ?_ | (refine s_gy rfl ?_; refine Q2 rfl ?_)); (first | refine s_gn rfl rfl ?_ | (refine s_gy rfl ?_; refine zl hS ?_)))
       all_goals (first | refine s_gn rfl rfl ?_ | (refine s_gy rfl ?_; (first | (refine QQ ?_) | (refine Q11 ?_) | (refine Qr rfl rfl (fun hc => ?_) (fun hc => ?_)))))
       all_goals ((first | (refine zpt ?_) | (refine zpf ?_)); refine zR3 (c := Q2n (by intro _; decide) hS fd) (h := ?_); rintro v1 w1 ⟨rfl, hS⟩; simp only [List.set_cons_zero, List.set_cons_succ, if_true, Bool.false_eq_true, if_false] at hS)
       all_goals refine zn ?_)
    | (refine Q5 rfl ?_ -- QM c0
       all_goals (refine Q0 ?_; refine Q1 ?_)
       all_goals (first | (refine Qw ?_) | (refine Qy ?_) | (refine Qj rfl rfl (fun hc => ?_) (fun hc => ?_)))
       all_goals (refine zm ?_; refine zn ?_)
       all_goals
         first
         | (refine Q4 rfl ?_ -- QM c1
            all_goals (refine Q1 ?_; refine zm ?_; refine Q2 rfl ?_; refine zl hS ?_; refine zL ?_)
            all_goals (first | (refine QQ ?_) | (refine Q11 ?_) | (refine Qr rfl rfl (fun hc => ?_) (fun hc => ?_)))
            all_goals (refine zR3 (c := Q2n (by intro _; decide) hS fd) (h := ?_); rintro v1 w1 ⟨rfl, hS⟩; simp only [List.set_cons_zero, List.set_cons_succ, if_true, Bool.false_eq_true, if_false] at hS)
            all_goals refine zn ?_)
         | (refine Q5 rfl ?_ -- QM c1
            all_goals (refine Q0 ?_; refine Q0 ?_; refine Q1 ?_)
            all_goals (first | (refine Qw ?_) | (refine Qy ?_) | (refine Qj rfl rfl (fun hc => ?_) (fun hc => ?_)))
            all_goals (refine zm ?_; refine zn ?_)
            all_goals
              first
              | (refine Q4 rfl ?_ -- QM c2
                 all_goals refine zsk ?_)
              | (refine Q5 rfl ?_ -- QM c2
                 all_goals (refine Q1 ?_)
                 all_goals (first | (refine Qw ?_) | (refine Qy ?_) | (refine Qj rfl rfl (fun hc => ?_) (fun hc => ?_)))
                 all_goals (refine zm ?_)
                 all_goals refine zn ?_)
            all_goals
              first
              | (refine Q4 rfl ?_ -- QM c3
                 all_goals (refine Q1 ?_; refine zm ?_; refine Q2 rfl ?_; refine zl hS ?_)
                 all_goals (first | (refine Q26 ?_) | (refine Q27 ?_) | (refine QR rfl rfl (fun hc => ?_) (fun hc => ?_)))
                 all_goals (refine zm ?_; (first | refine s_gn rfl rfl ?_ | (refine s_gy rfl ?_; refine Q2 rfl ?_)); (first | refine s_gn rfl rfl ?_ | (refine s_gy rfl ?_; refine zl hS ?_)))
                 all_goals (first | refine s_gn rfl rfl ?_ | (refine s_gy rfl ?_; (first | (refine Qb5 ?_) | (refine Qb6 ?_) | (refine Q3d rfl rfl (fun hc => ?_) (fun hc => ?_)))))
                 all_goals ((first | (refine zpt ?_) | (refine zpf ?_)); refine zR3 (c := Q2n (by intro _; decide) hS fd) (h := ?_); rintro v1 w1 ⟨rfl, hS⟩; simp only [List.set_cons_zero, List.set_cons_succ, if_true, Bool.false_eq_true, if_false] at hS)
                 all_goals refine zn ?_)
              | (refine Q5 rfl ?_ -- QM c3
                 all_goals (refine Q0 ?_; refine Q1 ?_)
                 all_goals (first | (refine Qw ?_) | (refine Qy ?_) | (refine Qj rfl rfl (fun hc => ?_) (fun hc => ?_)))
                 all_goals (refine zm ?_; refine zn ?_)
                 all_goals
                   first
                   | (refine Q4 rfl ?_ -- QM c4
                      all_goals (refine Q0 ?_; refine zD [(0, none), (1, none), (2, none), (3, none), (4, none), (5, none), (6, none), (7, none), (8, none), (9, none), (10, none), (11, none), (12, none), (13, none), (14, none), (15, some none)] ?_; have hS := hS.drew; refine zm ?_; refine Q2 rfl ?_; refine zl hS ?_)
                      all_goals (first | (refine Q26 ?_) | (refine Q27 ?_) | (refine QR rfl rfl (fun hc => ?_) (fun hc => ?_)))
                      all_goals (refine zm ?_; (first | refine s_gn rfl rfl ?_ | (refine s_gy rfl ?_; refine Q2 rfl ?_)); (first | refine s_gn rfl rfl ?_ | (refine s_gy rfl ?_; refine zl hS ?_)); (first | refine s_gn rfl rfl ?_ | (refine s_gy rfl ?_; refine zm ?_)); (first | refine s_gn rfl rfl ?_ | (refine s_gy rfl ?_; refine Qn rfl ?_)); (first | refine s_gn rfl rfl ?_ | (refine s_gy rfl ?_; refine Q2 rfl ?_)); (first | refine s_gn rfl rfl ?_ | (refine s_gy rfl ?_; refine Q2 rfl ?_)); (first | refine s_gn rfl rfl ?_ | (refine s_gy rfl ?_; refine zl hS ?_)); (first | refine s_gn rfl rfl ?_ | (refine s_gy rfl ?_; refine zL ?_)))
                      all_goals (first | refine s_gn rfl rfl ?_ | (refine s_gy rfl ?_; (first | (refine Qb5 ?_) | (refine Qb6 ?_) | (refine Q3d rfl rfl (fun hc => ?_) (fun hc => ?_)))))
                      all_goals ((first | (refine zpt ?_) | (refine zpf ?_)); refine zR3 (c := Q2n (by intro _; decide) hS fd) (h := ?_); rintro v1 w1 ⟨rfl, hS⟩; simp only [List.set_cons_zero, List.set_cons_succ, if_true, Bool.false_eq_true, if_false] at hS; refine zn ?_; refine Q1 ?_; refine zm ?_; refine Q2 rfl ?_; refine zl hS ?_; refine zL ?_)
                      all_goals (first | (refine QQ ?_) | (refine Q11 ?_) | (refine Qr rfl rfl (fun hc => ?_) (fun hc => ?_)))
                      all_goals (refine zm ?_; (first | refine s_gn rfl rfl ?_ | (refine s_gy rfl ?_; refine Q2 rfl ?_)); (first | refine s_gn rfl rfl ?_ | (refine s_gy rfl ?_; refine zl hS ?_)); (first | refine s_gn rfl rfl ?_ | (refine s_gy rfl ?_; refine zL ?_)))
                      all_goals (first | refine s_gn rfl rfl ?_ | (refine s_gy rfl ?_; (first | (refine QQ ?_) | (refine Q11 ?_) | (refine Qr rfl rfl (fun hc => ?_) (fun hc => ?_)))))
                      all_goals ((first | (refine zpt ?_) | (refine zpf ?_)); refine zR3 (c := Q2n (by intro _; decide) hS fd) (h := ?_); rintro v1 w1 ⟨rfl, hS⟩; simp only [List.set_cons_zero, List.set_cons_succ, if_true, Bool.false_eq_true, if_false] at hS)
                      all_goals refine zn ?_)
                   | (refine Q5 rfl ?_ -- QM c4
                      all_goals refine zsk ?_))))
  all_goals (refine Q5c ?_; refine ⟨_, rfl, rfl, ?_⟩; subst hh; rw [← ins_end (c3 := Q2h n.length x) hq rfl]; clear hq hx hr ha hf hsz; have hS := hS.drop; refine St.back ?_ hi; first | (rw [show Q2h n.length x = 0 from (by unfold Q2h; (repeat (first | rw [if_pos (by omega)] | rw [if_neg (by omega)])))]; first | (rw [Q2e, Qn0 rfl]; exact hS) | exact hS | (rw [Q2W, Q63] at hS; exact hS)) | (rw [show Q2h n.length x = 1 from (by unfold Q2h; (repeat (first | rw [if_pos (by omega)] | rw [if_neg (by omega)])))]; first | exact hS | (rw [Q2W, Q70 (by decide)] at hS; exact hS)) | (rw [show Q2h n.length x = 2 from (by unfold Q2h; (repeat (first | rw [if_pos (by omega)] | rw [if_neg (by omega)])))]; first | exact hS | (rw [Q2W, Q63] at hS; exact hS)) | (trace_state; fail "end"))
theorem to_c {x : Fun} {t : To} {is : Bool} {vf : Value} {g : Flt} {at' : Int} {b : Nat} {cs ds : List Value} (hx : funcR.at cx cs x) (ht : toR.at cx ds t) (hS : St cx w L) (hi : nth L i = some (jdg b vf g at')) :
    Rets Tryz.prog Qaz [.pointer (some ⟨b, 0, none⟩), .agg ⟨cs⟩, .agg ⟨ds⟩, .bool is] w fun u w' => u = .tuple #[] ∧ St cx w' (L.set i (jdg b vf (orF g (mkF (Q2z x.blocks.length t is) at')) at')) := by
  have hS := hS.out hi
  obtain ⟨vp, vr, vb, rfl, hp, hr, hb⟩ := Q1B hx
  obtain ⟨v1, v2, rfl, h1, h2⟩ := Q9d ht
  have hlb := hb.len
  have hl1 := h1.len
  have hl2 := h2.len
  cases is with
  | false =>
    all_goals refine Q5d ?_
    all_goals (unfold code_judge_to_lc; refine Q0 ?_; refine Q1 ?_; refine zb hS ?_; intro p5 w1 hS; refine zb hS ?_; intro p6 w1 hS; refine zn ?_; refine Q0 ?_; refine Q0 ?_; refine Q1 ?_; refine zm ?_; refine Q1w rfl ?_; refine zn ?_)
    all_goals refine Q4 rfl ?_
    all_goals (refine Q0 ?_; refine Q1 ?_; refine zm ?_; refine Q2 rfl ?_; refine zl hS ?_)
    all_goals (first | (refine Q12 ?_) | (refine Q18 ?_) | (refine Qx rfl rfl (fun hc => ?_) (fun hc => ?_)))
    all_goals (refine zm ?_; (first | refine s_gn rfl rfl ?_ | (refine s_gy rfl ?_; refine Q2 rfl ?_)); (first | refine s_gn rfl rfl ?_ | (refine s_gy rfl ?_; refine zl hS ?_)); (first | refine s_gn rfl rfl ?_ | (refine s_gy rfl ?_; refine zL ?_)))
    all_goals (first | refine s_gn rfl rfl ?_ | (refine s_gy rfl ?_; (first | (refine QQ ?_) | (refine Q11 ?_) | (refine Qr rfl rfl (fun hc => ?_) (fun hc => ?_)))))
    all_goals ((first | (refine zpt ?_) | (refine zpf ?_)); refine zm ?_; (first | refine s_gn rfl rfl ?_ | (refine s_gy rfl ?_; refine Q2 rfl ?_)); (first | refine s_gn rfl rfl ?_ | (refine s_gy rfl ?_; refine zl hS ?_)); (first | refine s_gn rfl rfl ?_ | (refine s_gy rfl ?_; refine zL ?_)))
    all_goals (first | refine s_gn rfl rfl ?_ | (refine s_gy rfl ?_; (first | (refine QQ ?_) | (refine Q11 ?_) | (refine Qr rfl rfl (fun hc => ?_) (fun hc => ?_)))))
    all_goals ((first | (refine zpt ?_) | (refine zpf ?_)); refine zR3 (c := Q2n (by intro _; decide) hS fd) (h := ?_); rintro v1 w1 ⟨rfl, hS⟩; simp only [List.set_cons_zero, List.set_cons_succ, if_true, Bool.false_eq_true, if_false] at hS; refine zn ?_; refine zr ?_; refine q_ret0 ?_; refine ⟨_, rfl, rfl, ?_⟩; have hS := hS.drop.drop; refine St.back ?_ hi; first | (rw [show Q2z x.blocks.length t false = 4 from (by unfold Q2z; rw [if_pos rfl, if_pos (by omega)])]; exact hS) | (rw [show Q2z x.blocks.length t false = 0 from (by unfold Q2z; rw [if_pos rfl, if_neg (by omega)])]; exact hS))
  | true =>
    all_goals refine Q5d ?_
    all_goals (unfold code_judge_to_lc; refine Q0 ?_; refine Q1 ?_; refine zb hS ?_; intro p5 w1 hS; refine zb hS ?_; intro p6 w1 hS; refine zn ?_; refine Q0 ?_; refine Q0 ?_; refine Q1 ?_; refine zm ?_; refine Q1w rfl ?_; refine zn ?_)
    all_goals refine Q5 rfl ?_
    all_goals (refine zsk ?_; refine Q0 ?_; refine Q1 ?_; refine zm ?_; refine Q2 rfl ?_; refine zl hS ?_)
    all_goals (first | (refine Q26 ?_) | (refine Q27 ?_) | (refine QR rfl rfl (fun hc => ?_) (fun hc => ?_)))
    all_goals (refine zm ?_; (first | refine s_gn rfl rfl ?_ | (refine s_gy rfl ?_; refine Q2 rfl ?_)); (first | refine s_gn rfl rfl ?_ | (refine s_gy rfl ?_; refine zl hS ?_)); (first | refine s_gn rfl rfl ?_ | (refine s_gy rfl ?_; refine Q2 rfl ?_)); (first | refine s_gn rfl rfl ?_ | (refine s_gy rfl ?_; refine zl hS ?_)); (first | refine s_gn rfl rfl ?_ | (refine s_gy rfl ?_; refine zL ?_)))
    all_goals (first | refine s_gn rfl rfl ?_ | (refine s_gy rfl ?_; (first | (refine Qb5 ?_) | (refine Qb6 ?_) | (refine Q3d rfl rfl (fun hc => ?_) (fun hc => ?_)))))
    all_goals ((first | (refine zpt ?_) | (refine zpf ?_)); refine zR3 (c := Q2n (by intro _; decide) hS fd) (h := ?_); rintro v1 w1 ⟨rfl, hS⟩; simp only [List.set_cons_zero, List.set_cons_succ, if_true, Bool.false_eq_true, if_false] at hS; refine zn ?_; refine Q1 ?_; refine zm ?_; refine Q2 rfl ?_; refine zl hS ?_; refine zL ?_)
    all_goals (first | (refine QQ ?_) | (refine Q11 ?_) | (refine Qr rfl rfl (fun hc => ?_) (fun hc => ?_)))
    all_goals (refine zm ?_; (first | refine s_gn rfl rfl ?_ | (refine s_gy rfl ?_; refine Q2 rfl ?_)); (first | refine s_gn rfl rfl ?_ | (refine s_gy rfl ?_; refine zl hS ?_)); (first | refine s_gn rfl rfl ?_ | (refine s_gy rfl ?_; refine zL ?_)))
    all_goals (first | refine s_gn rfl rfl ?_ | (refine s_gy rfl ?_; (first | (refine QQ ?_) | (refine Q11 ?_) | (refine Qr rfl rfl (fun hc => ?_) (fun hc => ?_)))))
    all_goals ((first | (refine zpt ?_) | (refine zpf ?_)); refine zR3 (c := Q2n (by intro _; decide) hS fd) (h := ?_); rintro v1 w1 ⟨rfl, hS⟩; simp only [List.set_cons_zero, List.set_cons_succ, if_true, Bool.false_eq_true, if_false] at hS; refine zn ?_; refine Q5c ?_; refine ⟨_, rfl, rfl, ?_⟩; have hS := hS.drop.drop; rw [Q2W] at hS; refine St.back ?_ hi; first | (rw [show Q2z x.blocks.length t true = 1 from (by unfold Q2z; rw [if_neg Bool.noConfusion, if_pos (by omega)])]; rw [Q70 (by decide)] at hS; exact hS) | (rw [show Q2z x.blocks.length t true = 2 from (by unfold Q2z; rw [if_neg Bool.noConfusion, if_neg (by omega), if_pos (by omega)])]; rw [Q63] at hS; exact hS) | (rw [show Q2z x.blocks.length t true = 0 from (by unfold Q2z; rw [if_neg Bool.noConfusion, if_neg (by omega), if_neg (by omega)])]; rw [Q63] at hS; exact hS))
theorem end_sum {g : Flt} {at' : Int} {n : Nat} {e : Tail} : orF (orF (orF (orF (orF g (mkF (if e.op < 1 ∨ 3 < e.op then 3 else 0) at')) (mkF (if e.op ≠ 2 ∧ e.a ≠ 0 ∨ e.op ≠ 3 ∧ 0 < e.args.length then 4 else 0) at')) (mkF (if 8 < e.args.length then 2 else 0) at')) (mkF (Q2z n e.yes (decide (e.op ≠ 3))) at')) (mkF (Q2z n e.no (decide (e.op = 2))) at') = orF g (mkF (Q3q n e) at') := by
  rw [Q2W, Q2W, Q2W, Q2W]
  congr 2
  unfold Q3q
  split
  · simp only [Q70 (show (3 : Int) ≠ 0 by decide)]
  · rw [Q63]
    split
    · simp only [Q70 (show (4 : Int) ≠ 0 by decide)]
    · rw [Q63]
      split
      · simp only [Q70 (show (2 : Int) ≠ 0 by decide)]
      · rw [Q63]
theorem end_c {x : Fun} {e : Tail} {vf : Value} {g : Flt} {at' : Int} {b : Nat} {cs ds : List Value} (hx : funcR.at cx cs x) (he : endR.at cx ds e) (hS : St cx w L) (hi : nth L i = some (jdg b vf g at')) :
    Rets Tryz.prog Q97 [.pointer (some ⟨b, 0, none⟩), .agg ⟨cs⟩, .agg ⟨ds⟩] w fun u w' => u = .tuple #[] ∧ St cx w' (L.set i (jdg b vf (orF g (mkF (Q3q x.blocks.length e) at')) at')) := by
  have hS := hS.out hi
  obtain ⟨vp, vr, vb, rfl, hp, hr, hb⟩ := Q1B hx
  obtain ⟨v1, v2, v3, v4, v5, rfl, h1, h2, h3, h4, h5⟩ := Qd5 he
  have hl5 := h5.len
  all_goals refine QbT ?_
  all_goals (unfold code_judge_end_lc; refine Q0 ?_; refine Q1 ?_; refine zb hS ?_; intro p4 w1 hS; refine zb hS ?_; intro p5 w1 hS; refine zn ?_)
  refine zM [0, 4, 5] (fun A ρ' w' => Has ρ' A ∧ Has ρ' [] ∧ St cx w' (blk p5 50 [.int .i64 e.op, .int .i64 e.a, .int .i64 e.yes.block, v1, v2, .int .i64 e.no.block, v3, v4, v5] :: blk p4 43 [.int .i64 x.regs, vp, vr, vb] :: jdg b vf (orF g (mkF (if e.op < 1 ∨ 3 < e.op then 3 else 0) at')) at' :: L.eraseIdx i)) ?_ ?_
  · skip
    all_goals (refine Q1 ?_; refine zm ?_; refine Q2 rfl ?_; refine zl hS ?_)
    all_goals (first | (refine Q26 ?_) | (refine Q27 ?_) | (refine QR rfl rfl (fun hc => ?_) (fun hc => ?_)))
    all_goals (refine zm ?_; (first | refine s_gn rfl rfl ?_ | (refine s_gy rfl ?_; refine Q2 rfl ?_)); (first | refine s_gn rfl rfl ?_ | (refine s_gy rfl ?_; refine zl hS ?_)))
    all_goals (first | refine s_gn rfl rfl ?_ | (refine s_gy rfl ?_; (first | (refine QQ ?_) | (refine Q11 ?_) | (refine Qr rfl rfl (fun hc => ?_) (fun hc => ?_)))))
    all_goals ((first | (refine zpt ?_) | (refine zpf ?_)); refine zR3 (c := Q2n (by intro _; decide) hS fd) (h := ?_); rintro v1 w1 ⟨rfl, hS⟩; simp only [List.set_cons_zero, List.set_cons_succ, if_true, Bool.false_eq_true, if_false] at hS; refine zn ?_; exact ⟨zh, zh, by first | (rw [if_pos (by omega)]; exact hS.sp) | (rw [if_neg (by omega)]; exact hS.sp)⟩)
  rintro ρ w1 ⟨hA, hρ, hS⟩; obtain ⟨ρ, rfl⟩ := env2 hA hρ
  refine zM [0, 4, 5] (fun A ρ' w' => Has ρ' A ∧ Has ρ' [] ∧ St cx w' (blk p5 50 [.int .i64 e.op, .int .i64 e.a, .int .i64 e.yes.block, v1, v2, .int .i64 e.no.block, v3, v4, v5] :: blk p4 43 [.int .i64 x.regs, vp, vr, vb] :: jdg b vf (orF (orF g (mkF (if e.op < 1 ∨ 3 < e.op then 3 else 0) at')) (mkF (if e.op ≠ 2 ∧ e.a ≠ 0 ∨ e.op ≠ 3 ∧ 0 < e.args.length then 4 else 0) at')) at' :: L.eraseIdx i)) ?_ ?_
  · skip
    all_goals (refine Q1 ?_; refine zm ?_; refine Q2 rfl ?_; refine zl hS ?_)
    all_goals (first | (refine Q12 ?_) | (refine Q18 ?_) | (refine Qx rfl rfl (fun hc => ?_) (fun hc => ?_)))
    all_goals (refine zm ?_; (first | refine s_gn rfl rfl ?_ | (refine s_gy rfl ?_; refine Q2 rfl ?_)); (first | refine s_gn rfl rfl ?_ | (refine s_gy rfl ?_; refine zl hS ?_)))
    all_goals (first | refine s_gn rfl rfl ?_ | (refine s_gy rfl ?_; (first | (refine Q12 ?_) | (refine Q18 ?_) | (refine Qx rfl rfl (fun hc => ?_) (fun hc => ?_)))))
    all_goals ((first | (refine zpt ?_) | (refine zpf ?_)); refine zm ?_; (first | refine s_gn rfl rfl ?_ | (refine s_gy rfl ?_; refine Q2 rfl ?_)); (first | refine s_gn rfl rfl ?_ | (refine s_gy rfl ?_; refine zl hS ?_)))
    all_goals (first | refine s_gn rfl rfl ?_ | (refine s_gy rfl ?_; (first | (refine Q12 ?_) | (refine Q18 ?_) | (refine Qx rfl rfl (fun hc => ?_) (fun hc => ?_)))))
    all_goals ((first | refine s_gn rfl rfl ?_ | (refine s_gy rfl ?_; refine zm ?_)); (first | refine s_gn rfl rfl ?_ | (refine s_gy rfl ?_; refine Q2 rfl ?_)); (first | refine s_gn rfl rfl ?_ | (refine s_gy rfl ?_; refine zl hS ?_)); (first | refine s_gn rfl rfl ?_ | (refine s_gy rfl ?_; refine zL ?_)))
    all_goals (first | refine s_gn rfl rfl ?_ | (refine s_gy rfl ?_; (first | (refine QQ ?_) | (refine Q11 ?_) | (refine Qr rfl rfl (fun hc => ?_) (fun hc => ?_)))))
    all_goals ((first | refine s_gn rfl rfl ?_ | (refine s_gy rfl ?_; (first | (refine zpt ?_) | (refine zpf ?_)))); (first | (refine zpt ?_) | (refine zpf ?_)); refine zR3 (c := Q2n (by intro _; decide) hS fd) (h := ?_); rintro v1 w1 ⟨rfl, hS⟩; simp only [List.set_cons_zero, List.set_cons_succ, if_true, Bool.false_eq_true, if_false] at hS; refine zn ?_; exact ⟨zh, zh, by first | (rw [if_pos (c := e.op ≠ 2 ∧ e.a ≠ 0 ∨ e.op ≠ 3 ∧ 0 < e.args.length) (by omega)]; exact hS.sp) | (rw [if_neg (c := e.op ≠ 2 ∧ e.a ≠ 0 ∨ e.op ≠ 3 ∧ 0 < e.args.length) (by omega)]; exact hS.sp)⟩)
  rintro ρ w1 ⟨hA, hρ, hS⟩; obtain ⟨ρ, rfl⟩ := env2 hA hρ
  refine zM [0, 4, 5] (fun A ρ' w' => Has ρ' A ∧ Has ρ' [] ∧ St cx w' (blk p5 50 [.int .i64 e.op, .int .i64 e.a, .int .i64 e.yes.block, v1, v2, .int .i64 e.no.block, v3, v4, v5] :: blk p4 43 [.int .i64 x.regs, vp, vr, vb] :: jdg b vf (orF (orF (orF g (mkF (if e.op < 1 ∨ 3 < e.op then 3 else 0) at')) (mkF (if e.op ≠ 2 ∧ e.a ≠ 0 ∨ e.op ≠ 3 ∧ 0 < e.args.length then 4 else 0) at')) (mkF (if 8 < e.args.length then 2 else 0) at')) at' :: L.eraseIdx i)) ?_ ?_
  · skip
    all_goals (refine Q1 ?_; refine zm ?_; refine Q2 rfl ?_; refine zl hS ?_; refine zL ?_)
    all_goals (first | (refine QQ ?_) | (refine Q11 ?_) | (refine Qr rfl rfl (fun hc => ?_) (fun hc => ?_)))
    all_goals (refine zR3 (c := Q2n (by intro _; decide) hS fd) (h := ?_); rintro v1 w1 ⟨rfl, hS⟩; simp only [List.set_cons_zero, List.set_cons_succ, if_true, Bool.false_eq_true, if_false] at hS; refine zn ?_; exact ⟨zh, zh, by first | (rw [if_pos (c := 8 < e.args.length) (by omega)]; exact hS.sp) | (rw [if_neg (c := 8 < e.args.length) (by omega)]; exact hS.sp)⟩)
  rintro ρ w1 ⟨hA, hρ, hS⟩; obtain ⟨ρ, rfl⟩ := env2 hA hρ
  all_goals (refine Q0 ?_; refine Q1 ?_; refine zm ?_; refine zv hS ?_; refine Q2 rfl ?_; refine zv hS ?_; refine Q2 rfl ?_; refine zl hS ?_; refine Q9e rfl rfl ?_; refine zR4 (c := to_c (t := e.yes) hx ⟨_, _, rfl, h1, h2⟩ hS fd) (h := ?_); rintro v1 w1 ⟨rfl, hS⟩; have hS := hS.ns; refine zn ?_; refine Q1 ?_; refine zm ?_; refine zv hS ?_; refine Q2 rfl ?_; refine zv hS ?_; refine Q2 rfl ?_; refine zl hS ?_; refine QdB rfl rfl ?_; refine zR4 (c := to_c (t := e.no) hx ⟨_, _, rfl, h3, h4⟩ hS fd) (h := ?_); rintro v1 w1 ⟨rfl, hS⟩; have hS := hS.ns; refine zn ?_; refine Q5c ?_; refine ⟨_, rfl, rfl, ?_⟩; rw [end_sum] at hS; exact St.back hS.drop.drop hi)
end
end Go.Proofs.YtjecflbbcnocdaaGreatDoor
namespace Go.Proofs.YtjecflbbcnocdaaGreatDoor
open Go.Lir
set_option maxHeartbeats 1000000
attribute [local irreducible] LC.wp Q3 QF QK retQ Q1E LO.wp Qq Calls
set_option linter.unusedSimpArgs false
set_option linter.unusedVariables false
variable {cx : Cx} {w : World} {L : List Res}
theorem Q6p (f : Nat) (hf : f ≤ 1000000) (hS : St cx w L) : Rets Tryz.prog QmL [.int .i64 f] w fun u w' => u = .int .i64 (Q39 f) ∧ St cx w' L := by
  unfold Q39
  all_goals refine Qm8 ?_
  all_goals (unfold R_AtFunc_lc; refine Q0 ?_; refine Q1 ?_; refine zm ?_; refine zn ?_; refine Q0 ?_; refine Q1 ?_; refine zm ?_; refine zmu ?_; refine zad ?_; refine zm ?_; refine zn ?_; refine zr ?_; refine zf ?_; refine ⟨_, rfl, ?_, hS.sp⟩; (first | rfl | (congr 1; omega)); done)
theorem Qoe (f : Nat) (hf : f ≤ 1000000) (hS : St cx w L) : Rets Tryz.prog Qe2 [.int .i64 f] w fun u w' => u = .int .i64 (Q39 f) ∧ St cx w' L := by
  unfold Q39
  all_goals refine QfW ?_
  all_goals (unfold code_FuncAt_lc; refine Q0 ?_; refine Q1 ?_; refine zm ?_; refine zn ?_; refine Q0 ?_; refine Q1 ?_; refine zm ?_; refine zmu ?_; refine zad ?_; refine zm ?_; refine zn ?_; refine zr ?_; refine zf ?_; refine ⟨_, rfl, ?_, hS.sp⟩; (rfl); done)
theorem Q7k (f b : Nat) (hf : f ≤ 1000000) (hb : b ≤ 1000000) (hS : St cx w L) : Rets Tryz.prog Ql5 [.int .i64 f, .int .i64 b] w fun u w' => u = .int .i64 (Q3f f b) ∧ St cx w' L := by
  unfold Q3f
  all_goals refine Ql4 ?_
  all_goals (unfold R_AtBlock_lc; refine Q0 ?_; refine Q1 ?_; refine zm ?_; refine zn ?_; refine Q0 ?_; refine Q1 ?_; refine zm ?_; refine zmu ?_; refine zm ?_; refine zmu ?_; refine zad ?_; refine zad ?_; refine zm ?_; refine zn ?_; refine zr ?_; refine zf ?_; refine ⟨_, rfl, ?_, hS.sp⟩; (first | rfl | (congr 1; omega)); done)
theorem QmZ (f b : Nat) (hf : f ≤ 1000000) (hb : b ≤ 1000000) (hS : St cx w L) : Rets Tryz.prog Qch [.int .i64 f, .int .i64 b] w fun u w' => u = .int .i64 (Q3f f b) ∧ St cx w' L := by
  unfold Q3f
  all_goals refine Qe8 ?_
  all_goals (unfold code_BlockAt_lc; refine Q0 ?_; refine Q1 ?_; refine zm ?_; refine zn ?_; refine Q0 ?_; refine Q1 ?_; refine zm ?_; refine zmu ?_; refine zm ?_; refine zmu ?_; refine zad ?_; refine zad ?_; refine zm ?_; refine zn ?_; refine zr ?_; refine zf ?_; refine ⟨_, rfl, ?_, hS.sp⟩; (rfl); done)
theorem rEndAt_c (f b : Nat) (hf : f ≤ 1000000) (hb : b ≤ 1000000) (hS : St cx w L) : Rets Tryz.prog Qp6 [.int .i64 f, .int .i64 b] w fun u w' => u = .int .i64 (Qg9 f b) ∧ St cx w' L := by
  unfold Qg9
  all_goals refine Qnj ?_
  all_goals (unfold R_AtEnd_lc; refine Q0 ?_; refine Q1 ?_; refine zm ?_; refine zn ?_; refine Q0 ?_; refine Q1 ?_; refine zm ?_; refine zmu ?_; refine zm ?_; refine zmu ?_; refine zad ?_; refine zad ?_; refine zm ?_; refine zn ?_; refine zr ?_; refine zf ?_; refine ⟨_, rfl, ?_, hS.sp⟩; (first | rfl | (congr 1; omega)); done)
theorem pEndAt_c (f b : Nat) (hf : f ≤ 1000000) (hb : b ≤ 1000000) (hS : St cx w L) : Rets Tryz.prog Qhw [.int .i64 f, .int .i64 b] w fun u w' => u = .int .i64 (Qg9 f b) ∧ St cx w' L := by
  unfold Qg9
  all_goals refine QiN ?_
  all_goals (unfold code_EndAt_lc; refine Q0 ?_; refine Q1 ?_; refine zm ?_; refine zn ?_; refine Q0 ?_; refine Q1 ?_; refine zm ?_; refine zmu ?_; refine zm ?_; refine zmu ?_; refine zad ?_; refine zad ?_; refine zm ?_; refine zn ?_; refine zr ?_; refine zf ?_; refine ⟨_, rfl, ?_, hS.sp⟩; (rfl); done)
theorem rInsAt_c (f b i : Nat) (hf : f ≤ 1000000) (hb : b ≤ 1000000) (hi : i ≤ 1000000) (hS : St cx w L) : Rets Tryz.prog Qp5 [.int .i64 f, .int .i64 b, .int .i64 i] w fun u w' => u = .int .i64 (Qec f b i) ∧ St cx w' L := by
  unfold Qec
  all_goals refine Qng ?_
  all_goals (unfold R_AtIns_lc; refine Q0 ?_; refine Q1 ?_; refine zm ?_; refine zn ?_; refine Q0 ?_; refine Q1 ?_; refine zm ?_; refine zmu ?_; refine zm ?_; refine zmu ?_; refine zad ?_; refine zm ?_; refine zad ?_; refine zm ?_; refine zn ?_; refine zr ?_; refine zf ?_; refine ⟨_, rfl, ?_, hS.sp⟩; (first | rfl | (congr 1; omega)); done)
theorem pInsAt_c (f b i : Nat) (hf : f ≤ 1000000) (hb : b ≤ 1000000) (hi : i ≤ 1000000) (hS : St cx w L) : Rets Tryz.prog Qhv [.int .i64 f, .int .i64 b, .int .i64 i] w fun u w' => u = .int .i64 (Qec f b i) ∧ St cx w' L := by
  unfold Qec
  all_goals refine QiK ?_
  all_goals (unfold code_InsAt_lc; refine Q0 ?_; refine Q1 ?_; refine zm ?_; refine zn ?_; refine Q0 ?_; refine Q1 ?_; refine zm ?_; refine zmu ?_; refine zm ?_; refine zmu ?_; refine zad ?_; refine zm ?_; refine zad ?_; refine zm ?_; refine zn ?_; refine zr ?_; refine zf ?_; refine ⟨_, rfl, ?_, hS.sp⟩; (rfl); done)
theorem rF_c {c a : Int} (hS : St cx w L) : Rets Tryz.prog R_F [.int .i64 c, .int .i64 a] w fun u w' => u = .agg ⟨[.int .i64 c, .int .i64 a]⟩ ∧ St cx w' L := by
  all_goals refine R_F_in ?_
  all_goals (unfold R_F_lc; refine Q0 ?_; refine Q1 ?_; refine Qb hS ?_; intro p4 w1 hS; refine zn ?_; refine Q0 ?_; refine Q1 ?_; refine zm ?_; refine zm ?_; refine zb2 [_, _] ?_; refine zsn hS ?_; intro w1 hS; have hS := hS.ns; refine zn ?_; refine zr ?_; refine Q1G vw (Qa (n := 2) (by kernel_rfl) (by kernel_rfl) (hS.blkAt fd) (by rfl) (by rfl)) ?_; refine ⟨_, rfl, ?_, hS.sp⟩; (rfl); done)
theorem Qld {l : List Ty} {regs : Int} {v : Value} (hl : tyR.sl cx v l) (hS : St cx w L) : Rets Tryz.prog Q3E [v, .int .i64 regs] w fun u w' => u = .int .i64 (Qu l regs) ∧ St cx w' L := by
  have hlen := hl.len
  unfold Qu
  all_goals refine Qjd ?_
  all_goals (unfold R_listForm_lc; refine Q0 ?_; refine Q1 ?_; refine zm ?_; refine zn ?_; refine Q0 ?_; refine Q0 ?_; refine Q1 ?_; refine zm ?_; refine zL ?_)
  all_goals (first | (refine QQ ?_) | (refine Q11 ?_) | (refine Qr rfl rfl (fun hc => ?_) (fun hc => ?_)))
  all_goals (refine zn ?_)
  all_goals
    first
    | (refine Q4 rfl ?_ -- Q3E c0
       all_goals (refine Q0 ?_; refine Q1 ?_; refine zm ?_; refine zn ?_; refine zr ?_; refine zf ?_)
       all_goals (refine ⟨_, rfl, ?_, hS.sp⟩; rw [if_pos (by omega)]; done))
    | (refine Q5 rfl ?_ -- Q3E c0
       all_goals refine zsk ?_)
  all_goals (refine Q0 ?_; refine Q0 ?_; refine Q1 ?_; refine zm ?_; refine zn ?_; refine Qh ?_)
  refine zoL hS [0, 1] (fun A LL ρ' w' => ∃ (j : Nat), Has ρ' A ∧ Has ρ' [(5, .int .i64 j)] ∧ (j ≤ l.length) ∧ (Q3a regs l = Q3a regs (l.drop j)) ∧ St cx w' (LL)) (fun ρ' _ => (l.length - iv (ρ' 5)).toNat) ?_ ?_
  · exact ⟨0, zh, zh, (by omega), by simp, hS.sp⟩
  rintro ρ w1 ⟨j, hA, hρ, hj, hd, hS⟩; obtain ⟨ρ, rfl⟩ := env2 hA hρ
  unfold QaV
  all_goals (refine Q0 ?_; refine Q0 ?_; refine Q1 ?_; refine zm ?_; refine zm ?_; refine zL ?_; refine Q1x rfl rfl ?_; refine zn ?_)
  refine QO rfl (fun hc => ?_) (fun hc => ?_)
  · skip
    all_goals (refine zsk ?_; refine Q0 ?_; refine Qh ?_; refine Q0 ?_; refine Q1 ?_; refine zm ?_; refine zm ?_; refine zi ?_; intro b1 o1 cs1 x1 hat1 hx1 he1; obtain ⟨vl1, rfl, hl1⟩ := Q1b he1; (first | (refine zv hS ?_) | (refine zvk hS ?_)); refine zm ?_; refine zR2 (c := QnU (by assumption) hS) (h := ?_); rintro v1 w1 ⟨rfl, hS⟩; refine zm ?_; refine zn ?_; refine Q0 ?_; refine Q1 ?_; refine zm ?_)
    all_goals (first | (refine Q12 ?_) | (refine Q18 ?_) | (refine Qx rfl rfl (fun hc => ?_) (fun hc => ?_)))
    all_goals (refine zn ?_)
    all_goals
      first
      | (refine Q4 rfl ?_ -- Q3E c2
         all_goals (refine Q0 ?_; refine Q1 ?_; refine zm ?_; refine zm ?_; refine zn ?_; refine zr ?_; refine zf ?_)
         all_goals (first | (refine ⟨_, rfl, ?_, hS.sp⟩; rw [if_pos (by omega)]; done) | (refine ⟨_, rfl, ?_, hS.sp⟩; rw [if_neg (by omega), hd, Q6 hx1, Q3a, Q70 (by assumption)]; done)))
      | (refine Q5 rfl ?_ -- Q3E c2
         all_goals refine zsk ?_)
    all_goals (refine Q1 ?_; refine zm ?_; refine zad ?_; refine zm ?_; refine zn ?_; exact ⟨⟨j + 1, zh, zh, (by omega), by rw [hd, Q6 hx1, Q3a, show x1.fault regs = 0 by omega, Q63], hS.sp⟩, Q16 (by omega)⟩)
  · skip
    all_goals (refine zex ?_; refine Q0 ?_; refine Q1 ?_; refine zm ?_; refine zn ?_; refine zr ?_; refine zf ?_; (first | (refine ⟨_, rfl, ?_, hS.sp⟩; rw [if_pos (by omega)]; done) | (refine ⟨_, rfl, ?_, hS.sp⟩; rw [if_neg (by omega), hd, Q6 hx1, Q3a, Q70 (by assumption)]; done) | (refine ⟨_, rfl, ?_, hS.sp⟩; rw [if_neg (by omega), hd, List.drop_of_length_le (by omega), Q3a]; done)))
theorem fields_c {op : Int} (hS : St cx w L) : Rets Tryz.prog Qd [.int .i64 op] w fun u w' => u = .tuple #[.agg ⟨[.bool (fA op), .bool (fB op), .bool (fC op), .bool (fK op), .bool (fN op), .bool (fG op), .bool (fR op)]⟩, .bool (decide (1 ≤ op ∧ op ≤ 14))] ∧ St cx w' L := by
  have hbad : (op < 1 ∨ 14 < op) → fA op = false ∧ fB op = false ∧ fC op = false ∧ fK op = false ∧ fN op = false ∧ fG op = false ∧ fR op = false ∧ decide (1 ≤ op ∧ op ≤ 14) = false := by
    intro h
    refine ⟨?_, ?_, ?_, ?_, ?_, ?_, ?_, ?_⟩ <;> (first | unfold fA | unfold fB | unfold fC | unfold fK | unfold fN | unfold fG | unfold fR | skip) <;> rw [decide_eq_false_iff_not] <;> omega
  by_cases hb : op < 1 ∨ 14 < op
  · obtain ⟨h1, h2, h3, h4, h5, h6, h7, h8⟩ := hbad hb
    rw [h1, h2, h3, h4, h5, h6, h7, h8]
    clear hbad h1 h2 h3 h4 h5 h6 h7 h8
    all_goals refine QaX ?_
    all_goals (unfold R_FieldsOf_lc; refine Q0 ?_; refine Q1 ?_; refine Qb hS ?_; intro p2 w1 hS; refine zm ?_; refine zn ?_; refine Q0 ?_; refine Q0 ?_; refine Q1 ?_; refine zm ?_; refine zn ?_; refine Qh ?_; refine Q0 ?_; refine Q1 ?_)
    all_goals (first | (refine Qw ?_) | (refine Qy ?_))
    all_goals (refine zm ?_; refine zn ?_)
    all_goals
      first
      | (refine Q4 rfl ?_ -- Qd c0
         all_goals (refine Q0 ?_; refine Q1 ?_; refine zb1 [_, _, _, _, _, _, _] ?_; refine zsn hS ?_; intro w1 hS; have hS := hS.ns; refine zm ?_; refine zn ?_; refine zr ?_; refine QU vw (Qa (n := 7) (by kernel_rfl) (by kernel_rfl) (hS.blkAt fd) (by rfl) (by rfl)) vw ?_)
         all_goals (refine ⟨_, rfl, ?_, hS.sp⟩; (rfl); done))
      | (refine Q5 rfl ?_ -- Qd c0
         all_goals (refine Q0 ?_; refine Q0 ?_; refine Q1 ?_)
         all_goals (first | (refine Qw ?_) | (refine Qy ?_))
         all_goals (refine zm ?_; refine zn ?_)
         all_goals
           first
           | (refine Q4 rfl ?_ -- Qd c1
              all_goals refine zsk ?_)
           | (refine Q5 rfl ?_ -- Qd c1
              all_goals (refine Q1 ?_)
              all_goals (first | (refine Qw ?_) | (refine Qy ?_))
              all_goals (refine zm ?_)
              all_goals refine zn ?_)
         all_goals
           first
           | (refine Q4 rfl ?_ -- Qd c2
              all_goals (refine Q0 ?_; refine Q1 ?_; refine zb3 [_, _, _, _, _, _, _] ?_; refine zsn hS ?_; intro w1 hS; have hS := hS.ns; refine zm ?_; refine zn ?_; refine zr ?_; refine QU vw (Qa (n := 7) (by kernel_rfl) (by kernel_rfl) (hS.blkAt fd) (by rfl) (by rfl)) vw ?_)
              all_goals (refine ⟨_, rfl, ?_, hS.sp⟩; (rfl); done))
           | (refine Q5 rfl ?_ -- Qd c2
              all_goals (refine Q0 ?_; refine Q0 ?_; refine Q1 ?_)
              all_goals (first | (refine Qw ?_) | (refine Qy ?_))
              all_goals (refine zm ?_; refine zn ?_)
              all_goals
                first
                | (refine Q4 rfl ?_ -- Qd c3
                   all_goals refine zsk ?_)
                | (refine Q5 rfl ?_ -- Qd c3
                   all_goals (refine Q1 ?_)
                   all_goals (first | (refine Qw ?_) | (refine Qy ?_))
                   all_goals (refine zm ?_)
                   all_goals refine zn ?_)
              all_goals
                first
                | (refine Q4 rfl ?_ -- Qd c4
                   all_goals (refine Q0 ?_; refine Q1 ?_; refine zb0 [_, _, _, _, _, _, _] ?_; refine zsn hS ?_; intro w1 hS; have hS := hS.ns; refine zm ?_; refine zn ?_; refine zr ?_; refine QU vw (Qa (n := 7) (by kernel_rfl) (by kernel_rfl) (hS.blkAt fd) (by rfl) (by rfl)) vw ?_)
                   all_goals (refine ⟨_, rfl, ?_, hS.sp⟩; (rfl); done))
                | (refine Q5 rfl ?_ -- Qd c4
                   all_goals (refine Q0 ?_; refine Q0 ?_; refine Q1 ?_)
                   all_goals (first | (refine Qw ?_) | (refine Qy ?_))
                   all_goals (refine zm ?_; refine zn ?_)
                   all_goals
                     first
                     | (refine Q4 rfl ?_ -- Qd c5
                        all_goals refine zsk ?_)
                     | (refine Q5 rfl ?_ -- Qd c5
                        all_goals (refine Q0 ?_; refine Q1 ?_)
                        all_goals (first | (refine Qw ?_) | (refine Qy ?_))
                        all_goals (refine zm ?_; refine zn ?_)
                        all_goals
                          first
                          | (refine Q4 rfl ?_ -- Qd c6
                             all_goals refine zsk ?_)
                          | (refine Q5 rfl ?_ -- Qd c6
                             all_goals (refine Q1 ?_)
                             all_goals (first | (refine Qw ?_) | (refine Qy ?_))
                             all_goals (refine zm ?_)
                             all_goals refine zn ?_))
                   all_goals
                     first
                     | (refine Q4 rfl ?_ -- Qd c7
                        all_goals (refine Q0 ?_; refine Q1 ?_; refine zb1 [_, _, _, _, _, _, _] ?_; refine zsn hS ?_; intro w1 hS; have hS := hS.ns; refine zm ?_; refine zn ?_; refine zr ?_; refine QU vw (Qa (n := 7) (by kernel_rfl) (by kernel_rfl) (hS.blkAt fd) (by rfl) (by rfl)) vw ?_)
                        all_goals (refine ⟨_, rfl, ?_, hS.sp⟩; (rfl); done))
                     | (refine Q5 rfl ?_ -- Qd c7
                        all_goals (refine Q0 ?_; refine Q1 ?_)
                        all_goals (first | (refine Qw ?_) | (refine Qy ?_))
                        all_goals (refine zm ?_; refine zn ?_)
                        all_goals
                          first
                          | (refine Q4 rfl ?_ -- Qd c8
                             all_goals (refine Q0 ?_; refine Q1 ?_; refine zb2 [_, _, _, _, _, _, _] ?_; refine zsn hS ?_; intro w1 hS; have hS := hS.ns; refine zm ?_; refine zn ?_; refine zr ?_; refine QU vw (Qa (n := 7) (by kernel_rfl) (by kernel_rfl) (hS.blkAt fd) (by rfl) (by rfl)) vw ?_)
                             all_goals (refine ⟨_, rfl, ?_, hS.sp⟩; (rfl); done))
                          | (refine Q5 rfl ?_ -- Qd c8
                             all_goals (refine Q0 ?_; refine Q1 ?_)
                             all_goals (first | (refine Qw ?_) | (refine Qy ?_))
                             all_goals (refine zm ?_; refine zn ?_)
                             all_goals
                               first
                               | (refine Q4 rfl ?_ -- Qd c9
                                  all_goals (refine Q0 ?_; refine Q1 ?_; refine zb2 [_, _, _, _, _, _, _] ?_; refine zsn hS ?_; intro w1 hS; have hS := hS.ns; refine zm ?_; refine zn ?_; refine zr ?_; refine QU vw (Qa (n := 7) (by kernel_rfl) (by kernel_rfl) (hS.blkAt fd) (by rfl) (by rfl)) vw ?_)
                                  all_goals (refine ⟨_, rfl, ?_, hS.sp⟩; (rfl); done))
                               | (refine Q5 rfl ?_ -- Qd c9
                                  all_goals (refine Q0 ?_; refine Q0 ?_; refine Q1 ?_)
                                  all_goals (first | (refine Qw ?_) | (refine Qy ?_))
                                  all_goals (refine zm ?_; refine zn ?_)
                                  all_goals
                                    first
                                    | (refine Q4 rfl ?_ -- Qd c10
                                       all_goals refine zsk ?_)
                                    | (refine Q5 rfl ?_ -- Qd c10
                                       all_goals (refine Q1 ?_)
                                       all_goals (first | (refine Qw ?_) | (refine Qy ?_))
                                       all_goals (refine zm ?_)
                                       all_goals refine zn ?_)
                                  all_goals
                                    first
                                    | (refine Q4 rfl ?_ -- Qd c11
                                       all_goals (refine Q0 ?_; refine Q1 ?_; refine zb2 [_, _, _, _, _, _, _] ?_; refine zsn hS ?_; intro w1 hS; have hS := hS.ns; refine zm ?_; refine zn ?_; refine zr ?_; refine QU vw (Qa (n := 7) (by kernel_rfl) (by kernel_rfl) (hS.blkAt fd) (by rfl) (by rfl)) vw ?_)
                                       all_goals (refine ⟨_, rfl, ?_, hS.sp⟩; (rfl); done))
                                    | (refine Q5 rfl ?_ -- Qd c11
                                       all_goals (refine Q0 ?_; refine Q1 ?_)
                                       all_goals (first | (refine Qw ?_) | (refine Qy ?_))
                                       all_goals (refine zm ?_; refine zn ?_)
                                       all_goals
                                         first
                                         | (refine Q4 rfl ?_ -- Qd c12
                                            all_goals (refine Q0 ?_; refine Q1 ?_; refine zb3 [_, _, _, _, _, _, _] ?_; refine zsn hS ?_; intro w1 hS; have hS := hS.ns; refine zm ?_; refine zn ?_; refine zr ?_; refine QU vw (Qa (n := 7) (by kernel_rfl) (by kernel_rfl) (hS.blkAt fd) (by rfl) (by rfl)) vw ?_)
                                            all_goals (refine ⟨_, rfl, ?_, hS.sp⟩; (rfl); done))
                                         | (refine Q5 rfl ?_ -- Qd c12
                                            all_goals (refine Q0 ?_; refine Q1 ?_)
                                            all_goals (first | (refine Qw ?_) | (refine Qy ?_))
                                            all_goals (refine zm ?_; refine zn ?_)
                                            all_goals
                                              first
                                              | (refine Q4 rfl ?_ -- Qd c13
                                                 all_goals (refine Q0 ?_; refine Q1 ?_; refine zb3 [_, _, _, _, _, _, _] ?_; refine zsn hS ?_; intro w1 hS; have hS := hS.ns; refine zm ?_; refine zn ?_; refine zr ?_; refine QU vw (Qa (n := 7) (by kernel_rfl) (by kernel_rfl) (hS.blkAt fd) (by rfl) (by rfl)) vw ?_)
                                                 all_goals (refine ⟨_, rfl, ?_, hS.sp⟩; (rfl); done))
                                              | (refine Q5 rfl ?_ -- Qd c13
                                                 all_goals refine zsk ?_)))))))))
    all_goals (refine Q0 ?_; refine Q1 ?_; refine zb0 [_, _, _, _, _, _, _] ?_; refine zsn hS ?_; intro w1 hS; have hS := hS.ns; refine zm ?_; refine zn ?_; refine zr ?_; refine QU vw (Qa (n := 7) (by kernel_rfl) (by kernel_rfl) (hS.blkAt fd) (by rfl) (by rfl)) vw ?_; refine ⟨_, rfl, ?_, hS.sp⟩; (rfl); done)
  · clear hbad
    rcases op_cases (op := op) (by omega) (by omega) with rfl | rfl | rfl | rfl | rfl | rfl | rfl | rfl | rfl | rfl | rfl | rfl | rfl | rfl
    all_goals clear hb
    all_goals refine QaX ?_
    all_goals (unfold R_FieldsOf_lc; skip; refine Q0 ?_; refine Q1 ?_; refine Qb hS ?_; intro p2 w1 hS; refine zm ?_; refine zn ?_; refine Q0 ?_; refine Q0 ?_; refine Q1 ?_; refine zm ?_; refine zn ?_; refine Qh ?_; refine Q0 ?_; refine Q1 ?_)
    all_goals (first | (refine Qw ?_) | (refine Qy ?_))
    all_goals (refine zm ?_; refine zn ?_)
    all_goals
      first
      | (refine Q4 rfl ?_ -- Qd c0
         all_goals (refine Q0 ?_; refine Q1 ?_; refine zb1 [_, _, _, _, _, _, _] ?_; refine zsn hS ?_; intro w1 hS; have hS := hS.ns; refine zm ?_; refine zn ?_; refine zr ?_; refine QU vw (Qa (n := 7) (by kernel_rfl) (by kernel_rfl) (hS.blkAt fd) (by rfl) (by rfl)) vw ?_)
         all_goals (refine ⟨_, rfl, ?_, hS.sp⟩; (rfl); done))
      | (refine Q5 rfl ?_ -- Qd c0
         all_goals (refine Q0 ?_; refine Q0 ?_; refine Q1 ?_)
         all_goals (first | (refine Qw ?_) | (refine Qy ?_))
         all_goals (refine zm ?_; refine zn ?_)
         all_goals
           first
           | (refine Q4 rfl ?_ -- Qd c1
              all_goals refine zsk ?_)
           | (refine Q5 rfl ?_ -- Qd c1
              all_goals (refine Q1 ?_)
              all_goals (first | (refine Qw ?_) | (refine Qy ?_))
              all_goals (refine zm ?_)
              all_goals refine zn ?_)
         all_goals
           first
           | (refine Q4 rfl ?_ -- Qd c2
              all_goals (refine Q0 ?_; refine Q1 ?_; refine zb3 [_, _, _, _, _, _, _] ?_; refine zsn hS ?_; intro w1 hS; have hS := hS.ns; refine zm ?_; refine zn ?_; refine zr ?_; refine QU vw (Qa (n := 7) (by kernel_rfl) (by kernel_rfl) (hS.blkAt fd) (by rfl) (by rfl)) vw ?_)
              all_goals (refine ⟨_, rfl, ?_, hS.sp⟩; (rfl); done))
           | (refine Q5 rfl ?_ -- Qd c2
              all_goals (refine Q0 ?_; refine Q0 ?_; refine Q1 ?_)
              all_goals (first | (refine Qw ?_) | (refine Qy ?_))
              all_goals (refine zm ?_; refine zn ?_)
              all_goals
                first
                | (refine Q4 rfl ?_ -- Qd c3
                   all_goals refine zsk ?_)
                | (refine Q5 rfl ?_ -- Qd c3
                   all_goals (refine Q1 ?_)
                   all_goals (first | (refine Qw ?_) | (refine Qy ?_))
                   all_goals (refine zm ?_)
                   all_goals refine zn ?_)
              all_goals
                first
                | (refine Q4 rfl ?_ -- Qd c4
                   all_goals (refine Q0 ?_; refine Q1 ?_; refine zb0 [_, _, _, _, _, _, _] ?_; refine zsn hS ?_; intro w1 hS; have hS := hS.ns; refine zm ?_; refine zn ?_; refine zr ?_; refine QU vw (Qa (n := 7) (by kernel_rfl) (by kernel_rfl) (hS.blkAt fd) (by rfl) (by rfl)) vw ?_)
                   all_goals (refine ⟨_, rfl, ?_, hS.sp⟩; (rfl); done))
                | (refine Q5 rfl ?_ -- Qd c4
                   all_goals (refine Q0 ?_; refine Q0 ?_; refine Q1 ?_)
                   all_goals (first | (refine Qw ?_) | (refine Qy ?_))
                   all_goals (refine zm ?_; refine zn ?_)
                   all_goals
                     first
                     | (refine Q4 rfl ?_ -- Qd c5
                        all_goals refine zsk ?_)
                     | (refine Q5 rfl ?_ -- Qd c5
                        all_goals (refine Q0 ?_; refine Q1 ?_)
                        all_goals (first | (refine Qw ?_) | (refine Qy ?_))
                        all_goals (refine zm ?_; refine zn ?_)
                        all_goals
                          first
                          | (refine Q4 rfl ?_ -- Qd c6
                             all_goals refine zsk ?_)
                          | (refine Q5 rfl ?_ -- Qd c6
                             all_goals (refine Q1 ?_)
                             all_goals (first | (refine Qw ?_) | (refine Qy ?_))
                             all_goals (refine zm ?_)
                             all_goals refine zn ?_))
                   all_goals
                     first
                     | (refine Q4 rfl ?_ -- Qd c7
                        all_goals (refine Q0 ?_; refine Q1 ?_; refine zb1 [_, _, _, _, _, _, _] ?_; refine zsn hS ?_; intro w1 hS; have hS := hS.ns; refine zm ?_; refine zn ?_; refine zr ?_; refine QU vw (Qa (n := 7) (by kernel_rfl) (by kernel_rfl) (hS.blkAt fd) (by rfl) (by rfl)) vw ?_)
                        all_goals (refine ⟨_, rfl, ?_, hS.sp⟩; (rfl); done))
                     | (refine Q5 rfl ?_ -- Qd c7
                        all_goals (refine Q0 ?_; refine Q1 ?_)
                        all_goals (first | (refine Qw ?_) | (refine Qy ?_))
                        all_goals (refine zm ?_; refine zn ?_)
                        all_goals
                          first
                          | (refine Q4 rfl ?_ -- Qd c8
                             all_goals (refine Q0 ?_; refine Q1 ?_; refine zb2 [_, _, _, _, _, _, _] ?_; refine zsn hS ?_; intro w1 hS; have hS := hS.ns; refine zm ?_; refine zn ?_; refine zr ?_; refine QU vw (Qa (n := 7) (by kernel_rfl) (by kernel_rfl) (hS.blkAt fd) (by rfl) (by rfl)) vw ?_)
                             all_goals (refine ⟨_, rfl, ?_, hS.sp⟩; (rfl); done))
                          | (refine Q5 rfl ?_ -- Qd c8
                             all_goals (refine Q0 ?_; refine Q1 ?_)
                             all_goals (first | (refine Qw ?_) | (refine Qy ?_))
                             all_goals (refine zm ?_; refine zn ?_)
                             all_goals
                               first
                               | (refine Q4 rfl ?_ -- Qd c9
                                  all_goals (refine Q0 ?_; refine Q1 ?_; refine zb2 [_, _, _, _, _, _, _] ?_; refine zsn hS ?_; intro w1 hS; have hS := hS.ns; refine zm ?_; refine zn ?_; refine zr ?_; refine QU vw (Qa (n := 7) (by kernel_rfl) (by kernel_rfl) (hS.blkAt fd) (by rfl) (by rfl)) vw ?_)
                                  all_goals (refine ⟨_, rfl, ?_, hS.sp⟩; (rfl); done))
                               | (refine Q5 rfl ?_ -- Qd c9
                                  all_goals (refine Q0 ?_; refine Q0 ?_; refine Q1 ?_)
                                  all_goals (first | (refine Qw ?_) | (refine Qy ?_))
                                  all_goals (refine zm ?_; refine zn ?_)
                                  all_goals
                                    first
                                    | (refine Q4 rfl ?_ -- Qd c10
                                       all_goals refine zsk ?_)
                                    | (refine Q5 rfl ?_ -- Qd c10
                                       all_goals (refine Q1 ?_)
                                       all_goals (first | (refine Qw ?_) | (refine Qy ?_))
                                       all_goals (refine zm ?_)
                                       all_goals refine zn ?_)
                                  all_goals
                                    first
                                    | (refine Q4 rfl ?_ -- Qd c11
                                       all_goals (refine Q0 ?_; refine Q1 ?_; refine zb2 [_, _, _, _, _, _, _] ?_; refine zsn hS ?_; intro w1 hS; have hS := hS.ns; refine zm ?_; refine zn ?_; refine zr ?_; refine QU vw (Qa (n := 7) (by kernel_rfl) (by kernel_rfl) (hS.blkAt fd) (by rfl) (by rfl)) vw ?_)
                                       all_goals (refine ⟨_, rfl, ?_, hS.sp⟩; (rfl); done))
                                    | (refine Q5 rfl ?_ -- Qd c11
                                       all_goals (refine Q0 ?_; refine Q1 ?_)
                                       all_goals (first | (refine Qw ?_) | (refine Qy ?_))
                                       all_goals (refine zm ?_; refine zn ?_)
                                       all_goals
                                         first
                                         | (refine Q4 rfl ?_ -- Qd c12
                                            all_goals (refine Q0 ?_; refine Q1 ?_; refine zb3 [_, _, _, _, _, _, _] ?_; refine zsn hS ?_; intro w1 hS; have hS := hS.ns; refine zm ?_; refine zn ?_; refine zr ?_; refine QU vw (Qa (n := 7) (by kernel_rfl) (by kernel_rfl) (hS.blkAt fd) (by rfl) (by rfl)) vw ?_)
                                            all_goals (refine ⟨_, rfl, ?_, hS.sp⟩; (rfl); done))
                                         | (refine Q5 rfl ?_ -- Qd c12
                                            all_goals (refine Q0 ?_; refine Q1 ?_)
                                            all_goals (refine Qw ?_)
                                            all_goals (refine zm ?_; refine zn ?_)
                                            all_goals
                                              first
                                              | (refine Q4 rfl ?_ -- Qd c13
                                                 all_goals (refine Q0 ?_; refine Q1 ?_; refine zb3 [_, _, _, _, _, _, _] ?_; refine zsn hS ?_; intro w1 hS; have hS := hS.ns; refine zm ?_; refine zn ?_; refine zr ?_; refine QU vw (Qa (n := 7) (by kernel_rfl) (by kernel_rfl) (hS.blkAt fd) (by rfl) (by rfl)) vw ?_)
                                                 all_goals (refine ⟨_, rfl, ?_, hS.sp⟩; (rfl); done))))))))))
    all_goals (refine Q0 ?_; refine Q1 ?_; refine zb0 [_, _, _, _, _, _, _] ?_; refine zsn hS ?_; intro w1 hS; have hS := hS.ns; refine zm ?_; refine zn ?_; refine zr ?_; refine QU vw (Qa (n := 7) (by kernel_rfl) (by kernel_rfl) (hS.blkAt fd) (by rfl) (by rfl)) vw ?_; refine ⟨_, rfl, ?_, hS.sp⟩; (rfl); done)
theorem rins_c {x : Ins} {m : Module} {cs ds : List Value} (hm : modR.at cx cs m) (hx : insR.at cx ds x) (hS : St cx w L) : Rets Tryz.prog QD [.agg ⟨cs⟩, .agg ⟨ds⟩] w fun u w' => u = .int .i64 (Q31 m.funcs.length x) ∧ St cx w' L := by
  obtain ⟨vf, rfl, hf⟩ := Q41 hm
  obtain ⟨vr, va, rfl, hr, ha⟩ := Q3i hx
  have hlr := hr.len
  have hla := ha.len
  have hln := hf.len
  unfold Q31
  all_goals refine QkN ?_
  all_goals (unfold R_InsForm_lc; refine Q0 ?_; refine Q1 ?_; refine zb hS ?_; intro p2 w1 hS; refine zb hS ?_; intro p3 w1 hS; refine zm ?_; refine zn ?_; refine Q0 ?_; refine Q1 ?_; refine Q2 rfl ?_; refine zl hS ?_; refine zR1 (c := fields_c hS) (h := ?_); rintro v1 w1 ⟨rfl, hS⟩; refine zm ?_; refine Q1M rfl rfl ?_; refine Q1M rfl rfl ?_; refine Qb hS ?_; intro p5 w1 hS; refine zsn hS ?_; intro w1 hS; have hS := hS.ns; refine zm ?_; refine zn ?_)
  refine zML hS [2, 3, 5] (fun A LL ρ' w' => Has ρ' A ∧ Has ρ' [] ∧ (1 ≤ x.op ∧ x.op ≤ 14) ∧ St cx w' (LL)) ?_ ?_
  · skip
    all_goals (refine Q0 ?_)
    all_goals (cases hop : decide (1 ≤ x.op ∧ x.op ≤ 14))
    all_goals (refine Q1 ?_; refine zm ?_; refine Q1w rfl ?_; refine zn ?_)
    all_goals
      first
      | (refine Q4 rfl ?_ -- QD c0
         all_goals (refine Q0 ?_; refine Q1 ?_; refine zm ?_; refine zn ?_; refine zr ?_; refine zf ?_)
         all_goals (refine ⟨_, rfl, ?_, hS.sp⟩; rw [if_pos (by have := of_decide_eq_false hop; omega)]; done))
      | (refine Q5 rfl ?_ -- QD c0
         all_goals refine zsk ?_)
    all_goals (exact ⟨zh, zh, by exact of_decide_eq_true hop, hS.sp⟩)
  rintro ρ w1 ⟨hA, hρ, hop, hS⟩; obtain ⟨ρ, rfl⟩ := env2 hA hρ; obtain ⟨a1, ha1⟩ : ∃ b, fA x.op = b := ⟨_, rfl⟩; obtain ⟨a2, ha2⟩ : ∃ b, fB x.op = b := ⟨_, rfl⟩; obtain ⟨a3, ha3⟩ : ∃ b, fC x.op = b := ⟨_, rfl⟩; obtain ⟨a4, ha4⟩ : ∃ b, fK x.op = b := ⟨_, rfl⟩; obtain ⟨a5, ha5⟩ : ∃ b, fN x.op = b := ⟨_, rfl⟩; obtain ⟨a6, ha6⟩ : ∃ b, fG x.op = b := ⟨_, rfl⟩; obtain ⟨a7, ha7⟩ : ∃ b, fR x.op = b := ⟨_, rfl⟩; rw [ha1, ha2, ha3, ha4, ha5, ha6, ha7] at hS
  refine zML hS [2, 3] (fun A LL ρ' w' => Has ρ' A ∧ Has ρ' [] ∧ (¬ x.odd) ∧ St cx w' (LL)) ?_ ?_
  · skip
    all_goals (refine Q0 ?_; refine Q1 ?_)
    refine zKL hS 8 [2, 3, 5] (fun A LL ρ' w' => ∃ (q1 : Bool), Has ρ' A ∧ Has ρ' [(22, .bool q1)] ∧ (q1 = true ↔ (fA x.op = false ∧ x.a ≠ 0)) ∧ St cx w' (LL)) ?_ ?_
    · skip
      all_goals (refine Q2 rfl ?_; refine zl hS ?_)
      all_goals (cases a1)
      all_goals (refine Q1w rfl ?_; refine zm ?_; (first | refine s_gn rfl rfl ?_ | (refine s_gy rfl ?_; refine Q2 rfl ?_)); (first | refine s_gn rfl rfl ?_ | (refine s_gy rfl ?_; refine zl hS ?_)))
      all_goals (first | refine s_gn rfl rfl ?_ | (refine s_gy rfl ?_; (first | (refine Q12 ?_) | (refine Q18 ?_) | (refine Qx rfl rfl (fun hc => ?_) (fun hc => ?_)))))
      all_goals ((first | (refine zpt ?_) | (refine zpf ?_)); refine Q4V ?_; refine Q2f ?_)
      all_goals (first | (exact ⟨_, zh, zh, by exact ⟨fun _ => ⟨(by first | rfl | assumption), by omega⟩, fun _ => rfl⟩, hS.sp⟩) | (exact ⟨_, zh, zh, by exact ⟨fun h => Bool.noConfusion h, fun h => by obtain ⟨h1, h2⟩ := h; first | (exfalso; omega) | (simp_all; done)⟩, hS.sp⟩))
    rintro ρ w1 ⟨q1, hA, hρ, hq1, hS⟩; obtain ⟨ρ, rfl⟩ := env2 hA hρ
    refine zKL hS 10 [2, 3, 5] (fun A LL ρ' w' => ∃ (q2 : Bool), Has ρ' A ∧ Has ρ' [(32, .bool q2)] ∧ (q2 = true ↔ ((fA x.op = false ∧ x.a ≠ 0) ∨ (fB x.op = false ∧ x.b ≠ 0))) ∧ St cx w' (LL)) ?_ ?_
    · skip
      all_goals (cases q1)
      all_goals (refine zm ?_; (first | refine s_gn rfl rfl ?_ | (refine s_gy rfl ?_; refine Q2 rfl ?_)); (first | refine s_gn rfl rfl ?_ | (refine s_gy rfl ?_; refine zl hS ?_)))
      all_goals (cases a2)
      all_goals ((first | refine s_gn rfl rfl ?_ | (refine s_gy rfl ?_; refine Q1w rfl ?_)); (first | refine s_gn rfl rfl ?_ | (refine s_gy rfl ?_; refine zm ?_)); (first | refine s_gn rfl rfl ?_ | (refine s_gy rfl ?_; refine Q2 rfl ?_)); (first | refine s_gn rfl rfl ?_ | (refine s_gy rfl ?_; refine zl hS ?_)))
      all_goals (first | refine s_gn rfl rfl ?_ | (refine s_gy rfl ?_; (first | (refine Q12 ?_) | (refine Q18 ?_) | (refine Qx rfl rfl (fun hc => ?_) (fun hc => ?_)))))
      all_goals ((first | refine s_gn rfl rfl ?_ | (refine s_gy rfl ?_; (first | (refine zpt ?_) | (refine zpf ?_)))); (first | (refine zpt ?_) | (refine zpf ?_)); refine Q4V ?_; refine Q2f ?_)
      all_goals (first | (exact ⟨_, zh, zh, by exact ⟨fun _ => .inl (hq1.1 rfl), fun _ => rfl⟩, hS.sp⟩) | (exact ⟨_, zh, zh, by exact ⟨fun _ => .inr ⟨(by first | rfl | assumption), by omega⟩, fun _ => rfl⟩, hS.sp⟩) | (exact ⟨_, zh, zh, by exact ⟨fun h => Bool.noConfusion h, fun h => h.elim (fun h => hq1.2 h) (fun h => by obtain ⟨h1, h2⟩ := h; first | (exfalso; omega) | (simp_all; done))⟩, hS.sp⟩))
    rintro ρ w1 ⟨q2, hA, hρ, hq2, hS⟩; obtain ⟨ρ, rfl⟩ := env2 hA hρ
    refine zKL hS 10 [2, 3, 5] (fun A LL ρ' w' => ∃ (q3 : Bool), Has ρ' A ∧ Has ρ' [(42, .bool q3)] ∧ (q3 = true ↔ (((fA x.op = false ∧ x.a ≠ 0) ∨ (fB x.op = false ∧ x.b ≠ 0)) ∨ (fC x.op = false ∧ x.c ≠ 0))) ∧ St cx w' (LL)) ?_ ?_
    · skip
      all_goals (cases q2)
      all_goals (refine zm ?_; (first | refine s_gn rfl rfl ?_ | (refine s_gy rfl ?_; refine Q2 rfl ?_)); (first | refine s_gn rfl rfl ?_ | (refine s_gy rfl ?_; refine zl hS ?_)))
      all_goals (cases a3)
      all_goals ((first | refine s_gn rfl rfl ?_ | (refine s_gy rfl ?_; refine Q1w rfl ?_)); (first | refine s_gn rfl rfl ?_ | (refine s_gy rfl ?_; refine zm ?_)); (first | refine s_gn rfl rfl ?_ | (refine s_gy rfl ?_; refine Q2 rfl ?_)); (first | refine s_gn rfl rfl ?_ | (refine s_gy rfl ?_; refine zl hS ?_)))
      all_goals (first | refine s_gn rfl rfl ?_ | (refine s_gy rfl ?_; (first | (refine Q12 ?_) | (refine Q18 ?_) | (refine Qx rfl rfl (fun hc => ?_) (fun hc => ?_)))))
      all_goals ((first | refine s_gn rfl rfl ?_ | (refine s_gy rfl ?_; (first | (refine zpt ?_) | (refine zpf ?_)))); (first | (refine zpt ?_) | (refine zpf ?_)); refine Q4V ?_; refine Q2f ?_)
      all_goals (first | (exact ⟨_, zh, zh, by exact ⟨fun _ => .inl (hq2.1 rfl), fun _ => rfl⟩, hS.sp⟩) | (exact ⟨_, zh, zh, by exact ⟨fun _ => .inr ⟨(by first | rfl | assumption), by omega⟩, fun _ => rfl⟩, hS.sp⟩) | (exact ⟨_, zh, zh, by exact ⟨fun h => Bool.noConfusion h, fun h => h.elim (fun h => hq2.2 h) (fun h => by obtain ⟨h1, h2⟩ := h; first | (exfalso; omega) | (simp_all; done))⟩, hS.sp⟩))
    rintro ρ w1 ⟨q3, hA, hρ, hq3, hS⟩; obtain ⟨ρ, rfl⟩ := env2 hA hρ
    refine zKL hS 10 [2, 3, 5] (fun A LL ρ' w' => ∃ (q4 : Bool), Has ρ' A ∧ Has ρ' [(52, .bool q4)] ∧ (q4 = true ↔ ((((fA x.op = false ∧ x.a ≠ 0) ∨ (fB x.op = false ∧ x.b ≠ 0)) ∨ (fC x.op = false ∧ x.c ≠ 0)) ∨ (fK x.op = false ∧ x.k ≠ 0))) ∧ St cx w' (LL)) ?_ ?_
    · skip
      all_goals (cases q3)
      all_goals (refine zm ?_; (first | refine s_gn rfl rfl ?_ | (refine s_gy rfl ?_; refine Q2 rfl ?_)); (first | refine s_gn rfl rfl ?_ | (refine s_gy rfl ?_; refine zl hS ?_)))
      all_goals (cases a4)
      all_goals ((first | refine s_gn rfl rfl ?_ | (refine s_gy rfl ?_; refine Q1w rfl ?_)); (first | refine s_gn rfl rfl ?_ | (refine s_gy rfl ?_; refine zm ?_)); (first | refine s_gn rfl rfl ?_ | (refine s_gy rfl ?_; refine Q2 rfl ?_)); (first | refine s_gn rfl rfl ?_ | (refine s_gy rfl ?_; refine zl hS ?_)))
      all_goals (first | refine s_gn rfl rfl ?_ | (refine s_gy rfl ?_; (first | (refine Q12 ?_) | (refine Q18 ?_) | (refine Qx rfl rfl (fun hc => ?_) (fun hc => ?_)))))
      all_goals ((first | refine s_gn rfl rfl ?_ | (refine s_gy rfl ?_; (first | (refine zpt ?_) | (refine zpf ?_)))); (first | (refine zpt ?_) | (refine zpf ?_)); refine Q4V ?_; refine Q2f ?_)
      all_goals (first | (exact ⟨_, zh, zh, by exact ⟨fun _ => .inl (hq3.1 rfl), fun _ => rfl⟩, hS.sp⟩) | (exact ⟨_, zh, zh, by exact ⟨fun _ => .inr ⟨(by first | rfl | assumption), by omega⟩, fun _ => rfl⟩, hS.sp⟩) | (exact ⟨_, zh, zh, by exact ⟨fun h => Bool.noConfusion h, fun h => h.elim (fun h => hq3.2 h) (fun h => by obtain ⟨h1, h2⟩ := h; first | (exfalso; omega) | (simp_all; done))⟩, hS.sp⟩))
    rintro ρ w1 ⟨q4, hA, hρ, hq4, hS⟩; obtain ⟨ρ, rfl⟩ := env2 hA hρ
    refine zKL hS 10 [2, 3, 5] (fun A LL ρ' w' => ∃ (q5 : Bool), Has ρ' A ∧ Has ρ' [(62, .bool q5)] ∧ (q5 = true ↔ (((((fA x.op = false ∧ x.a ≠ 0) ∨ (fB x.op = false ∧ x.b ≠ 0)) ∨ (fC x.op = false ∧ x.c ≠ 0)) ∨ (fK x.op = false ∧ x.k ≠ 0)) ∨ (fN x.op = false ∧ x.n ≠ 0))) ∧ St cx w' (LL)) ?_ ?_
    · skip
      all_goals (cases q4)
      all_goals (refine zm ?_; (first | refine s_gn rfl rfl ?_ | (refine s_gy rfl ?_; refine Q2 rfl ?_)); (first | refine s_gn rfl rfl ?_ | (refine s_gy rfl ?_; refine zl hS ?_)))
      all_goals (cases a5)
      all_goals ((first | refine s_gn rfl rfl ?_ | (refine s_gy rfl ?_; refine Q1w rfl ?_)); (first | refine s_gn rfl rfl ?_ | (refine s_gy rfl ?_; refine zm ?_)); (first | refine s_gn rfl rfl ?_ | (refine s_gy rfl ?_; refine Q2 rfl ?_)); (first | refine s_gn rfl rfl ?_ | (refine s_gy rfl ?_; refine zl hS ?_)))
      all_goals (first | refine s_gn rfl rfl ?_ | (refine s_gy rfl ?_; (first | (refine Q12 ?_) | (refine Q18 ?_) | (refine Qx rfl rfl (fun hc => ?_) (fun hc => ?_)))))
      all_goals ((first | refine s_gn rfl rfl ?_ | (refine s_gy rfl ?_; (first | (refine zpt ?_) | (refine zpf ?_)))); (first | (refine zpt ?_) | (refine zpf ?_)); refine Q4V ?_; refine Q2f ?_)
      all_goals (first | (exact ⟨_, zh, zh, by exact ⟨fun _ => .inl (hq4.1 rfl), fun _ => rfl⟩, hS.sp⟩) | (exact ⟨_, zh, zh, by exact ⟨fun _ => .inr ⟨(by first | rfl | assumption), by omega⟩, fun _ => rfl⟩, hS.sp⟩) | (exact ⟨_, zh, zh, by exact ⟨fun h => Bool.noConfusion h, fun h => h.elim (fun h => hq4.2 h) (fun h => by obtain ⟨h1, h2⟩ := h; first | (exfalso; omega) | (simp_all; done))⟩, hS.sp⟩))
    rintro ρ w1 ⟨q5, hA, hρ, hq5, hS⟩; obtain ⟨ρ, rfl⟩ := env2 hA hρ
    refine zKL hS 11 [2, 3, 5] (fun A LL ρ' w' => ∃ (q6 : Bool), Has ρ' A ∧ Has ρ' [(73, .bool q6)] ∧ (q6 = true ↔ ((((((fA x.op = false ∧ x.a ≠ 0) ∨ (fB x.op = false ∧ x.b ≠ 0)) ∨ (fC x.op = false ∧ x.c ≠ 0)) ∨ (fK x.op = false ∧ x.k ≠ 0)) ∨ (fN x.op = false ∧ x.n ≠ 0)) ∨ (fG x.op = false ∧ 0 < x.regs.length))) ∧ St cx w' (LL)) ?_ ?_
    · skip
      all_goals (cases q5)
      all_goals (refine zm ?_; (first | refine s_gn rfl rfl ?_ | (refine s_gy rfl ?_; refine Q2 rfl ?_)); (first | refine s_gn rfl rfl ?_ | (refine s_gy rfl ?_; refine zl hS ?_)))
      all_goals (cases a6)
      all_goals ((first | refine s_gn rfl rfl ?_ | (refine s_gy rfl ?_; refine Q1w rfl ?_)); (first | refine s_gn rfl rfl ?_ | (refine s_gy rfl ?_; refine zm ?_)); (first | refine s_gn rfl rfl ?_ | (refine s_gy rfl ?_; refine Q2 rfl ?_)); (first | refine s_gn rfl rfl ?_ | (refine s_gy rfl ?_; refine zl hS ?_)); (first | refine s_gn rfl rfl ?_ | (refine s_gy rfl ?_; refine zL ?_)))
      all_goals (first | refine s_gn rfl rfl ?_ | (refine s_gy rfl ?_; (first | (refine QQ ?_) | (refine Q11 ?_) | (refine Qr rfl rfl (fun hc => ?_) (fun hc => ?_)))))
      all_goals ((first | refine s_gn rfl rfl ?_ | (refine s_gy rfl ?_; (first | (refine zpt ?_) | (refine zpf ?_)))); (first | (refine zpt ?_) | (refine zpf ?_)); refine Q4V ?_; refine Q2f ?_)
      all_goals (first | (exact ⟨_, zh, zh, by exact ⟨fun _ => .inl (hq5.1 rfl), fun _ => rfl⟩, hS.sp⟩) | (exact ⟨_, zh, zh, by exact ⟨fun _ => .inr ⟨(by first | rfl | assumption), by omega⟩, fun _ => rfl⟩, hS.sp⟩) | (exact ⟨_, zh, zh, by exact ⟨fun h => Bool.noConfusion h, fun h => h.elim (fun h => hq5.2 h) (fun h => by obtain ⟨h1, h2⟩ := h; first | (exfalso; omega) | (simp_all; done))⟩, hS.sp⟩))
    rintro ρ w1 ⟨q6, hA, hρ, hq6, hS⟩; obtain ⟨ρ, rfl⟩ := env2 hA hρ
    all_goals (cases q6)
    all_goals (refine zm ?_; (first | refine s_gn rfl rfl ?_ | (refine s_gy rfl ?_; refine Q2 rfl ?_)); (first | refine s_gn rfl rfl ?_ | (refine s_gy rfl ?_; refine zl hS ?_)))
    all_goals (cases a7)
    all_goals ((first | refine s_gn rfl rfl ?_ | (refine s_gy rfl ?_; refine Q1w rfl ?_)); (first | refine s_gn rfl rfl ?_ | (refine s_gy rfl ?_; refine zm ?_)); (first | refine s_gn rfl rfl ?_ | (refine s_gy rfl ?_; refine Q2 rfl ?_)); (first | refine s_gn rfl rfl ?_ | (refine s_gy rfl ?_; refine zl hS ?_)); (first | refine s_gn rfl rfl ?_ | (refine s_gy rfl ?_; refine zL ?_)))
    all_goals (first | refine s_gn rfl rfl ?_ | (refine s_gy rfl ?_; (first | (refine QQ ?_) | (refine Q11 ?_) | (refine Qr rfl rfl (fun hc => ?_) (fun hc => ?_)))))
    all_goals ((first | refine s_gn rfl rfl ?_ | (refine s_gy rfl ?_; (first | (refine zpt ?_) | (refine zpf ?_)))); (first | (refine zpt ?_) | (refine zpf ?_)); refine zn ?_)
    all_goals
      first
      | (refine Q4 rfl ?_ -- QD c1
         all_goals (refine Q0 ?_; refine Q1 ?_; refine zm ?_; refine zn ?_; refine zr ?_; refine zf ?_)
         all_goals (first | (refine ⟨_, rfl, ?_, hS.sp⟩; rw [if_pos (by have := of_decide_eq_false hop; omega)]; done) | (refine ⟨_, rfl, ?_, hS.sp⟩; have ho : x.odd := (by unfold Ins.odd; simp only [← or_assoc]; first | exact .inl (hq6.1 rfl) | exact .inr ⟨(by first | rfl | assumption), by omega⟩); rw [if_neg (by omega), if_pos ho]; done)))
      | (refine Q5 rfl ?_ -- QD c1
         all_goals refine zsk ?_)
    all_goals (exact ⟨zh, zh, by intro h; unfold Ins.odd at h; simp only [← or_assoc] at h; exact h.elim (fun h => Bool.noConfusion (hq6.2 h)) (fun h => by obtain ⟨h1, h2⟩ := h; first | (exfalso; omega) | (simp_all; done)), hS.sp⟩)
  rintro ρ w1 ⟨hA, hρ, hodd, hS⟩; obtain ⟨ρ, rfl⟩ := env2 hA hρ
  all_goals (refine Q0 ?_; refine Q0 ?_; clear hm hx; refine Q1 ?_; refine Q2 rfl ?_; refine zl hS ?_; refine zn ?_; refine Qh ?_; refine Q0 ?_; refine Q1 ?_)
  all_goals (first | (refine Qw ?_) | (refine Qy ?_) | (refine Qj rfl rfl (fun hc => ?_) (fun hc => ?_)))
  all_goals (refine zm ?_; refine zn ?_)
  all_goals
    first
    | (refine Q4 rfl ?_ -- QD c2
       all_goals (refine Q0 ?_; refine Q1 ?_; refine Q2 rfl ?_; refine zl hS ?_)
       all_goals (first | (refine Q26 ?_) | (refine Q27 ?_) | (refine QR rfl rfl (fun hc => ?_) (fun hc => ?_)))
       all_goals (refine zm ?_; (first | refine s_gn rfl rfl ?_ | (refine s_gy rfl ?_; refine Q2 rfl ?_)); (first | refine s_gn rfl rfl ?_ | (refine s_gy rfl ?_; refine zl hS ?_)))
       all_goals (first | refine s_gn rfl rfl ?_ | (refine s_gy rfl ?_; (first | (refine QQ ?_) | (refine Q11 ?_) | (refine Qr rfl rfl (fun hc => ?_) (fun hc => ?_)))))
       all_goals ((first | (refine zpt ?_) | (refine zpf ?_)); refine zn ?_)
       all_goals
         first
         | (refine Q4 rfl ?_ -- QD c3
            all_goals (refine Q0 ?_; refine Q1 ?_; refine zm ?_; refine zn ?_; refine zr ?_; refine zf ?_)
            all_goals (first | (refine ⟨_, rfl, ?_, hS.sp⟩; rw [if_pos (by have := of_decide_eq_false hop; omega)]; done) | (refine ⟨_, rfl, ?_, hS.sp⟩; have ho : x.odd := (by unfold Ins.odd; simp only [← or_assoc]; first | exact .inl (hq6.1 rfl) | exact .inr ⟨(by first | rfl | assumption), by omega⟩); rw [if_neg (by omega), if_pos ho]; done) | (refine ⟨_, rfl, ?_, hS.sp⟩; rw [if_neg (by omega), if_neg hodd]; unfold Q2h; (repeat (first | rw [if_pos (by omega)] | rw [if_neg (by omega)])); done)))
         | (refine Q5 rfl ?_ -- QD c3
            all_goals refine zsk ?_))
    | (refine Q5 rfl ?_ -- QD c2
       all_goals (refine Q0 ?_; refine Q1 ?_)
       all_goals (first | (refine Qw ?_) | (refine Qy ?_) | (refine Qj rfl rfl (fun hc => ?_) (fun hc => ?_)))
       all_goals (refine zm ?_; refine zn ?_)
       all_goals
         first
         | (refine Q4 rfl ?_ -- QD c4
            all_goals (refine Q0 ?_; refine Q1 ?_; refine Q2 rfl ?_; refine zl hS ?_; refine zL ?_)
            all_goals (first | (refine QQ ?_) | (refine Q11 ?_) | (refine Qr rfl rfl (fun hc => ?_) (fun hc => ?_)))
            all_goals (refine zn ?_)
            all_goals
              first
              | (refine Q4 rfl ?_ -- QD c5
                 all_goals (refine Q0 ?_; refine Q1 ?_; refine zm ?_; refine zn ?_; refine zr ?_; refine zf ?_)
                 all_goals (first | (refine ⟨_, rfl, ?_, hS.sp⟩; rw [if_pos (by have := of_decide_eq_false hop; omega)]; done) | (refine ⟨_, rfl, ?_, hS.sp⟩; have ho : x.odd := (by unfold Ins.odd; simp only [← or_assoc]; first | exact .inl (hq6.1 rfl) | exact .inr ⟨(by first | rfl | assumption), by omega⟩); rw [if_neg (by omega), if_pos ho]; done) | (refine ⟨_, rfl, ?_, hS.sp⟩; rw [if_neg (by omega), if_neg hodd]; unfold Q2h; (repeat (first | rw [if_pos (by omega)] | rw [if_neg (by omega)])); done)))
              | (refine Q5 rfl ?_ -- QD c5
                 all_goals refine zsk ?_))
         | (refine Q5 rfl ?_ -- QD c4
            all_goals (refine Q0 ?_; refine Q0 ?_; refine Q1 ?_)
            all_goals (first | (refine Qw ?_) | (refine Qy ?_) | (refine Qj rfl rfl (fun hc => ?_) (fun hc => ?_)))
            all_goals (refine zm ?_; refine zn ?_)
            all_goals
              first
              | (refine Q4 rfl ?_ -- QD c6
                 all_goals refine zsk ?_)
              | (refine Q5 rfl ?_ -- QD c6
                 all_goals (refine Q1 ?_)
                 all_goals (first | (refine Qw ?_) | (refine Qy ?_) | (refine Qj rfl rfl (fun hc => ?_) (fun hc => ?_)))
                 all_goals (refine zm ?_)
                 all_goals refine zn ?_)
            all_goals
              first
              | (refine Q4 rfl ?_ -- QD c7
                 all_goals (refine Q0 ?_; refine Q1 ?_; refine Q2 rfl ?_; refine zl hS ?_)
                 all_goals (first | (refine Q26 ?_) | (refine Q27 ?_) | (refine QR rfl rfl (fun hc => ?_) (fun hc => ?_)))
                 all_goals (refine zm ?_; (first | refine s_gn rfl rfl ?_ | (refine s_gy rfl ?_; refine Q2 rfl ?_)); (first | refine s_gn rfl rfl ?_ | (refine s_gy rfl ?_; refine zl hS ?_)))
                 all_goals (first | refine s_gn rfl rfl ?_ | (refine s_gy rfl ?_; (first | (refine QQ ?_) | (refine Q11 ?_) | (refine Qr rfl rfl (fun hc => ?_) (fun hc => ?_)))))
                 all_goals ((first | (refine zpt ?_) | (refine zpf ?_)); refine zn ?_)
                 all_goals
                   first
                   | (refine Q4 rfl ?_ -- QD c8
                      all_goals (refine Q0 ?_; refine Q1 ?_; refine zm ?_; refine zn ?_; refine zr ?_; refine zf ?_)
                      all_goals (first | (refine ⟨_, rfl, ?_, hS.sp⟩; rw [if_pos (by have := of_decide_eq_false hop; omega)]; done) | (refine ⟨_, rfl, ?_, hS.sp⟩; have ho : x.odd := (by unfold Ins.odd; simp only [← or_assoc]; first | exact .inl (hq6.1 rfl) | exact .inr ⟨(by first | rfl | assumption), by omega⟩); rw [if_neg (by omega), if_pos ho]; done) | (refine ⟨_, rfl, ?_, hS.sp⟩; rw [if_neg (by omega), if_neg hodd]; unfold Q2h; (repeat (first | rw [if_pos (by omega)] | rw [if_neg (by omega)])); done)))
                   | (refine Q5 rfl ?_ -- QD c8
                      all_goals refine zsk ?_))
              | (refine Q5 rfl ?_ -- QD c7
                 all_goals (refine Q0 ?_; refine Q1 ?_)
                 all_goals (first | (refine Qw ?_) | (refine Qy ?_) | (refine Qj rfl rfl (fun hc => ?_) (fun hc => ?_)))
                 all_goals (refine zm ?_; refine zn ?_)
                 all_goals
                   first
                   | (refine Q4 rfl ?_ -- QD c9
                      all_goals (refine Q0 ?_; refine Q0 ?_; refine Q1 ?_; refine Q2 rfl ?_; refine zl hS ?_)
                      all_goals (first | (refine Q26 ?_) | (refine Q27 ?_) | (refine QR rfl rfl (fun hc => ?_) (fun hc => ?_)))
                      all_goals (refine zm ?_; (first | refine s_gn rfl rfl ?_ | (refine s_gy rfl ?_; refine Q2 rfl ?_)); (first | refine s_gn rfl rfl ?_ | (refine s_gy rfl ?_; refine zl hS ?_)); (first | refine s_gn rfl rfl ?_ | (refine s_gy rfl ?_; refine Q2 rfl ?_)); (first | refine s_gn rfl rfl ?_ | (refine s_gy rfl ?_; refine zl hS ?_)); (first | refine s_gn rfl rfl ?_ | (refine s_gy rfl ?_; refine zL ?_)))
                      all_goals (first | refine s_gn rfl rfl ?_ | (refine s_gy rfl ?_; (first | (refine Qb5 ?_) | (refine Qb6 ?_) | (refine Q3d rfl rfl (fun hc => ?_) (fun hc => ?_)))))
                      all_goals ((first | (refine zpt ?_) | (refine zpf ?_)); refine zn ?_)
                      all_goals
                        first
                        | (refine Q4 rfl ?_ -- QD c10
                           all_goals (refine Q0 ?_; refine Q1 ?_; refine zm ?_; refine zn ?_; refine zr ?_; refine zf ?_)
                           all_goals (first | (refine ⟨_, rfl, ?_, hS.sp⟩; rw [if_pos (by have := of_decide_eq_false hop; omega)]; done) | (refine ⟨_, rfl, ?_, hS.sp⟩; have ho : x.odd := (by unfold Ins.odd; simp only [← or_assoc]; first | exact .inl (hq6.1 rfl) | exact .inr ⟨(by first | rfl | assumption), by omega⟩); rw [if_neg (by omega), if_pos ho]; done) | (refine ⟨_, rfl, ?_, hS.sp⟩; rw [if_neg (by omega), if_neg hodd]; unfold Q2h; (repeat (first | rw [if_pos (by omega)] | rw [if_neg (by omega)])); done)))
                        | (refine Q5 rfl ?_ -- QD c10
                           all_goals refine zsk ?_)
                      all_goals (refine Q0 ?_; refine Q1 ?_; refine Q2 rfl ?_; refine zl hS ?_; refine zL ?_)
                      all_goals (first | (refine QQ ?_) | (refine Q11 ?_) | (refine Qr rfl rfl (fun hc => ?_) (fun hc => ?_)))
                      all_goals (refine zm ?_; (first | refine s_gn rfl rfl ?_ | (refine s_gy rfl ?_; refine Q2 rfl ?_)); (first | refine s_gn rfl rfl ?_ | (refine s_gy rfl ?_; refine zl hS ?_)); (first | refine s_gn rfl rfl ?_ | (refine s_gy rfl ?_; refine zL ?_)))
                      all_goals (first | refine s_gn rfl rfl ?_ | (refine s_gy rfl ?_; (first | (refine QQ ?_) | (refine Q11 ?_) | (refine Qr rfl rfl (fun hc => ?_) (fun hc => ?_)))))
                      all_goals ((first | (refine zpt ?_) | (refine zpf ?_)); refine zn ?_)
                      all_goals
                        first
                        | (refine Q4 rfl ?_ -- QD c11
                           all_goals (refine Q0 ?_; refine Q1 ?_; refine zm ?_; refine zn ?_; refine zr ?_; refine zf ?_)
                           all_goals (first | (refine ⟨_, rfl, ?_, hS.sp⟩; rw [if_pos (by have := of_decide_eq_false hop; omega)]; done) | (refine ⟨_, rfl, ?_, hS.sp⟩; have ho : x.odd := (by unfold Ins.odd; simp only [← or_assoc]; first | exact .inl (hq6.1 rfl) | exact .inr ⟨(by first | rfl | assumption), by omega⟩); rw [if_neg (by omega), if_pos ho]; done) | (refine ⟨_, rfl, ?_, hS.sp⟩; rw [if_neg (by omega), if_neg hodd]; unfold Q2h; (repeat (first | rw [if_pos (by omega)] | rw [if_neg (by omega)])); done)))
                        | (refine Q5 rfl ?_ -- QD c11
                           all_goals refine zsk ?_))
                   | (refine Q5 rfl ?_ -- QD c9
                      all_goals refine zsk ?_))))
  all_goals (refine Q0 ?_; refine Q1 ?_; refine zm ?_; refine zn ?_; refine zr ?_; refine zf ?_; (first | (refine ⟨_, rfl, ?_, hS.sp⟩; rw [if_pos (by have := of_decide_eq_false hop; omega)]; done) | (refine ⟨_, rfl, ?_, hS.sp⟩; have ho : x.odd := (by unfold Ins.odd; simp only [← or_assoc]; first | exact .inl (hq6.1 rfl) | exact .inr ⟨(by first | rfl | assumption), by omega⟩); rw [if_neg (by omega), if_pos ho]; done) | (refine ⟨_, rfl, ?_, hS.sp⟩; rw [if_neg (by omega), if_neg hodd]; unfold Q2h; (repeat (first | rw [if_pos (by omega)] | rw [if_neg (by omega)])); done)))
end Go.Proofs.YtjecflbbcnocdaaGreatDoor
