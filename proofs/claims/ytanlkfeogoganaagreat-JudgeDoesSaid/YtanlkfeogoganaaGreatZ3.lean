/- Lemmas of the proof, part 3: what the functions of the program do (contracts), and what follows. -/
import Derived.Test.YtanlkfeogoganaaGreatZ2
import Derived.Test.YtanlkfeogoganaaGreatProg
import Derived.Test.YtanlkfeogoganaaGreatZ1
namespace Go.Proofs.YtanlkfeogoganaaGreat
open Go.Lir
set_option maxHeartbeats 1000000
attribute [local irreducible] LC.wp Q5 Q11 Q1c retQ Q2b LO.wp QD Calls
set_option linter.unusedSimpArgs false
set_option linter.unusedVariables false
attribute [local irreducible] hasB Q1W Q1o Q1I
variable {cx : Cx} {w : World} {L : List Res}
def Qho (hp : Nat) (h : List Bool) : Res := Res.ex fun v => star (blk hp 124 [v]) (sl 4 1 v (h.map QK))
theorem Q4E {hp : Nat} {h : List Bool} (hS : St cx w (Qho hp h :: L)) : ∃ v, St cx w (blk hp 124 [v] :: sl 4 1 v (h.map QK) :: L) := by
  obtain ⟨v, hS⟩ := St.ex hS
  exact ⟨v, hS.star⟩
theorem Q3U {hp : Nat} {h : List Bool} {v : Value} (hS : St cx w (blk hp 124 [v] :: sl 4 1 v (h.map QK) :: L)) : St cx w (Qho hp h :: L) := St.ex' v hS.star'
theorem has_u {hp : Nat} {h : List Bool} {v : Value} {r : Int} (hS : St cx w (blk hp 124 [v] :: sl 4 1 v (h.map QK) :: L)) :
    Rets Tryz.prog Q5e [.pointer (some ⟨hp, 0, none⟩), .int .i64 r] w fun u w' => u = .bool (hasB h r) ∧ St cx w' (blk hp 124 [v] :: sl 4 1 v (h.map QK) :: L) := by
  have hlen : (h.map QK).length = h.length := List.length_map _
  all_goals refine QeO ?_
  all_goals (unfold held_Held_Has_lc; refine Q0 ?_; refine Q1 ?_; refine zm ?_; refine zn ?_; refine Q0 ?_; refine Q1 ?_; refine zm ?_)
  all_goals (first | (refine Q3f ?_) | (refine Q3g ?_) | (refine Q1A rfl rfl (fun hc => ?_) (fun hc => ?_)))
  all_goals (refine zm ?_; (first | refine s_gn rfl rfl ?_ | (refine s_gy rfl ?_; refine zm ?_)); (first | refine s_gn rfl rfl ?_ | (refine s_gy rfl ?_; refine zm ?_)); (first | refine s_gn rfl rfl ?_ | (refine s_gy rfl ?_; refine Qi rfl ?_)); (first | refine s_gn rfl rfl ?_ | (refine s_gy rfl ?_; refine Q2 rfl ?_)); (first | refine s_gn rfl rfl ?_ | (refine s_gy rfl ?_; (first | (refine Q24 hS hel1 rfl nth1 (Q2c QK h false (by omega)) rfl ?_) | (refine zl hS ?_)))); (first | refine s_gn rfl rfl ?_ | (refine s_gy rfl ?_; (first | (refine zL ?_) | (refine zLe hS ?_)))))
  all_goals (first | refine s_gn rfl rfl ?_ | (refine s_gy rfl ?_; (first | (refine Q1L ?_) | (refine Q1M ?_) | (refine QE rfl rfl (fun hc => ?_) (fun hc => ?_)))))
  all_goals ((first | (refine zpt ?_) | (refine zpf ?_)); refine zm ?_; (first | refine s_gn rfl rfl ?_ | (refine s_gy rfl ?_; refine zm ?_)); (first | refine s_gn rfl rfl ?_ | (refine s_gy rfl ?_; refine Qi rfl ?_)); (first | refine s_gn rfl rfl ?_ | (refine s_gy rfl ?_; refine Q2 rfl ?_)); (first | refine s_gn rfl rfl ?_ | (refine s_gy rfl ?_; (first | (refine Q24 hS hel1 rfl nth1 (Q2c QK h false (by omega)) rfl ?_) | (refine zl hS ?_)))); (first | refine s_gn rfl rfl ?_ | (refine s_gy rfl ?_; refine zm ?_)); (first | refine s_gn rfl rfl ?_ | (refine s_gy rfl ?_; (first | ((first | refine zi ?_ | refine zj ?_); intro b1 o1 cs1 x1 hat1 hx1 he1; obtain rfl := QJ he1) | (refine zie hS ?_; intro b1 o1 hel1) | (refine zij hS ?_; intro b1 o1 hel1)))); (first | refine s_gn rfl rfl ?_ | (refine s_gy rfl ?_; (first | (refine Q24 hS hel1 rfl nth1 (Q2c QK h false (by omega)) rfl ?_) | (refine zl hS ?_) | (refine zlk hS ?_) | (refine zlj hS ?_) | (refine zli hS ?_) | (refine zlb hS ?_)))); (first | (refine zpt ?_) | (refine zpf ?_)); refine zm ?_; refine zn ?_; refine zr ?_; refine zf ?_; (first | (refine ⟨_, rfl, ?_, hS.sp⟩; unfold hasB; simp [*]; omega; done) | (refine ⟨_, rfl, ?_, hS.sp⟩; unfold hasB; simp [*]; done)))
theorem len_u {hp : Nat} {h : List Bool} {v : Value} (hS : St cx w (blk hp 124 [v] :: sl 4 1 v (h.map QK) :: L)) :
    Rets Tryz.prog Q5d [.pointer (some ⟨hp, 0, none⟩)] w fun u w' => u = .int .i64 h.length ∧ St cx w' (blk hp 124 [v] :: sl 4 1 v (h.map QK) :: L) := by
  have hlen : (h.map QK).length = h.length := List.length_map _
  all_goals refine QeL ?_
  all_goals (unfold held_Held_Len_lc; refine Q0 ?_; refine Q1 ?_; refine zm ?_; refine zn ?_; refine Q0 ?_; refine Q1 ?_; refine zm ?_; refine Qi rfl ?_; refine Q2 rfl ?_; refine zl hS ?_; (first | (refine zL ?_) | (refine zLe hS ?_)); refine zm ?_; refine zn ?_; refine zr ?_; refine zf ?_; refine ⟨_, rfl, ?_, hS.sp⟩; (rfl); done)
theorem list_u {hp : Nat} {h : List Bool} {v : Value} (hl : h.length ≤ 16) (hS : St cx w (blk hp 124 [v] :: sl 4 1 v (h.map QK) :: L)) :
    Rets Tryz.prog Q4r [.pointer (some ⟨hp, 0, none⟩)] w fun u w' => ∃ c', cx.Le c' ∧ intR.sl c' u (Q1W h) ∧ St c' w' (blk hp 124 [v] :: sl 4 1 v (h.map QK) :: L) := by
  have hlen : (h.map QK).length = h.length := List.length_map _
  all_goals refine QbX ?_
  all_goals (unfold held_Held_List_lc; refine Q0 ?_; refine Q1 ?_; refine zm ?_; refine zn ?_; refine Q0 ?_; refine Q1 ?_; refine zm ?_; refine zn ?_; refine Q0 ?_; refine Q0 ?_; refine Q1 ?_; refine zm ?_; refine Qi rfl ?_; refine Q2 rfl ?_; (first | (refine Q24 hS (by assumption) rfl nth2 (Q2c QK h false (by omega)) rfl ?_) | (refine zl hS ?_)); (first | (refine zL ?_) | (refine zLe hS ?_)); refine zm ?_; refine zn ?_; refine Qa ?_; have hS := St.nil (T := 3) (es := 1) hS)
  refine zo [9, 10] (fun A ρ' w' => ∃ (j : Nat) (vo : Value) (co : List (List Value)), Has ρ' A ∧ Has ρ' [(11, .int .i64 j), (3, vo)] ∧ (j ≤ h.length) ∧ (intR.ls cx co (Q1I h j)) ∧ St cx w' (sl 3 1 vo co :: blk hp 124 [v] :: sl 4 1 v (h.map QK) :: L)) (fun ρ' _ => (h.length - iv (ρ' 11)).toNat) ?_ ?_
  · exact ⟨0, _, [], zh, zh, (by omega), by unfold Q1I; exact Rep.LR.nil _ _ _, hS.sp⟩
  rintro ρ w1 ⟨j, vo, co, hA, hρ, hj, hls, hS⟩; obtain ⟨ρ, rfl⟩ := env2 hA hρ; have hll := Qc0 h j; have hsu := Q5f h j
  unfold Q4G
  all_goals (refine Q0 ?_; refine Q1 ?_; refine Qx rfl rfl ?_; refine zn ?_; refine Q0 ?_)
  refine Qo rfl (fun hc => ?_) (fun hc => ?_)
  · skip
    all_goals (refine zsk ?_; refine Q0 ?_; refine Qa ?_; refine Q0 ?_; refine Q1 ?_; refine zm ?_; (first | ((first | refine zi ?_ | refine zj ?_); intro b1 o1 cs1 x1 hat1 hx1 he1; obtain rfl := QJ he1) | (refine zie hS ?_; intro b1 o1 hel1)); (first | (refine Q24 hS (by assumption) rfl nth2 (Q2c QK h false (by omega)) rfl ?_) | (refine zl hS ?_) | (refine zlk hS ?_) | (refine zlj hS ?_) | (refine zli hS ?_) | (refine zlb hS ?_)); refine zm ?_; refine zm ?_; refine zn ?_; refine Q0 ?_; refine Q1 ?_; refine zm ?_; refine zn ?_)
    refine QgU rfl (fun hc => ?_) (fun hc => ?_)
    · skip
      all_goals (refine Q1 ?_; refine zm ?_; refine zm ?_; refine zB1 hS [_] ?_; intro b1 w1 hS; refine za Qeu Qrx hS ?_; intro vp1 w1 css1 hls1 hv1 hS; have hS := hS.ns; refine zm ?_; refine zn ?_; refine Q1 ?_; refine zad ?_; refine zm ?_; refine zn ?_; exact ⟨⟨j + 1, _, _, zh, zh, (by omega), by rw [hsu, if_pos (by assumption)]; exact hls1, hS.sp⟩, Qr (by omega)⟩)
    · skip
      all_goals (refine zsk ?_; refine Q1 ?_; refine zad ?_; refine zm ?_; refine zn ?_; (first | (exact ⟨⟨j + 1, _, _, zh, zh, (by omega), by rw [hsu, if_pos (by assumption)]; exact hls1, hS.sp⟩, Qr (by omega)⟩) | (exact ⟨⟨j + 1, _, _, zh, zh, (by omega), by rw [hsu, if_neg (by rw [hc]; decide), List.append_nil]; exact hls, hS.sp⟩, Qr (by omega)⟩)))
  · skip
    all_goals (refine zex ?_; refine Q0 ?_; refine Q1 ?_; refine zm ?_; refine zm ?_; refine zn ?_; refine zr ?_; refine zf ?_; refine ⟨_, rfl, ?_⟩; obtain ⟨c', hle, hS', hk⟩ := St.freezeL (r := intR) hS hls rfl (by omega); refine ⟨c', hle, ?_, hS'⟩; rw [show j = h.length by omega] at hk; unfold Q1W; exact hk)
theorem open_u {hp : Nat} {h : List Bool} {v : Value} (hl : h.length < 16) (hS : St cx w (blk hp 124 [v] :: sl 4 1 v (h.map QK) :: L)) :
    Rets Tryz.prog Q4q [.pointer (some ⟨hp, 0, none⟩)] w fun u w' => u = .int .i64 h.length ∧ ∃ v', St cx w' (blk hp 124 [v'] :: sl 4 1 v' ((h ++ [true]).map QK) :: L) := by
  have hlen : (h.map QK).length = h.length := List.length_map _
  all_goals refine QbN ?_
  all_goals (unfold held_Held_Open_lc; refine Q0 ?_; refine Q1 ?_; refine zm ?_; refine zn ?_; refine Q0 ?_; refine Q0 ?_; refine Q1 ?_; refine zm ?_; refine Qi rfl ?_; refine Q2 rfl ?_; refine zl hS ?_; (first | (refine zL ?_) | (refine zLe hS ?_)))
  all_goals (first | (refine Qv ?_) | (refine QB ?_))
  all_goals (refine zn ?_)
  all_goals refine Q4 rfl ?_
  all_goals (refine zsk ?_; refine Q0 ?_; refine Q1 ?_; refine zm ?_; refine zm ?_; refine Qi rfl ?_; refine Q2 rfl ?_; refine zl hS ?_; refine zB1 hS [_] ?_; intro b1 w1 hS; refine Qme Qq9 (.inl u_T70) hS vw vw fd (hS.srcB1 fd rfl) (by simp; omega) ?_; intro vp w2 hS; have hS := hS.ns; rw [show h.map QK ++ [[Value.bool true]] = (h ++ [true]).map QK by simp [QK]] at hS; refine Qi rfl ?_; refine Q2 rfl ?_; refine zst hS ?_; intro w1 hS; have hS := hS.ns; refine zn ?_; refine Q0 ?_; have hlen1 : (h ++ [true]).length = h.length + 1 := (by simp); refine Q1 ?_; refine zm ?_; refine Qi rfl ?_; refine Q2 rfl ?_; refine zl hS ?_; (first | (refine zL ?_) | (refine zLe hS ?_)); refine zsu ?_)
  all_goals (refine zm ?_; refine zn ?_; refine zr ?_; refine zf ?_; exact ⟨_, rfl, (by congr 1; omega), _, hS.sp⟩)
theorem shut_u {hp : Nat} {h : List Bool} {v : Value} {r : Int} (hr : hasB h r = true) (hS : St cx w (blk hp 124 [v] :: sl 4 1 v (h.map QK) :: L)) :
    Rets Tryz.prog Q4p [.pointer (some ⟨hp, 0, none⟩), .int .i64 r] w fun u w' => u = .bool true ∧ St cx w' (blk hp 124 [v] :: sl 4 1 v ((h.set r.toNat false).map QK) :: L) := by
  have hlen : (h.map QK).length = h.length := List.length_map _
  have hr' := Q6t hr
  all_goals refine Qbw ?_
  all_goals (unfold held_Held_Shut_lc; refine Q0 ?_; refine Q1 ?_; refine zm ?_; refine zn ?_; refine Q0 ?_; refine Q1 ?_; refine zm ?_; refine zm ?_; refine Qel rfl (has_u hS) ?_; rintro v1 w1 ⟨rfl, hS⟩; rw [hr]; refine zm ?_; refine zn ?_; refine Q0 ?_; refine Q0 ?_; refine Q1 ?_; refine zm ?_; refine zn ?_)
  all_goals refine Q3 rfl ?_
  all_goals (refine Q1 ?_; refine zm ?_; refine Qi rfl ?_; refine Q2 rfl ?_; refine zl hS ?_; refine zm ?_; (first | ((first | refine zi ?_ | refine zj ?_); intro b1 o1 cs1 x1 hat1 hx1 he1; obtain rfl := QJ he1) | (refine zie hS ?_; intro b1 o1 hel1) | (refine zij hS ?_; intro b1 o1 hel1)); (first | (refine Qg8 hS hel1 rfl vw nth1 (Q2c QK h false (by omega)) rfl rfl ?_; intro w2 hS; have hS := hS.ns; rw [show (QK (h.getD r.toNat false)).set 0 (Value.bool false) = QK false from rfl, map_set] at hS) | (refine zst hS ?_; intro w1 hS; have hS := hS.ns) | (refine zsi hS ?_; intro w1 hS; have hS := hS.ns) | (refine zsb hS ?_; intro w1 hS; have hS := hS.ns)); refine zn ?_; refine Q0 ?_; refine Q1 ?_; refine zm ?_; refine zm ?_; refine zn ?_; refine zr ?_; refine zf ?_; refine ⟨_, rfl, ?_, hS.sp⟩; (rfl); done)
theorem pass_u {hp : Nat} {h : List Bool} {v v2 : Value} {xs : List Int} (hl : h.length ≤ 16) (hx : intR.sl cx v2 xs) (hS : St cx w (blk hp 124 [v] :: sl 4 1 v (h.map QK) :: L)) :
    Rets Tryz.prog Q2C [.pointer (some ⟨hp, 0, none⟩), v2] w fun u w' => u = .int .i64 (Q1o h [] xs) ∧ ∃ c', cx.Le c' ∧ St c' w' (blk hp 124 [v] :: sl 4 1 v (h.map QK) :: L) := by
  have hlen : (h.map QK).length = h.length := List.length_map _
  have hxl := hx.len
  all_goals refine QbH ?_
  all_goals (unfold held_Held_Pass_lc; refine Q0 ?_; refine Q1 ?_; refine zm ?_; refine zn ?_; refine Q0 ?_; refine Q1 ?_; refine zm ?_; refine Qi rfl ?_; refine Q2 rfl ?_; (first | (refine Q24 hS hel2 rfl fd hgetS rfl ?_) | (refine zl hS ?_)); (first | (refine zL ?_) | (refine zLe hS ?_)); refine s_makeE Qq9 hS rfl rfl (by omega) (by omega) ?_; intro v5 w1 hS; rw [Int.toNat_natCast] at hS; refine zm ?_; refine zn ?_; refine Q0 ?_; refine Q0 ?_; have hS : St cx _ (sl 4 1 v5 ((Q7y h []).map QK) :: blk hp 124 [v] :: sl 4 1 v (h.map QK) :: L) := (by rw [Qug, List.map_replicate]; exact hS); refine Q1 ?_; refine zm ?_; refine zL ?_; refine zm ?_; refine zn ?_; refine Qa ?_)
  refine zo [0, 1, 5, 14, 15] (fun A ρ' w' => ∃ (j : Nat), Has ρ' A ∧ Has ρ' [(16, .int .i64 j)] ∧ (j ≤ xs.length) ∧ (Q1o h [] xs = Q1o h (xs.take j) (xs.drop j)) ∧ St cx w' (sl 4 1 v5 ((Q7y h (xs.take j)).map QK) :: blk hp 124 [v] :: sl 4 1 v (h.map QK) :: L)) (fun ρ' _ => (xs.length - iv (ρ' 16)).toNat) ?_ ?_
  · exact ⟨0, zh, zh, (by omega), by rfl, hS.sp⟩
  rintro ρ w1 ⟨j, hA, hρ, hj, hgo, hS⟩; obtain ⟨ρ, rfl⟩ := env2 hA hρ; have hln := Quh h (xs.take j); have hlm : ((Q7y h (xs.take j)).map QK).length = h.length := (by rw [List.length_map, hln])
  unfold Q4F
  all_goals (refine Q0 ?_; refine Q1 ?_; refine Qx rfl rfl ?_; refine zn ?_; refine Q0 ?_)
  refine Qo rfl (fun hc => ?_) (fun hc => ?_)
  · skip
    all_goals (refine zsk ?_; refine Q0 ?_; refine Qa ?_; refine Q0 ?_; refine Q1 ?_; refine zi ?_; intro b1 o1 cs1 x1 hat1 hx1 he1; obtain rfl := QJ he1; (first | (refine Q24 hS hel2 rfl fd hgetS rfl ?_) | (refine zl hS ?_) | (refine zlk hS ?_)); refine zm ?_; refine zn ?_; refine Q0 ?_; refine Q0 ?_; rw [Q7 hx1, Q1o] at hgo; refine Q1 ?_; refine zm ?_; refine zm ?_; refine Qel rfl (has_u (L := sl 4 1 v5 ((Q7y h (xs.take j)).map QK) :: L) hS.sp) ?_; rintro v1 w1 ⟨rfl, hS⟩; refine Q1O rfl ?_; refine zn ?_)
    refine QgU rfl (fun hc => ?_) (fun hc => ?_)
    · skip
      all_goals (refine Q0 ?_; refine Q1 ?_; refine zm ?_; refine zn ?_; refine zr ?_; refine zf ?_; exact ⟨_, rfl, (by rw [hgo, if_neg (by simpa using hc)]), cx, St.refl hS, hS.sp⟩)
    · skip
      all_goals (have hc1 : hasB h x1 = true := (by simpa using hc); have hr := Q6t hc1; rw [if_pos hc1] at hgo; have hsg : (Q7y h (xs.take j)).getD x1.toNat false = decide (x1 ∈ xs.take j) := Qui (by omega) (by omega); have hgetS := Q2c QK (Q7y h (xs.take j)) false (m := x1.toNat) (by omega); refine zsk ?_; refine Q0 ?_; refine Q0 ?_; refine Q1 ?_; refine zm ?_; refine zm ?_; (first | ((first | refine zi ?_ | refine zj ?_); intro b2 o2 cs2 x2 hat2 hx2 he2; obtain rfl := QJ he2) | (refine zie hS ?_; intro b2 o2 hel2) | (refine zij hS ?_; intro b2 o2 hel2)); (first | (refine Q24 hS hel2 rfl fd hgetS rfl ?_) | (refine zl hS ?_) | (refine zlk hS ?_) | (refine zlj hS ?_) | (refine zli hS ?_) | (refine zlb hS ?_)); refine zn ?_)
      refine QgU rfl (fun hc => ?_) (fun hc => ?_)
      · skip
        all_goals (have hc2 : x1 ∈ xs.take j := (by rw [hsg] at hc; exact of_decide_eq_true hc); rw [if_pos hc2] at hgo; refine Q0 ?_; refine Q1 ?_; refine zm ?_; refine zn ?_; refine zr ?_; refine zf ?_; (first | (exact ⟨_, rfl, (by rw [hgo, if_neg (by simpa using hc)]), cx, St.refl hS, hS.sp⟩) | (exact ⟨_, rfl, hgo ▸ rfl, cx, St.refl hS, hS.sp⟩)))
      · skip
        all_goals (have hc2 : x1 ∉ xs.take j := (by rw [hsg] at hc; exact of_decide_eq_false hc); rw [if_neg hc2] at hgo; refine zsk ?_; refine Q1 ?_; refine zm ?_; refine zm ?_; (first | ((first | refine zi ?_ | refine zj ?_); intro b3 o3 cs3 x3 hat3 hx3 he3; obtain rfl := QJ he3) | (refine zie hS ?_; intro b3 o3 hel3) | (refine zij hS ?_; intro b3 o3 hel3)); (first | (refine zst hS ?_; intro w1 hS; have hS := hS.ns) | (refine zsi hS ?_; intro w1 hS; have hS := hS.ns) | (refine zsb hS ?_; intro w1 hS; have hS := hS.ns)); refine zn ?_; refine Q1 ?_; refine zad ?_; refine zm ?_; refine zn ?_; exact ⟨⟨j + 1, zh, zh, (by omega), by rw [hgo, Q1E hx1], by rw [Q1E hx1, ← Quf hr.1]; exact hS.sp⟩, Qr (by omega)⟩)
  · skip
    all_goals (refine zex ?_; refine Q0 ?_; refine Q0 ?_; have hie : j = xs.length := (by omega); subst hie; rw [List.take_length, List.drop_length, Q1o] at hgo; refine Q1 ?_; refine zm ?_; refine zL ?_; refine zm ?_; refine Qel rfl (list_u (L := L) hl hS.sp) ?_; rintro v5 w5 ⟨c5, hle5, hk5, hS⟩; refine zL ?_)
    all_goals (first | (refine Q1L ?_) | (refine Q1M ?_) | (refine QE rfl rfl (fun hc => ?_) (fun hc => ?_)))
    all_goals (refine zn ?_)
    all_goals
      first
      | (refine Q3 rfl ?_ -- Q2C c3
         all_goals (refine Q0 ?_; refine Q1 ?_; refine zm ?_; refine zn ?_; refine zr ?_; refine zf ?_)
         all_goals (first | (exact ⟨_, rfl, (by rw [hgo, if_neg (by simpa using hc)]), cx, St.refl hS, hS.sp⟩) | (exact ⟨_, rfl, hgo ▸ rfl, cx, St.refl hS, hS.sp⟩) | (exact ⟨_, rfl, (by rw [hgo, if_pos (by omega)]), c5, hle5, hS.sp⟩)))
      | (refine Q4 rfl ?_ -- Q2C c3
         all_goals refine zsk ?_)
    all_goals (refine Q0 ?_; refine Q1 ?_; refine zm ?_; refine zn ?_; refine zr ?_; refine zf ?_; (first | (exact ⟨_, rfl, (by rw [hgo, if_neg (by simpa using hc)]), cx, St.refl hS, hS.sp⟩) | (exact ⟨_, rfl, hgo ▸ rfl, cx, St.refl hS, hS.sp⟩) | (exact ⟨_, rfl, (by rw [hgo, if_pos (by omega)]), c5, hle5, hS.sp⟩) | (exact ⟨_, rfl, (by rw [hgo, if_neg (by omega)]), c5, hle5, hS.sp⟩)))
theorem new_u {n : Int} (hS : St cx w L) : Rets Tryz.prog Qtk [.int .i64 n] w fun u w' => ∃ hp v, u = .pointer (some ⟨hp, 0, none⟩) ∧ St cx w' (blk hp 124 [v] :: sl 4 1 v ((List.replicate (min n 16).toNat true).map QK) :: L) := by
  all_goals refine Qs5 ?_
  all_goals (unfold held_New_lc; refine Q0 ?_; refine Q1 ?_; refine zm ?_; refine zn ?_; refine Q0 ?_; refine Q1 ?_; refine zb0 [_] ?_; refine zb hS ?_; intro p5 w1 hS; refine zm ?_; refine zn ?_; refine Q0 ?_; refine Q0 ?_; refine Q1 ?_; refine zm ?_; refine s_min rfl rfl ?_; refine zm ?_; refine zn ?_; refine Qa ?_; have hS := St.nil (T := 4) (es := 1) hS)
  refine zo [3, 7] (fun A ρ' w' => ∃ (j : Nat) (v : Value), Has ρ' A ∧ Has ρ' [(8, .int .i64 j)] ∧ (j ≤ (min n 16).toNat) ∧ St cx w' (sl 4 1 v ((List.replicate j true).map QK) :: blk p5 124 [v] :: L)) (fun ρ' _ => (min n 16 - iv (ρ' 8)).toNat) ?_ ?_
  · exact ⟨0, _, zh, zh, (by omega), hS.sp⟩
  rintro ρ w1 ⟨j, v, hA, hρ, hj, hS⟩; obtain ⟨ρ, rfl⟩ := env2 hA hρ
  unfold Qhm
  all_goals (refine Q0 ?_; refine Q1 ?_; refine Qx rfl rfl ?_; refine zn ?_; refine Q0 ?_)
  refine Qo rfl (fun hc => ?_) (fun hc => ?_)
  · skip
    all_goals (refine zsk ?_; refine Q0 ?_; refine Qa ?_; refine Q1 ?_; refine zm ?_; refine zm ?_; refine Qi rfl ?_; refine Q2 rfl ?_; refine zl hS ?_; refine zB1 hS [_] ?_; intro b1 w1 hS; refine Qme Qq9 (.inl u_T70) hS vw vw fd (hS.srcB1 fd rfl) (by simp; omega) ?_; intro vp w2 hS; have hS := hS.ns; rw [show (List.replicate j true).map QK ++ [[Value.bool true]] = (List.replicate (j + 1) true).map QK by rw [List.replicate_succ', List.map_append]; rfl] at hS; refine Qi rfl ?_; refine Q2 rfl ?_; refine zst hS ?_; intro w1 hS; have hS := hS.ns; refine zn ?_; refine Q1 ?_; refine zad ?_; refine zm ?_; refine zn ?_; exact ⟨⟨j + 1, _, zh, zh, (by omega), hS.sp⟩, Qr (by omega)⟩)
  · skip
    all_goals (refine zex ?_; refine Q0 ?_; refine Q1 ?_; refine zm ?_; refine zm ?_; refine zn ?_; refine zr ?_; refine zf ?_; exact ⟨_, rfl, _, v, rfl, (by rw [show (min n 16).toNat = j by omega]; exact hS.sp)⟩)
end Go.Proofs.YtanlkfeogoganaaGreat
namespace Go.Proofs.YtanlkfeogoganaaGreat
open Go.Lir
set_option maxRecDepth 100000

/- 7 -/
def QfT : List GO := [qb 1 24 0, qk 2 (.bool false)]
def QfS : List GO := [qf 8 1 0, ql 9 8, qL 10 9, qj 11 .gtr 3 10 20]
def QfR : List GO := [qk 2 (.bool true)]
def QfQ : List GO := [qk 3 (vi 0)]
def QfP : List GO := [qm 12 3, qf 13 1 0, ql 14 13, qL 15 14, qt 16 .lss 3 12 15]
def QfO : List GO := [qf 19 1 0, ql 20 19, qm 21 3, qi 22 4 20 21, qV 23 4 22, ⟨none, .alloc 4 53 [(vi 0), vn, vn, vn]⟩, qw 4 4 23]
def QfN : List GO := [qf 24 4 3, ql 25 24, qL 26 25, qj 27 .gtr 3 26 30, qm 28 27, qg 28 false (qf 29 4 1), qg 28 false (ql 30 29), ⟨some (28, false), .call (some 31) 37 [(.tmp 30)]⟩, ⟨none, .pick 32 (.tmp 28) (.const (.bool true)) (.tmp 31)⟩, qm 33 32, qg 33 false (qf 34 4 2), qg 33 false (ql 35 34), ⟨some (33, false), .call (some 36) 37 [(.tmp 35)]⟩, ⟨none, .pick 37 (.tmp 33) (.const (.bool true)) (.tmp 36)⟩]
def QfM : List GO := [qk 2 (.bool true)]
def QfL : List GO := [qk 5 (vi 0)]
def QfK : List GO := [qm 38 5, qf 39 4 3, ql 40 39, qL 41 40, qt 42 .lss 3 38 41]
def QdY : List GO := [qf 45 4 3, ql 46 45, qm 47 5, qi 48 12 46 47, qV 49 12 48, ⟨none, .alloc 6 79 [(vi 0), vn, vn, (vi 0), (vi 0), (vi 0), vn, vn, (vi 0), vn, vn, vn]⟩, qw 12 6 49]
def QdX : List GO := [qf 50 6 2, ql 51 50, qL 52 51, qj 53 .gtr 3 52 200, qm 54 53, qg 54 false (qf 55 6 1), qg 54 false (ql 56 55), ⟨some (54, false), .call (some 57) 37 [(.tmp 56)]⟩, ⟨none, .pick 58 (.tmp 54) (.const (.bool true)) (.tmp 57)⟩, qm 59 58, qg 59 false (qf 60 6 3), qg 59 false (qf 61 60 8), qg 59 false (ql 62 61), qg 59 false (qL 63 62), qg 59 false (qj 64 .gtr 3 63 300), ⟨none, .pick 65 (.tmp 59) (.const (.bool true)) (.tmp 64)⟩, qm 66 65, qg 66 false (qf 67 6 3), qg 66 false (qf 68 67 2), qg 66 false (qf 69 68 1), qg 66 false (ql 70 69), qg 66 false (qL 71 70), qg 66 false (qj 72 .gtr 3 71 300), ⟨none, .pick 73 (.tmp 66) (.const (.bool true)) (.tmp 72)⟩, qm 74 73, qg 74 false (qf 75 6 3), qg 74 false (qf 76 75 2), qg 74 false (qf 77 76 2), qg 74 false (ql 78 77), qg 74 false (qL 79 78), qg 74 false (qj 80 .gtr 3 79 300), ⟨none, .pick 81 (.tmp 74) (.const (.bool true)) (.tmp 80)⟩, qm 82 81, qg 82 false (qf 83 6 3), qg 82 false (qf 84 83 5), qg 82 false (qf 85 84 1), qg 82 false (ql 86 85), qg 82 false (qL 87 86), qg 82 false (qj 88 .gtr 3 87 300), ⟨none, .pick 89 (.tmp 82) (.const (.bool true)) (.tmp 88)⟩, qm 90 89, qg 90 false (qf 91 6 3), qg 90 false (qf 92 91 5), qg 90 false (qf 93 92 2), qg 90 false (ql 94 93), qg 90 false (qL 95 94), qg 90 false (qj 96 .gtr 3 95 300), ⟨none, .pick 97 (.tmp 90) (.const (.bool true)) (.tmp 96)⟩]
def QdW : List GO := [qk 2 (.bool true)]
def QdV : List GO := [qk 7 (vi 0)]
def QdU : List GO := [qm 98 7, qf 99 6 2, ql 100 99, qL 101 100, qt 102 .lss 3 98 101]
def QdT : List GO := [qf 105 6 2, ql 106 105, qm 107 7, qi 108 8 106 107, qf 109 108 6, ql 110 109, qL 111 110, qj 112 .gtr 3 111 300, qm 113 112, qg 113 false (qf 114 6 2), qg 113 false (ql 115 114), qg 113 false (qm 116 7), qg 113 false (qi 117 8 115 116), qg 113 false (qf 118 117 7), qg 113 false (ql 119 118), qg 113 false (qL 120 119), qg 113 false (qj 121 .gtr 3 120 300), ⟨none, .pick 122 (.tmp 113) (.const (.bool true)) (.tmp 121)⟩]
def QdS : List GO := [qk 2 (.bool true)]
def QdR : List GO := [qm 103 7, qj 104 .add 3 103 1, qm 7 104]
def Q4N : LC := (.seq (.seq (.ops QdU) (.cond (.tmp 102) .skip (.exit 4))) (.seq (.block 5 (.seq (.ops QdT) (.cond (.tmp 122) (.seq (.ops QdS) .ret) .skip))) (.ops QdR)))
def QdQ : List GO := [qm 43 5, qj 44 .add 3 43 1, qm 5 44]
def Q5v : LC := (.seq (.seq (.ops QfK) (.cond (.tmp 42) .skip (.exit 2))) (.seq (.block 3 (.seq (.ops QdY) (.seq (.seq (.ops QdX) (.cond (.tmp 97) (.seq (.ops QdW) .ret) .skip)) (.seq (.ops QdV) (.block 4 (.loop Q4N)))))) (.ops QdQ)))
def QdP : List GO := [qm 17 3, qj 18 .add 3 17 1, qm 3 18]
def Q5w : LC := (.seq (.seq (.ops QfP) (.cond (.tmp 16) .skip (.exit 0))) (.seq (.block 1 (.seq (.ops QfO) (.seq (.seq (.ops QfN) (.cond (.tmp 37) (.seq (.ops QfM) .ret) .skip)) (.seq (.ops QfL) (.block 2 (.loop Q5v)))))) (.ops QdP)))
def QdO : List GO := [qk 2 (.bool false)]
def R_GreatModule_lc : LC := (.seq (.ops QfT) (.seq (.seq (.ops QfS) (.cond (.tmp 11) (.seq (.ops QfR) .ret) .skip)) (.seq (.seq (.ops QfQ) (.block 0 (.loop Q5w))) (.seq (.ops QdO) .ret))))
@[reducible] def Q1i : FuncId := 7
theorem QdZ : lowF Tryz.prog Tryz.f7 = some R_GreatModule_lc := by kernel_rfl
theorem QfU {a0 : Value} {w : World} {R : Ending → World → Prop} (h : R_GreatModule_lc.wp Tryz.prog (retQ Tryz.prog [.tmp 2] R) (Ql [a0]) w) : Calls Tryz.prog Q1i ⟨[a0]⟩ w R :=
  Q6 Tryz.func7 QdZ (by kernel_rfl) (by kernel_rfl) h

/- 68 -/
def Qss : List GO := [qb 2 24 0, qb 3 57 1, qk 4 (vi 0)]
def Qsr : List GO := [qV 6 1 2, ⟨none, .build 7 [vn, (vi 0), (vi 0), (vi 0)] [(0, (1, (.tmp 6)))]⟩, qb 8 134 7, qm 5 8]
def Qsq : List GO := [qm 9 5, qV 10 8 3, ⟨none, .call (some 11) 117 [(.tmp 9), (.tmp 10)]⟩]
def Qsp : List GO := [qm 12 5, qn 13 12, qf 14 13 1, qf 15 14 0, ql 16 15, qm 4 16]
def code_Ins_lc : LC := (.seq (.ops Qss) (.seq (.ops Qsr) (.seq (.ops Qsq) (.seq (.ops Qsp) .ret))))
@[reducible] def Qtr : FuncId := 68
theorem Qqu : lowF Tryz.prog Tryz.f68 = some code_Ins_lc := by kernel_rfl
theorem Qst {a0 a1 : Value} {w : World} {R : Ending → World → Prop} (h : code_Ins_lc.wp Tryz.prog (retQ Tryz.prog [.tmp 4] R) (Ql [a0, a1]) w) : Calls Tryz.prog Qtr ⟨[a0, a1]⟩ w R :=
  Q6 Tryz.func68 Qqu (by kernel_rfl) (by kernel_rfl) h

/- 72 -/
def Qr4 : List GO := [qb 2 24 0, qb 3 57 1, qk 4 (vi 0)]
def Qr3 : List GO := [qf 8 3 0, ql 9 8, ⟨none, .call (some 10) 99 [(.tmp 9)]⟩, qm 7 10, qx 11 7 0, qx 12 7 1, ⟨none, .alloc 5 144 [(.bool false), (.bool false), (.bool false), (.bool false), (.bool false), (.bool false), (.bool false)]⟩, qw 7 5 11, qm 6 12]
def Qr2 : List GO := [qm 13 6, ⟨none, .un 14 .not (.tmp 13)⟩]
def Qr1 : List GO := [qk 4 (vi 3)]
def Qr0 : List GO := [qf 15 5 0, ql 16 15, ⟨none, .un 17 .not (.tmp 16)⟩, qm 18 17, qg 18 true (qf 19 3 1), qg 18 true (ql 20 19), qg 18 true (qj 21 .neq 3 20 0), ⟨none, .pick 22 (.tmp 18) (.tmp 21) (.const (.bool false))⟩, qm 23 22, qg 23 false (qf 24 5 1), qg 23 false (ql 25 24), ⟨some (23, false), .un 26 .not (.tmp 25)⟩, qg 23 false (qm 27 26), qg 27 true (qf 28 3 2), qg 27 true (ql 29 28), qg 27 true (qj 30 .neq 3 29 0), ⟨some (23, false), .pick 31 (.tmp 27) (.tmp 30) (.const (.bool false))⟩, ⟨none, .pick 32 (.tmp 23) (.const (.bool true)) (.tmp 31)⟩, qm 33 32, qg 33 false (qf 34 5 2), qg 33 false (ql 35 34), ⟨some (33, false), .un 36 .not (.tmp 35)⟩, qg 33 false (qm 37 36), qg 37 true (qf 38 3 3), qg 37 true (ql 39 38), qg 37 true (qj 40 .neq 3 39 0), ⟨some (33, false), .pick 41 (.tmp 37) (.tmp 40) (.const (.bool false))⟩, ⟨none, .pick 42 (.tmp 33) (.const (.bool true)) (.tmp 41)⟩, qm 43 42, qg 43 false (qf 44 5 3), qg 43 false (ql 45 44), ⟨some (43, false), .un 46 .not (.tmp 45)⟩, qg 43 false (qm 47 46), qg 47 true (qf 48 3 4), qg 47 true (ql 49 48), qg 47 true (qj 50 .neq 3 49 0), ⟨some (43, false), .pick 51 (.tmp 47) (.tmp 50) (.const (.bool false))⟩, ⟨none, .pick 52 (.tmp 43) (.const (.bool true)) (.tmp 51)⟩, qm 53 52, qg 53 false (qf 54 5 4), qg 53 false (ql 55 54), ⟨some (53, false), .un 56 .not (.tmp 55)⟩, qg 53 false (qm 57 56), qg 57 true (qf 58 3 5), qg 57 true (ql 59 58), qg 57 true (qj 60 .neq 2 59 0), ⟨some (53, false), .pick 61 (.tmp 57) (.tmp 60) (.const (.bool false))⟩, ⟨none, .pick 62 (.tmp 53) (.const (.bool true)) (.tmp 61)⟩, qm 63 62, qg 63 false (qf 64 5 5), qg 63 false (ql 65 64), ⟨some (63, false), .un 66 .not (.tmp 65)⟩, qg 63 false (qm 67 66), qg 67 true (qf 68 3 6), qg 67 true (ql 69 68), qg 67 true (qL 70 69), qg 67 true (qj 71 .gtr 3 70 0), ⟨some (63, false), .pick 72 (.tmp 67) (.tmp 71) (.const (.bool false))⟩, ⟨none, .pick 73 (.tmp 63) (.const (.bool true)) (.tmp 72)⟩, qm 74 73, qg 74 false (qf 75 5 6), qg 74 false (ql 76 75), ⟨some (74, false), .un 77 .not (.tmp 76)⟩, qg 74 false (qm 78 77), qg 78 true (qf 79 3 7), qg 78 true (ql 80 79), qg 78 true (qL 81 80), qg 78 true (qj 82 .gtr 3 81 0), ⟨some (74, false), .pick 83 (.tmp 78) (.tmp 82) (.const (.bool false))⟩, ⟨none, .pick 84 (.tmp 74) (.const (.bool true)) (.tmp 83)⟩]
def QqZ : List GO := [qk 4 (vi 4)]
def QqY : List GO := [qf 85 3 0, ql 86 85]
def QqX : List GO := [qj 88 .eql 3 86 2, qm 87 88]
def QqW : List GO := [qf 89 3 4, ql 90 89, qj 91 .lss 3 90 1, qm 92 91, qg 92 false (qf 93 3 4), qg 92 false (ql 94 93), qg 92 false (qj 95 .gtr 3 94 9), ⟨none, .pick 96 (.tmp 92) (.const (.bool true)) (.tmp 95)⟩]
def QqV : List GO := [qk 4 (vi 1)]
def QoV : List GO := [qj 98 .eql 3 86 5, qm 97 98]
def QoU : List GO := [qf 99 3 7, ql 100 99, qL 101 100, qj 102 .gtr 3 101 8]
def QoT : List GO := [qk 4 (vi 2)]
def QoS : List GO := [qj 104 .eql 3 86 6, qm 103 104]
def QoR : List GO := [qj 105 .eql 3 86 7, qm 103 105]
def QoQ : List GO := [qf 106 3 4, ql 107 106, qj 108 .lss 3 107 0, qm 109 108, qg 109 false (qf 110 3 4), qg 109 false (ql 111 110), qg 109 false (qj 112 .gtr 3 111 7), ⟨none, .pick 113 (.tmp 109) (.const (.bool true)) (.tmp 112)⟩]
def QoP : List GO := [qk 4 (vi 1)]
def QoO : List GO := [qj 115 .eql 3 86 14, qm 114 115]
def QoN : List GO := [qf 116 3 4, ql 117 116, qj 118 .lss 3 117 0, qm 119 118, qg 119 false (qf 120 3 4), qg 119 false (ql 121 120), qg 119 false (qf 122 2 0), qg 119 false (ql 123 122), qg 119 false (qL 124 123), qg 119 false (qt 125 .geq 3 121 124), ⟨none, .pick 126 (.tmp 119) (.const (.bool true)) (.tmp 125)⟩]
def QoM : List GO := [qk 4 (vi 1)]
def QoL : List GO := [qf 127 3 6, ql 128 127, qL 129 128, qj 130 .gtr 3 129 6, qm 131 130, qg 131 false (qf 132 3 7), qg 131 false (ql 133 132), qg 131 false (qL 134 133), qg 131 false (qj 135 .gtr 3 134 8), ⟨none, .pick 136 (.tmp 131) (.const (.bool true)) (.tmp 135)⟩]
def QoK : List GO := [qk 4 (vi 2)]
def QoJ : List GO := [qk 4 (vi 0)]
def R_InsForm_lc : LC := (.seq (.ops Qr4) (.seq (.ops Qr3) (.seq (.seq (.ops Qr2) (.cond (.tmp 14) (.seq (.ops Qr1) .ret) .skip)) (.seq (.seq (.ops Qr0) (.cond (.tmp 84) (.seq (.ops QqZ) .ret) .skip)) (.seq (.seq (.ops QqY) (.block 0 (.seq (.ops QqX) (.cond (.tmp 87) (.seq (.ops QqW) (.cond (.tmp 96) (.seq (.ops QqV) .ret) .skip)) (.seq (.ops QoV) (.cond (.tmp 97) (.seq (.ops QoU) (.cond (.tmp 102) (.seq (.ops QoT) .ret) .skip)) (.seq (.seq (.ops QoS) (.cond (.tmp 103) .skip (.ops QoR))) (.cond (.tmp 103) (.seq (.ops QoQ) (.cond (.tmp 113) (.seq (.ops QoP) .ret) .skip)) (.seq (.ops QoO) (.cond (.tmp 114) (.seq (.seq (.ops QoN) (.cond (.tmp 126) (.seq (.ops QoM) .ret) .skip)) (.seq (.ops QoL) (.cond (.tmp 136) (.seq (.ops QoK) .ret) .skip))) .skip)))))))))) (.seq (.ops QoJ) .ret))))))
@[reducible] def QN : FuncId := 72
theorem QoW : lowF Tryz.prog Tryz.f72 = some R_InsForm_lc := by kernel_rfl
theorem Qr5 {a0 a1 : Value} {w : World} {R : Ending → World → Prop} (h : R_InsForm_lc.wp Tryz.prog (retQ Tryz.prog [.tmp 4] R) (Ql [a0, a1]) w) : Calls Tryz.prog QN ⟨[a0, a1]⟩ w R :=
  Q6 Tryz.func72 QoW (by kernel_rfl) (by kernel_rfl) h

/- 76 -/
def Qsx : List GO := [qb 2 53 0, qb 3 45 1, qk 4 (vi 0)]
def Qsw : List GO := [⟨none, .build 6 [vn, (vi 0), (vi 0), (vi 0)] []⟩, qb 7 134 6, qm 5 7]
def Qsv : List GO := [qm 8 5, qV 9 4 2, qV 10 9 3, ⟨none, .call (some 11) 134 [(.tmp 8), (.tmp 9), (.tmp 10)]⟩]
def Qsu : List GO := [qm 12 5, qn 13 12, qf 14 13 1, qf 15 14 0, ql 16 15, qm 4 16]
def code_End_lc : LC := (.seq (.ops Qsx) (.seq (.ops Qsw) (.seq (.ops Qsv) (.seq (.ops Qsu) .ret))))
@[reducible] def Qts : FuncId := 76
theorem Qqv : lowF Tryz.prog Tryz.f76 = some code_End_lc := by kernel_rfl
theorem Qsy {a0 a1 : Value} {w : World} {R : Ending → World → Prop} (h : code_End_lc.wp Tryz.prog (retQ Tryz.prog [.tmp 4] R) (Ql [a0, a1]) w) : Calls Tryz.prog Qts ⟨[a0, a1]⟩ w R :=
  Q6 Tryz.func76 Qqv (by kernel_rfl) (by kernel_rfl) h

/- 79 -/
def Qrf : List GO := [qb 2 53 0, qb 3 45 1, qk 4 (vi 0)]
def Qre : List GO := [qf 6 3 0, ql 7 6, qj 8 .lss 3 7 1, qm 9 8, qg 9 false (qf 10 3 0), qg 9 false (ql 11 10), qg 9 false (qj 12 .gtr 3 11 3), ⟨none, .pick 13 (.tmp 9) (.const (.bool true)) (.tmp 12)⟩]
def Qrd : List GO := [qk 4 (vi 3)]
def Qrc : List GO := [qf 14 3 1, ql 15 14, qj 16 .neq 3 15 0, qm 17 16, qg 17 true (qf 18 3 0), qg 17 true (ql 19 18), qg 17 true (qj 20 .neq 3 19 2), ⟨none, .pick 21 (.tmp 17) (.tmp 20) (.const (.bool false))⟩, qm 22 21, qg 22 false (qf 23 3 8), qg 22 false (ql 24 23), qg 22 false (qL 25 24), qg 22 false (qj 26 .gtr 3 25 0), qg 22 false (qm 27 26), qg 27 true (qf 28 3 0), qg 27 true (ql 29 28), qg 27 true (qj 30 .neq 3 29 3), ⟨some (22, false), .pick 31 (.tmp 27) (.tmp 30) (.const (.bool false))⟩, ⟨none, .pick 32 (.tmp 22) (.const (.bool true)) (.tmp 31)⟩]
def Qrb : List GO := [qk 4 (vi 4)]
def Qra : List GO := [qf 33 3 8, ql 34 33, qL 35 34, qj 36 .gtr 3 35 8]
def Qr9 : List GO := [qk 4 (vi 2)]
def Qr8 : List GO := [qV 37 4 2, qf 38 3 2, qV 39 3 38, qf 40 3 0, ql 41 40, qj 42 .neq 3 41 3, ⟨none, .call (some 43) 137 [(.tmp 37), (.tmp 39), (.tmp 42)]⟩, qm 5 43]
def Qr7 : List GO := [qm 44 5, qj 45 .neq 3 44 0]
def Qr6 : List GO := [qm 46 5, qm 4 46]
def Qp7 : List GO := [qV 47 4 2, qf 48 3 5, qV 49 3 48, qf 50 3 0, ql 51 50, qj 52 .eql 3 51 2, ⟨none, .call (some 53) 137 [(.tmp 47), (.tmp 49), (.tmp 52)]⟩, qm 4 53]
def R_EndForm_lc : LC := (.seq (.ops Qrf) (.seq (.seq (.ops Qre) (.cond (.tmp 13) (.seq (.ops Qrd) .ret) .skip)) (.seq (.seq (.ops Qrc) (.cond (.tmp 32) (.seq (.ops Qrb) .ret) .skip)) (.seq (.seq (.ops Qra) (.cond (.tmp 36) (.seq (.ops Qr9) .ret) .skip)) (.seq (.seq (.ops Qr8) (.seq (.ops Qr7) (.cond (.tmp 45) (.seq (.ops Qr6) .ret) .skip))) (.seq (.ops Qp7) .ret))))))
@[reducible] def Q2E : FuncId := 79
theorem Qp8 : lowF Tryz.prog Tryz.f79 = some R_EndForm_lc := by kernel_rfl
theorem Qrg {a0 a1 : Value} {w : World} {R : Ending → World → Prop} (h : R_EndForm_lc.wp Tryz.prog (retQ Tryz.prog [.tmp 4] R) (Ql [a0, a1]) w) : Calls Tryz.prog Q2E ⟨[a0, a1]⟩ w R :=
  Q6 Tryz.func79 Qp8 (by kernel_rfl) (by kernel_rfl) h

/- 89 -/
def Qkp : List GO := [qk 2 (vi 0)]
def Qko : List GO := [qm 3 0, qj 4 .mul 3 3 10000, qj 5 .add 3 4 9999, qm 2 5]
def code_FuncAt_lc : LC := (.seq (.ops Qkp) (.seq (.ops Qko) .ret))
@[reducible] def QhF : FuncId := 89
theorem QhE : lowF Tryz.prog Tryz.f89 = some code_FuncAt_lc := by kernel_rfl
theorem Qkq {a0 : Value} {w : World} {R : Ending → World → Prop} (h : code_FuncAt_lc.wp Tryz.prog (retQ Tryz.prog [.tmp 2] R) (Ql [a0]) w) : Calls Tryz.prog QhF ⟨[a0]⟩ w R :=
  Q6 Tryz.func89 QhE (by kernel_rfl) (by kernel_rfl) h

/- 64 -/
def QsZ : List GO := [qk 2 (vi 0)]
def QsY : List GO := [qm 3 0, ⟨none, .bin 4 .mul 3 (.const (vi 10000)) (.tmp 3)⟩, qj 5 .add 3 4 9999, qm 2 5]
def R_AtFunc_lc : LC := (.seq (.ops QsZ) (.seq (.ops QsY) .ret))
@[reducible] def Qtw : FuncId := 64
theorem Qrj : lowF Tryz.prog Tryz.f64 = some R_AtFunc_lc := by kernel_rfl
theorem Qt0 {a0 : Value} {w : World} {R : Ending → World → Prop} (h : R_AtFunc_lc.wp Tryz.prog (retQ Tryz.prog [.tmp 2] R) (Ql [a0]) w) : Calls Tryz.prog Qtw ⟨[a0]⟩ w R :=
  Q6 Tryz.func64 Qrj (by kernel_rfl) (by kernel_rfl) h

/- 144 -/
def QhK : List GO := [qk 4 (vi 0)]
def QhJ : List GO := [qm 5 0, qj 6 .mul 3 5 10000, qm 7 1, qj 8 .mul 3 7 100, qt 9 .add 3 6 8, qj 10 .add 3 9 90, qm 4 10]
def code_BlockAt_lc : LC := (.seq (.ops QhK) (.seq (.ops QhJ) .ret))
@[reducible] def Qew : FuncId := 144
theorem Qf5 : lowF Tryz.prog Tryz.f144 = some code_BlockAt_lc := by kernel_rfl
theorem QhL {a0 a1 : Value} {w : World} {R : Ending → World → Prop} (h : code_BlockAt_lc.wp Tryz.prog (retQ Tryz.prog [.tmp 4] R) (Ql [a0, a1]) w) : Calls Tryz.prog Qew ⟨[a0, a1]⟩ w R :=
  Q6 Tryz.func144 Qf5 (by kernel_rfl) (by kernel_rfl) h

/- 116 -/
def Qrl : List GO := [qk 4 (vi 0)]
def Qrk : List GO := [qm 5 0, ⟨none, .bin 6 .mul 3 (.const (vi 10000)) (.tmp 5)⟩, qm 7 1, ⟨none, .bin 8 .mul 3 (.const (vi 100)) (.tmp 7)⟩, qt 9 .add 3 6 8, qj 10 .add 3 9 90, qm 4 10]
def R_AtBlock_lc : LC := (.seq (.ops Qrl) (.seq (.ops Qrk) .ret))
@[reducible] def Qrn : FuncId := 116
theorem Qp9 : lowF Tryz.prog Tryz.f116 = some R_AtBlock_lc := by kernel_rfl
theorem Qrm {a0 a1 : Value} {w : World} {R : Ending → World → Prop} (h : R_AtBlock_lc.wp Tryz.prog (retQ Tryz.prog [.tmp 4] R) (Ql [a0, a1]) w) : Calls Tryz.prog Qrn ⟨[a0, a1]⟩ w R :=
  Q6 Tryz.func116 Qp9 (by kernel_rfl) (by kernel_rfl) h

/- 140 -/
def Qnk : List GO := [qk 4 (vi 0)]
def Qnj : List GO := [qm 5 0, qj 6 .mul 3 5 10000, qm 7 1, qj 8 .mul 3 7 100, qt 9 .add 3 6 8, qj 10 .add 3 9 91, qm 4 10]
def code_EndAt_lc : LC := (.seq (.ops Qnk) (.seq (.ops Qnj) .ret))
@[reducible] def Qmr : FuncId := 140
theorem Qkr : lowF Tryz.prog Tryz.f140 = some code_EndAt_lc := by kernel_rfl
theorem Qnl {a0 a1 : Value} {w : World} {R : Ending → World → Prop} (h : code_EndAt_lc.wp Tryz.prog (retQ Tryz.prog [.tmp 4] R) (Ql [a0, a1]) w) : Calls Tryz.prog Qmr ⟨[a0, a1]⟩ w R :=
  Q6 Tryz.func140 Qkr (by kernel_rfl) (by kernel_rfl) h

/- 85 -/
def Qu7 : List GO := [qk 4 (vi 0)]
def Qu6 : List GO := [qm 5 0, ⟨none, .bin 6 .mul 3 (.const (vi 10000)) (.tmp 5)⟩, qm 7 1, ⟨none, .bin 8 .mul 3 (.const (vi 100)) (.tmp 7)⟩, qt 9 .add 3 6 8, qj 10 .add 3 9 91, qm 4 10]
def R_AtEnd_lc : LC := (.seq (.ops Qu7) (.seq (.ops Qu6) .ret))
@[reducible] def Qvw : FuncId := 85
theorem Qt1 : lowF Tryz.prog Tryz.f85 = some R_AtEnd_lc := by kernel_rfl
theorem Qu8 {a0 a1 : Value} {w : World} {R : Ending → World → Prop} (h : R_AtEnd_lc.wp Tryz.prog (retQ Tryz.prog [.tmp 4] R) (Ql [a0, a1]) w) : Calls Tryz.prog Qvw ⟨[a0, a1]⟩ w R :=
  Q6 Tryz.func85 Qt1 (by kernel_rfl) (by kernel_rfl) h

/- 139 -/
def Qnh : List GO := [qk 6 (vi 0)]
def Qng : List GO := [qm 7 0, qj 8 .mul 3 7 10000, qm 9 1, qj 10 .mul 3 9 100, qt 11 .add 3 8 10, qm 12 2, qt 13 .add 3 11 12, qm 6 13]
def code_InsAt_lc : LC := (.seq (.ops Qnh) (.seq (.ops Qng) .ret))
@[reducible] def Qmq : FuncId := 139
theorem Qkn : lowF Tryz.prog Tryz.f139 = some code_InsAt_lc := by kernel_rfl
theorem Qni {a0 a1 a2 : Value} {w : World} {R : Ending → World → Prop} (h : code_InsAt_lc.wp Tryz.prog (retQ Tryz.prog [.tmp 6] R) (Ql [a0, a1, a2]) w) : Calls Tryz.prog Qmq ⟨[a0, a1, a2]⟩ w R :=
  Q6 Tryz.func139 Qkn (by kernel_rfl) (by kernel_rfl) h

/- 84 -/
def Qu4 : List GO := [qk 6 (vi 0)]
def Qu3 : List GO := [qm 7 0, ⟨none, .bin 8 .mul 3 (.const (vi 10000)) (.tmp 7)⟩, qm 9 1, ⟨none, .bin 10 .mul 3 (.const (vi 100)) (.tmp 9)⟩, qt 11 .add 3 8 10, qm 12 2, qt 13 .add 3 11 12, qm 6 13]
def R_AtIns_lc : LC := (.seq (.ops Qu4) (.seq (.ops Qu3) .ret))
@[reducible] def Qvv : FuncId := 84
theorem QsX : lowF Tryz.prog Tryz.f84 = some R_AtIns_lc := by kernel_rfl
theorem Qu5 {a0 a1 a2 : Value} {w : World} {R : Ending → World → Prop} (h : R_AtIns_lc.wp Tryz.prog (retQ Tryz.prog [.tmp 6] R) (Ql [a0, a1, a2]) w) : Calls Tryz.prog Qvv ⟨[a0, a1, a2]⟩ w R :=
  Q6 Tryz.func84 QsX (by kernel_rfl) (by kernel_rfl) h

/- 8 -/
/- 41 -/
def Qnv : List GO := [qb 1 24 0, ⟨none, .alloc 2 30 [(vi 0), (vi 0)]⟩]
def Qnu : List GO := [qV 7 1 1, ⟨none, .build 8 [vn, (vi 0), (vi 0), (vi 0)] [(0, (1, (.tmp 7))), (3, (1, (.const (vi (-1)))))]⟩, qb 9 134 8, qm 3 9]
def Qnt : List GO := [qm 10 3, qf 11 1 0, ql 12 11, qL 13 12, qj 14 .eql 3 13 0, qm 15 14, qg 15 false (qf 16 1 0), qg 15 false (ql 17 16), qg 15 false (qL 18 17), qg 15 false (qj 19 .gtr 3 18 8), ⟨none, .pick 20 (.tmp 15) (.const (.bool true)) (.tmp 19)⟩, ⟨none, .call (some 21) 88 [(.tmp 10), (.tmp 20), (.const (vi 2))]⟩]
def Qns : List GO := [qk 4 (vi 0)]
def Qnr : List GO := [qm 22 4, qf 23 1 0, ql 24 23, qL 25 24, qt 26 .lss 3 22 25, qm 27 26, qg 27 true (qm 28 3), qg 27 true (qn 29 28), qg 27 true (qf 30 29 1), qg 27 true (qf 31 30 0), qg 27 true (ql 32 31), qg 27 true (qj 33 .eql 3 32 0), ⟨none, .pick 34 (.tmp 27) (.tmp 33) (.const (.bool false))⟩]
def Qnq : List GO := [qf 37 1 0, ql 38 37, qm 39 4, qi 40 4 38 39, qV 41 4 40, ⟨none, .alloc 5 53 [(vi 0), vn, vn, vn]⟩, qw 4 5 41]
def Qnp : List GO := [qm 42 3, qm 43 4, ⟨none, .call (some 44) 89 [(.tmp 43)]⟩, qn 45 42, qf 46 45 3, qs 46 44]
def Qno : List GO := [qm 47 3, qf 48 5 0, ql 49 48, qj 50 .lss 3 49 0, qm 51 50, qg 51 false (qf 52 5 0), qg 51 false (ql 53 52), qg 51 false (qj 54 .gtr 3 53 6), ⟨none, .pick 55 (.tmp 51) (.const (.bool true)) (.tmp 54)⟩, ⟨none, .call (some 56) 88 [(.tmp 47), (.tmp 55), (.const (vi 1))]⟩]
def Qnn : List GO := [qm 57 3, qf 58 5 1, ql 59 58, qf 60 5 0, ql 61 60, ⟨none, .call (some 62) 90 [(.tmp 57), (.tmp 59), (.tmp 61)]⟩]
def Qnm : List GO := [qm 63 3, qf 64 5 2, ql 65 64, qf 66 5 0, ql 67 66, ⟨none, .call (some 68) 90 [(.tmp 63), (.tmp 65), (.tmp 67)]⟩]
def Qkz : List GO := [qm 69 3, qf 70 5 3, ql 71 70, qL 72 71, qj 73 .eql 3 72 0, qm 74 73, qg 74 false (qf 75 5 3), qg 74 false (ql 76 75), qg 74 false (qL 77 76), qg 74 false (qj 78 .gtr 3 77 12), ⟨none, .pick 79 (.tmp 74) (.const (.bool true)) (.tmp 78)⟩, ⟨none, .call (some 80) 88 [(.tmp 69), (.tmp 79), (.const (vi 2))]⟩]
def Qky : List GO := [qm 81 3, qm 82 4, qj 83 .eql 3 82 0, qm 84 83, qg 84 true (qf 85 5 0), qg 84 true (ql 86 85), qg 84 true (qj 87 .gtr 3 86 0), qg 84 true (qm 88 87), qg 88 false (qf 89 5 1), qg 88 false (ql 90 89), qg 88 false (qL 91 90), qg 88 false (qj 92 .gtr 3 91 0), ⟨some (84, true), .pick 93 (.tmp 88) (.const (.bool true)) (.tmp 92)⟩, qg 84 true (qm 94 93), qg 94 false (qf 95 5 2), qg 94 false (ql 96 95), ⟨some (94, false), .call (some 97) 91 [(.tmp 96), (.func 92)]⟩, ⟨some (84, true), .pick 98 (.tmp 94) (.const (.bool true)) (.tmp 97)⟩, ⟨none, .pick 99 (.tmp 84) (.tmp 98) (.const (.bool false))⟩, ⟨none, .call (some 100) 88 [(.tmp 81), (.tmp 99), (.const (vi 18))]⟩]
def Qkx : List GO := [qk 6 (vi 0)]
def Qkw : List GO := [qm 101 6, qf 102 5 3, ql 103 102, qL 104 103, qt 105 .lss 3 101 104, qm 106 105, qg 106 true (qm 107 3), qg 106 true (qn 108 107), qg 106 true (qf 109 108 1), qg 106 true (qf 110 109 0), qg 106 true (ql 111 110), qg 106 true (qj 112 .eql 3 111 0), ⟨none, .pick 113 (.tmp 106) (.tmp 112) (.const (.bool false))⟩]
def Qkv : List GO := [qm 116 3, qm 117 4, qm 118 6, ⟨none, .call (some 119) 93 [(.tmp 116), (.tmp 117), (.tmp 118)]⟩]
def Qku : List GO := [qm 114 6, qj 115 .add 3 114 1, qm 6 115]
def Q7u : LC := (.seq (.seq (.ops Qkw) (.cond (.tmp 113) .skip (.exit 2))) (.seq (.block 3 (.ops Qkv)) (.ops Qku)))
def Qkt : List GO := [qm 35 4, qj 36 .add 3 35 1, qm 4 36]
def QaC : LC := (.seq (.seq (.ops Qnr) (.cond (.tmp 34) .skip (.exit 0))) (.seq (.block 1 (.seq (.ops Qnq) (.seq (.ops Qnp) (.seq (.ops Qno) (.seq (.ops Qnn) (.seq (.ops Qnm) (.seq (.ops Qkz) (.seq (.ops Qky) (.seq (.ops Qkx) (.block 2 (.loop Q7u))))))))))) (.ops Qkt)))
def Qks : List GO := [qm 120 3, qn 121 120, qf 122 121 1, qV 123 2 122, qw 2 2 123]
def code_Check_lc : LC := (.seq (.ops Qnv) (.seq (.ops Qnu) (.seq (.ops Qnt) (.seq (.seq (.ops Qns) (.block 0 (.loop QaC))) (.seq (.ops Qks) .ret)))))
@[reducible] def Q3E : FuncId := 41
theorem QkA : lowF Tryz.prog Tryz.f41 = some code_Check_lc := by kernel_rfl
theorem Qnw {a0 : Value} {w : World} {R : Ending → World → Prop} (h : code_Check_lc.wp Tryz.prog (retQ Tryz.prog [.cell 2 30] R) (Ql [a0]) w) : Calls Tryz.prog Q3E ⟨[a0]⟩ w R :=
  Q6 Tryz.func41 QkA (by kernel_rfl) (by kernel_rfl) h

/- 19 -/
def Qm8 : List GO := [qb 1 24 0, ⟨none, .alloc 2 30 [(vi 0), (vi 0)]⟩]
def Qm7 : List GO := [qf 11 1 0, ql 12 11, qL 13 12, qj 14 .lss 3 13 1, qm 15 14, qg 15 false (qf 16 1 0), qg 15 false (ql 17 16), qg 15 false (qL 18 17), qg 15 false (qj 19 .gtr 3 18 8), ⟨none, .pick 20 (.tmp 15) (.const (.bool true)) (.tmp 19)⟩]
def Qm6 : List GO := [⟨none, .call (some 21) 51 [(.const (vi 2)), (.const (vi (-1)))]⟩, qw 2 2 21]
def Qm5 : List GO := [qk 3 (vi 0)]
def Qm4 : List GO := [qm 22 3, qf 23 1 0, ql 24 23, qL 25 24, qt 26 .lss 3 22 25]
def Qm3 : List GO := [qf 29 1 0, ql 30 29, qm 31 3, qi 32 4 30 31, qV 33 4 32, ⟨none, .alloc 4 53 [(vi 0), vn, vn, vn]⟩, qw 4 4 33]
def Qm2 : List GO := [qf 34 4 0, ql 35 34, qj 36 .lss 3 35 0, qm 37 36, qg 37 false (qf 38 4 0), qg 37 false (ql 39 38), qg 37 false (qj 40 .gtr 3 39 6), ⟨none, .pick 41 (.tmp 37) (.const (.bool true)) (.tmp 40)⟩]
def Qm1 : List GO := [qm 42 3, ⟨none, .call (some 43) 64 [(.tmp 42)]⟩, ⟨none, .call (some 44) 51 [(.const (vi 1)), (.tmp 43)]⟩, qw 2 2 44]
def Qm0 : List GO := [qf 45 4 1, ql 46 45, qf 47 4 0, ql 48 47, ⟨none, .call (some 49) 65 [(.tmp 46), (.tmp 48)]⟩, qm 5 49]
def QlZ : List GO := [qm 50 5, qj 51 .neq 3 50 0]
def QjV : List GO := [qm 52 5, qm 53 3, ⟨none, .call (some 54) 64 [(.tmp 53)]⟩, ⟨none, .call (some 55) 51 [(.tmp 52), (.tmp 54)]⟩, qw 2 2 55]
def QjU : List GO := [qf 56 4 2, ql 57 56, qf 58 4 0, ql 59 58, ⟨none, .call (some 60) 65 [(.tmp 57), (.tmp 59)]⟩, qm 6 60]
def QjT : List GO := [qm 61 6, qj 62 .neq 3 61 0]
def QjS : List GO := [qm 63 6, qm 64 3, ⟨none, .call (some 65) 64 [(.tmp 64)]⟩, ⟨none, .call (some 66) 51 [(.tmp 63), (.tmp 65)]⟩, qw 2 2 66]
def QjR : List GO := [qf 67 4 3, ql 68 67, qL 69 68, qj 70 .lss 3 69 1, qm 71 70, qg 71 false (qf 72 4 3), qg 71 false (ql 73 72), qg 71 false (qL 74 73), qg 71 false (qj 75 .gtr 3 74 12), ⟨none, .pick 76 (.tmp 71) (.const (.bool true)) (.tmp 75)⟩]
def QjQ : List GO := [qm 77 3, ⟨none, .call (some 78) 64 [(.tmp 77)]⟩, ⟨none, .call (some 79) 51 [(.const (vi 2)), (.tmp 78)]⟩, qw 2 2 79]
def QjP : List GO := [qm 80 3, qj 81 .eql 3 80 0]
def QjO : List GO := [qf 82 4 0, ql 83 82, qj 84 .eql 3 83 0, qm 85 84, qg 85 true (qf 86 4 1), qg 85 true (ql 87 86), qg 85 true (qL 88 87), qg 85 true (qj 89 .eql 3 88 0), ⟨none, .pick 90 (.tmp 85) (.tmp 89) (.const (.bool false))⟩, qm 7 90]
def QjN : List GO := [qk 8 (vi 0)]
def QjM : List GO := [qm 91 8, qf 92 4 2, ql 93 92, qL 94 93, qt 95 .lss 3 91 94]
def QjL : List GO := [qm 98 7, qm 99 98, qg 99 true (qf 100 4 2), qg 99 true (ql 101 100), qg 99 true (qm 102 8), qg 99 true (qi 103 3 101 102), qg 99 true (qf 104 103 0), qg 99 true (ql 105 104), qg 99 true (qj 106 .eql 3 105 1), ⟨none, .pick 107 (.tmp 99) (.tmp 106) (.const (.bool false))⟩, qm 7 107]
def QjK : List GO := [qm 96 8, qj 97 .add 3 96 1, qm 8 97]
def Q6m : LC := (.seq (.seq (.ops QjM) (.cond (.tmp 95) .skip (.exit 2))) (.seq (.block 3 (.ops QjL)) (.ops QjK)))
def QjJ : List GO := [qm 108 7, ⟨none, .un 109 .not (.tmp 108)⟩]
def QjI : List GO := [qm 110 3, ⟨none, .call (some 111) 64 [(.tmp 110)]⟩, ⟨none, .call (some 112) 51 [(.const (vi 18)), (.tmp 111)]⟩, qw 2 2 112]
def QjH : List GO := [qk 9 (vi 0)]
def QjG : List GO := [qm 113 9, qf 114 4 3, ql 115 114, qL 116 115, qt 117 .lss 3 113 116]
def QjF : List GO := [qV 120 1 1, qm 121 3, qm 122 9, ⟨none, .call (some 123) 66 [(.tmp 120), (.tmp 121), (.tmp 122)]⟩, ⟨none, .alloc 10 30 [(vi 0), (vi 0)]⟩, qw 2 10 123]
def QjE : List GO := [qf 124 10 0, ql 125 124, qj 126 .neq 3 125 0]
def QjD : List GO := [qV 127 2 10, qw 2 2 127]
def QjC : List GO := [qm 118 9, qj 119 .add 3 118 1, qm 9 119]
def Q6l : LC := (.seq (.seq (.ops QjG) (.cond (.tmp 117) .skip (.exit 4))) (.seq (.block 5 (.seq (.ops QjF) (.seq (.ops QjE) (.cond (.tmp 126) (.seq (.ops QjD) .ret) .skip)))) (.ops QjC)))
def QjB : List GO := [qm 27 3, qj 28 .add 3 27 1, qm 3 28]
def Q7w : LC := (.seq (.seq (.ops Qm4) (.cond (.tmp 26) .skip (.exit 0))) (.seq (.block 1 (.seq (.ops Qm3) (.seq (.seq (.ops Qm2) (.cond (.tmp 41) (.seq (.ops Qm1) .ret) .skip)) (.seq (.seq (.ops Qm0) (.seq (.ops QlZ) (.cond (.tmp 51) (.seq (.ops QjV) .ret) .skip))) (.seq (.seq (.ops QjU) (.seq (.ops QjT) (.cond (.tmp 62) (.seq (.ops QjS) .ret) .skip))) (.seq (.seq (.ops QjR) (.cond (.tmp 76) (.seq (.ops QjQ) .ret) .skip)) (.seq (.seq (.ops QjP) (.cond (.tmp 81) (.seq (.ops QjO) (.seq (.seq (.ops QjN) (.block 2 (.loop Q6m))) (.seq (.ops QjJ) (.cond (.tmp 109) (.seq (.ops QjI) .ret) .skip)))) .skip)) (.seq (.ops QjH) (.block 4 (.loop Q6l)))))))))) (.ops QjB)))
def QjA : List GO := [⟨none, .build 128 [(vi 0), (vi 0)] []⟩, qw 2 2 128]
def R_CodeFault_lc : LC := (.seq (.ops Qm8) (.seq (.seq (.ops Qm7) (.cond (.tmp 20) (.seq (.ops Qm6) .ret) .skip)) (.seq (.seq (.ops Qm5) (.block 0 (.loop Q7w))) (.seq (.ops QjA) .ret))))
@[reducible] def QW : FuncId := 19
theorem QjW : lowF Tryz.prog Tryz.f19 = some R_CodeFault_lc := by kernel_rfl
theorem Qm9 {a0 : Value} {w : World} {R : Ending → World → Prop} (h : R_CodeFault_lc.wp Tryz.prog (retQ Tryz.prog [.cell 2 30] R) (Ql [a0]) w) : Calls Tryz.prog QW ⟨[a0]⟩ w R :=
  Q6 Tryz.func19 QjW (by kernel_rfl) (by kernel_rfl) h

/- 12 -/
/- 61 -/
def Qsl : List GO := [qb 1 24 0, ⟨none, .alloc 2 24 [vn]⟩]
def Qsk : List GO := [⟨none, .alloc 3 24 [vn]⟩]
def Qsj : List GO := [qf 12 1 0, ql 13 12, qL 14 13, qk 15 (vi 0)]
def Qsi : List GO := [qt 16 .lss 3 15 14]
def Qsh : List GO := [qi 17 4 13 15, qV 18 4 17, ⟨none, .alloc 5 53 [(vi 0), vn, vn, vn]⟩, qw 4 5 18]
def Qsg : List GO := [qf 19 5 0, ql 20 19, qf 21 5 1, ql 22 21, ⟨none, .call (some 23) 112 [(.tmp 22)]⟩, qf 24 5 2, ql 25 24, ⟨none, .call (some 26) 112 [(.tmp 25)]⟩, ⟨none, .build 27 [(vi 0), vn, vn, vn] [(0, (1, (.tmp 20))), (1, (1, (.tmp 23))), (2, (1, (.tmp 26)))]⟩, ⟨none, .alloc 6 53 [(vi 0), vn, vn, vn]⟩, qw 4 6 27]
def Qso : List (List Nat) := [[],[0],[],[2],[3],[],[5],[6,4],[1,4,7],[],[9,8,7,0,1,2,3,4,5,6,7,8,9]]
def Qsf : List GO := [qf 28 5 3, ql 29 28, qL 30 29, qk 31 (vi 0)]
def Qse : List GO := [qt 32 .lss 3 31 30]
def Qsd : List GO := [qi 33 12 29 31, qV 34 12 33, ⟨none, .alloc 8 79 [(vi 0), vn, vn, (vi 0), (vi 0), (vi 0), vn, vn, (vi 0), vn, vn, vn]⟩, qw 12 8 34]
def Qsc : List GO := [qf 35 8 0, ql 36 35, qf 37 8 1, ql 38 37, ⟨none, .call (some 39) 112 [(.tmp 38)]⟩, qf 40 8 3, qV 41 9 40, ⟨none, .build 42 [(vi 0), vn, vn, (vi 0), (vi 0), (vi 0), vn, vn, (vi 0), vn, vn, vn] [(0, (1, (.tmp 36))), (1, (1, (.tmp 39))), (3, (9, (.tmp 41)))]⟩, ⟨none, .alloc 9 79 [(vi 0), vn, vn, (vi 0), (vi 0), (vi 0), vn, vn, (vi 0), vn, vn, vn]⟩, qw 12 9 42]
def Qsn : List (List Nat) := [[],[0],[],[2],[3],[],[5],[1,4,6],[],[8,7,4,0,1,2,3,4,5,6,7,8]]
def Qqq : List GO := [qf 43 8 3, qf 44 43 2, qV 45 3 44, ⟨none, .call (some 46) 113 [(.tmp 45)]⟩, qf 47 8 3, qf 48 47 5, qV 49 3 48, ⟨none, .call (some 50) 113 [(.tmp 49)]⟩, qf 51 8 3, qf 52 51 8, ql 53 52, ⟨none, .call (some 54) 114 [(.tmp 53)]⟩, qf 55 9 3, qf 56 55 2, qw 3 56 46, qf 57 9 3, qf 58 57 5, qw 3 58 50, qf 59 9 3, qf 60 59 8, qs 60 54]
def Qqt : List (List Nat) := [[],[0],[1],[2],[],[4],[5],[6,3],[],[8],[9],[10,7],[0,1,2,3],[12,0,1,2,3],[13,3,11,0,1,2,3],[0,1,2,3,4,5,6,7,12,13,14],[15,0,1,2,3,4,5,6,7,12,13,14],[16,7,14,0,1,2,3,4,5,6,7,12,13,14],[0,1,2,3,4,5,6,7,8,9,10,11,12,13,14,15,16,17],[18,0,1,2,3,4,5,6,7,8,9,10,11,12,13,14,15,16,17],[19,11,17,0,1,2,3,4,5,6,7,8,9,10,11,12,13,14,15,16,17]]
def Qqp : List GO := [qf 61 8 2, ql 62 61, qL 63 62, qk 64 (vi 0)]
def Qqo : List GO := [qt 65 .lss 3 64 63]
def Qqn : List GO := [qi 66 8 62 64, qV 67 8 66, ⟨none, .alloc 11 57 [(vi 0), (vi 0), (vi 0), (vi 0), (vi 0), (vi 0), vn, vn]⟩, qw 8 11 67]
def Qqm : List GO := [qf 68 11 6, ql 69 68, ⟨none, .call (some 70) 114 [(.tmp 69)]⟩, qf 71 11 7, ql 72 71, ⟨none, .call (some 73) 114 [(.tmp 72)]⟩, qf 74 11 6, qs 74 70, qf 75 11 7, qs 75 73]
def Qqs : List (List Nat) := [[],[0],[1],[],[3],[4,2],[0,1,2,3,4],[6,2,5,0,1,2,3,4],[0,1,2,3,4,5,6,7],[8,5,7,0,1,2,3,4,5,6,7]]
def Qql : List GO := [qf 76 9 2, ql 77 76, qV 78 8 11, ⟨none, .buildS 79 57 1 [(vi 0), (vi 0), (vi 0), (vi 0), (vi 0), (vi 0), vn, vn] [(0, (8, (.tmp 78)))]⟩, ⟨none, .raw ⟨(some 80), (.call ⟨(.builtin .append), #[(.tmp 77), (.tmp 79)], #[40, 40]⟩), 40, "", #[], none⟩⟩, qf 81 9 2, qs 81 80]
def Qqk : List GO := [qj 82 .add 3 64 1, qm 64 82]
def Qev : LC := (.seq (.ops Qqo) (.seq (.cond (.tmp 65) .skip (.exit 4)) (.seq (.block 5 (.seq (.ops Qqn) (.seq (.draw Qqm Qqs) (.ops Qql)))) (.ops Qqk))))
def Qqj : List GO := [qf 83 6 3, ql 84 83, qV 85 12 9, ⟨none, .buildS 86 79 1 [(vi 0), vn, vn, (vi 0), (vi 0), (vi 0), vn, vn, (vi 0), vn, vn, vn] [(0, (12, (.tmp 85)))]⟩, ⟨none, .raw ⟨(some 87), (.call ⟨(.builtin .append), #[(.tmp 84), (.tmp 86)], #[51, 51]⟩), 51, "", #[], none⟩⟩, qf 88 6 3, qs 88 87]
def Qqi : List GO := [qj 89 .add 3 31 1, qm 31 89]
def QhC : LC := (.seq (.ops Qse) (.seq (.cond (.tmp 32) .skip (.exit 2)) (.seq (.block 3 (.seq (.ops Qsd) (.seq (.draw Qsc Qsn) (.seq (.draw Qqq Qqt) (.seq (.seq (.ops Qqp) (.block 4 (.loop Qev))) (.ops Qqj)))))) (.ops Qqi))))
def Qqh : List GO := [qf 90 3 0, ql 91 90, qV 92 4 6, ⟨none, .buildS 93 53 1 [(vi 0), vn, vn, vn] [(0, (4, (.tmp 92)))]⟩, ⟨none, .raw ⟨(some 94), (.call ⟨(.builtin .append), #[(.tmp 91), (.tmp 93)], #[22, 22]⟩), 22, "", #[], none⟩⟩, qf 95 3 0, qs 95 94]
def Qqg : List GO := [qj 96 .add 3 15 1, qm 15 96]
def QhD : LC := (.seq (.ops Qsi) (.seq (.cond (.tmp 16) .skip (.exit 0)) (.seq (.block 1 (.seq (.ops Qsh) (.seq (.draw Qsg Qso) (.seq (.seq (.ops Qsf) (.block 2 (.loop QhC))) (.ops Qqh))))) (.ops Qqg))))
def Qqf : List GO := [qV 97 1 3, qw 1 2 97]
def code_Own_lc : LC := (.seq (.ops Qsl) (.seq (.ops Qsk) (.seq (.seq (.ops Qsj) (.block 0 (.loop QhD))) (.seq (.ops Qqf) .ret))))
@[reducible] def Qtq : FuncId := 61
theorem Qqr : lowF Tryz.prog Tryz.f61 = some code_Own_lc := by kernel_rfl
theorem Qsm {a0 : Value} {w : World} {R : Ending → World → Prop} (h : code_Own_lc.wp Tryz.prog (retQ Tryz.prog [.cell 2 24] R) (Ql [a0]) w) : Calls Tryz.prog Qtq ⟨[a0]⟩ w R :=
  Q6 Tryz.func61 Qqr (by kernel_rfl) (by kernel_rfl) h

/- 23 -/
def Ql3 : List GO := [qk 4 (.bool false)]
def Ql2 : List GO := [qm 6 0, qL 7 6, qm 8 1, qL 9 8, qt 10 .neq 3 7 9]
def Ql1 : List GO := [qk 4 (.bool false)]
def Ql0 : List GO := [qk 5 (vi 0)]
def QkZ : List GO := [qm 11 5, qm 12 0, qL 13 12, qt 14 .lss 3 11 13]
def QkY : List GO := [qm 17 0, qm 18 5, qi 19 3 17 18, qV 20 3 19, qm 21 1, qm 22 5, qi 23 3 21 22, qV 24 3 23, ⟨none, .call (some 25) 74 [(.tmp 20), (.tmp 24)]⟩, ⟨none, .un 26 .not (.tmp 25)⟩]
def Ql5 : List (List Nat) := [[],[],[0,1],[2],[],[],[4,5],[6],[3,7],[8]]
def QkX : List GO := [qk 4 (.bool false)]
def QkW : List GO := [qm 15 5, qj 16 .add 3 15 1, qm 5 16]
def Q7v : LC := (.seq (.seq (.ops QkZ) (.cond (.tmp 14) .skip (.exit 0))) (.seq (.block 1 (.seq (.draw QkY Ql5) (.cond (.tmp 26) (.seq (.ops QkX) .ret) .skip))) (.ops QkW)))
def QkV : List GO := [qk 4 (.bool true)]
def R_SameTypes_lc : LC := (.seq (.ops Ql3) (.seq (.seq (.ops Ql2) (.cond (.tmp 10) (.seq (.ops Ql1) .ret) .skip)) (.seq (.seq (.ops Ql0) (.block 0 (.loop Q7v))) (.seq (.ops QkV) .ret))))
@[reducible] def Q2M : FuncId := 23
theorem Qih : lowF Tryz.prog Tryz.f23 = some R_SameTypes_lc := by kernel_rfl
theorem Ql4 {a0 a1 : Value} {w : World} {R : Ending → World → Prop} (h : R_SameTypes_lc.wp Tryz.prog (retQ Tryz.prog [.tmp 4] R) (Ql [a0, a1]) w) : Calls Tryz.prog Q2M ⟨[a0, a1]⟩ w R :=
  Q6 Tryz.func23 Qih (by kernel_rfl) (by kernel_rfl) h

/- 25 -/
def Qo5 : List GO := [qk 4 (.bool false)]
def Qo4 : List GO := [qm 6 0, qL 7 6, qm 8 1, qL 9 8, qt 10 .neq 3 7 9]
def Qo3 : List GO := [qk 4 (.bool false)]
def Qo2 : List GO := [qk 5 (vi 0)]
def Qo1 : List GO := [qm 11 5, qm 12 0, qL 13 12, qt 14 .lss 3 11 13]
def Qo0 : List GO := [qm 17 0, qm 18 5, qi 19 1 17 18, ql 20 19, qm 21 1, qm 22 5, qi 23 1 21 22, ql 24 23, qt 25 .neq 3 20 24]
def Qo7 : List (List Nat) := [[],[],[0,1],[2],[],[],[4,5],[6],[3,7]]
def QnZ : List GO := [qk 4 (.bool false)]
def QnY : List GO := [qm 15 5, qj 16 .add 3 15 1, qm 5 16]
def QaI : LC := (.seq (.seq (.ops Qo1) (.cond (.tmp 14) .skip (.exit 0))) (.seq (.block 1 (.seq (.draw Qo0 Qo7) (.cond (.tmp 25) (.seq (.ops QnZ) .ret) .skip))) (.ops QnY)))
def QnX : List GO := [qk 4 (.bool true)]
def R_SameInts_lc : LC := (.seq (.ops Qo5) (.seq (.seq (.ops Qo4) (.cond (.tmp 10) (.seq (.ops Qo3) .ret) .skip)) (.seq (.seq (.ops Qo2) (.block 0 (.loop QaI))) (.seq (.ops QnX) .ret))))
@[reducible] def Q3G : FuncId := 25
theorem Ql7 : lowF Tryz.prog Tryz.f25 = some R_SameInts_lc := by kernel_rfl
theorem Qo6 {a0 a1 : Value} {w : World} {R : Ending → World → Prop} (h : R_SameInts_lc.wp Tryz.prog (retQ Tryz.prog [.tmp 4] R) (Ql [a0, a1]) w) : Calls Tryz.prog Q3G ⟨[a0, a1]⟩ w R :=
  Q6 Tryz.func25 Ql7 (by kernel_rfl) (by kernel_rfl) h

/- 36 -/
def Qrp : List GO := [⟨none, .alloc 0 24 [vn]⟩]
def Qro : List GO := [⟨none, .build 1 [(vi 0), (vi 0), (vi 0), vn, vn, (vi 0), vn, vn, vn] [(0, (1, (.const (vi 3))))]⟩, ⟨none, .build 2 [(vi 0), vn, vn, (vi 0), (vi 0), (vi 0), vn, vn, (vi 0), vn, vn, vn] [(3, (9, (.tmp 1)))]⟩, ⟨none, .buildS 3 79 1 [(vi 0), vn, vn, (vi 0), (vi 0), (vi 0), vn, vn, (vi 0), vn, vn, vn] [(0, (12, (.tmp 2)))]⟩, ⟨none, .build 4 [(vi 0), vn, vn, vn] [(3, (1, (.tmp 3)))]⟩, ⟨none, .buildS 5 53 1 [(vi 0), vn, vn, vn] [(0, (4, (.tmp 4)))]⟩, ⟨none, .build 6 [vn] [(0, (1, (.tmp 5)))]⟩, qw 1 0 6]
def Law_least_lc : LC := (.seq (.ops Qrp) (.seq (.ops Qro) .ret))
@[reducible] def Qrr : FuncId := 36
theorem Qpa : lowF Tryz.prog Tryz.f36 = some Law_least_lc := by kernel_rfl
theorem Qrq {w : World} {R : Ending → World → Prop} (h : Law_least_lc.wp Tryz.prog (retQ Tryz.prog [.cell 0 24] R) (Ql []) w) : Calls Tryz.prog Qrr ⟨[]⟩ w R :=
  Q6 Tryz.func36 Qpa (by kernel_rfl) (by kernel_rfl) h

/- 37 -/
def Qi3 : List GO := [qk 2 (.bool false)]
def Qi2 : List GO := [qm 4 0, qL 5 4, qj 6 .gtr 3 5 200]
def Qi1 : List GO := [qk 2 (.bool true)]
def Qi0 : List GO := [qk 3 (vi 0)]
def QhZ : List GO := [qm 7 3, qm 8 0, qL 9 8, qt 10 .lss 3 7 9]
def QhY : List GO := [qm 13 0, qm 14 3, qi 15 3 13 14, qV 16 3 15, ⟨none, .call (some 17) 86 [(.tmp 16)]⟩]
def QhX : List GO := [qk 2 (.bool true)]
def QhW : List GO := [qm 11 3, qj 12 .add 3 11 1, qm 3 12]
def Q6d : LC := (.seq (.seq (.ops QhZ) (.cond (.tmp 10) .skip (.exit 0))) (.seq (.block 1 (.seq (.ops QhY) (.cond (.tmp 17) (.seq (.ops QhX) .ret) .skip))) (.ops QhW)))
def QhV : List GO := [qk 2 (.bool false)]
def R_greatTypes_lc : LC := (.seq (.ops Qi3) (.seq (.seq (.ops Qi2) (.cond (.tmp 6) (.seq (.ops Qi1) .ret) .skip)) (.seq (.seq (.ops Qi0) (.block 0 (.loop Q6d))) (.seq (.ops QhV) .ret))))
@[reducible] def Q2O : FuncId := 37
theorem Qf8 : lowF Tryz.prog Tryz.f37 = some R_greatTypes_lc := by kernel_rfl
theorem Qi4 {a0 : Value} {w : World} {R : Ending → World → Prop} (h : R_greatTypes_lc.wp Tryz.prog (retQ Tryz.prog [.tmp 2] R) (Ql [a0]) w) : Calls Tryz.prog Q2O ⟨[a0]⟩ w R :=
  Q6 Tryz.func37 Qf8 (by kernel_rfl) (by kernel_rfl) h

/- 117 -/
def Qcd : List GO := [qb 3 57 1]
def Qcc : List GO := [qm 5 0, qf 6 3 0, ql 7 6, qj 8 .lss 3 7 1, qm 9 8, qg 9 false (qf 10 3 0), qg 9 false (ql 11 10), qg 9 false (qj 12 .gtr 3 11 14), ⟨none, .pick 13 (.tmp 9) (.const (.bool true)) (.tmp 12)⟩, ⟨none, .call (some 14) 88 [(.tmp 5), (.tmp 13), (.const (vi 3))]⟩]
def Qcb : List GO := [qf 15 3 0, ql 16 15, ⟨none, .call (some 17) 153 [(.tmp 16)]⟩, qm 4 17]
def Qca : List GO := [qm 18 0, qm 19 4, ⟨none, .call (some 20) 154 [(.tmp 19), (.const (.int .u8 97))]⟩, ⟨none, .un 21 .not (.tmp 20)⟩, qm 22 21, qg 22 true (qf 23 3 1), qg 22 true (ql 24 23), qg 22 true (qj 25 .neq 3 24 0), ⟨none, .pick 26 (.tmp 22) (.tmp 25) (.const (.bool false))⟩, qm 27 26, qg 27 false (qm 28 4), ⟨some (27, false), .call (some 29) 154 [(.tmp 28), (.const (.int .u8 98))]⟩, ⟨some (27, false), .un 30 .not (.tmp 29)⟩, qg 27 false (qm 31 30), qg 31 true (qf 32 3 2), qg 31 true (ql 33 32), qg 31 true (qj 34 .neq 3 33 0), ⟨some (27, false), .pick 35 (.tmp 31) (.tmp 34) (.const (.bool false))⟩, ⟨none, .pick 36 (.tmp 27) (.const (.bool true)) (.tmp 35)⟩, qm 37 36, qg 37 false (qm 38 4), ⟨some (37, false), .call (some 39) 154 [(.tmp 38), (.const (.int .u8 99))]⟩, ⟨some (37, false), .un 40 .not (.tmp 39)⟩, qg 37 false (qm 41 40), qg 41 true (qf 42 3 3), qg 41 true (ql 43 42), qg 41 true (qj 44 .neq 3 43 0), ⟨some (37, false), .pick 45 (.tmp 41) (.tmp 44) (.const (.bool false))⟩, ⟨none, .pick 46 (.tmp 37) (.const (.bool true)) (.tmp 45)⟩, qm 47 46, qg 47 false (qm 48 4), ⟨some (47, false), .call (some 49) 154 [(.tmp 48), (.const (.int .u8 107))]⟩, ⟨some (47, false), .un 50 .not (.tmp 49)⟩, qg 47 false (qm 51 50), qg 51 true (qf 52 3 4), qg 51 true (ql 53 52), qg 51 true (qj 54 .neq 3 53 0), ⟨some (47, false), .pick 55 (.tmp 51) (.tmp 54) (.const (.bool false))⟩, ⟨none, .pick 56 (.tmp 47) (.const (.bool true)) (.tmp 55)⟩, qm 57 56, qg 57 false (qm 58 4), ⟨some (57, false), .call (some 59) 154 [(.tmp 58), (.const (.int .u8 110))]⟩, ⟨some (57, false), .un 60 .not (.tmp 59)⟩, qg 57 false (qm 61 60), qg 61 true (qf 62 3 5), qg 61 true (ql 63 62), qg 61 true (qj 64 .neq 2 63 0), ⟨some (57, false), .pick 65 (.tmp 61) (.tmp 64) (.const (.bool false))⟩, ⟨none, .pick 66 (.tmp 57) (.const (.bool true)) (.tmp 65)⟩, qm 67 66, qg 67 false (qm 68 4), ⟨some (67, false), .call (some 69) 154 [(.tmp 68), (.const (.int .u8 103))]⟩, ⟨some (67, false), .un 70 .not (.tmp 69)⟩, qg 67 false (qm 71 70), qg 71 true (qf 72 3 6), qg 71 true (ql 73 72), qg 71 true (qL 74 73), qg 71 true (qj 75 .gtr 3 74 0), ⟨some (67, false), .pick 76 (.tmp 71) (.tmp 75) (.const (.bool false))⟩, ⟨none, .pick 77 (.tmp 67) (.const (.bool true)) (.tmp 76)⟩, qm 78 77, qg 78 false (qm 79 4), ⟨some (78, false), .call (some 80) 154 [(.tmp 79), (.const (.int .u8 114))]⟩, ⟨some (78, false), .un 81 .not (.tmp 80)⟩, qg 78 false (qm 82 81), qg 82 true (qf 83 3 7), qg 82 true (ql 84 83), qg 82 true (qL 85 84), qg 82 true (qj 86 .gtr 3 85 0), ⟨some (78, false), .pick 87 (.tmp 82) (.tmp 86) (.const (.bool false))⟩, ⟨none, .pick 88 (.tmp 78) (.const (.bool true)) (.tmp 87)⟩, ⟨none, .call (some 89) 88 [(.tmp 18), (.tmp 88), (.const (vi 4))]⟩]
def Qc9 : List GO := [qf 90 3 0, ql 91 90]
def Qc8 : List GO := [qj 93 .eql 3 91 2, qm 92 93]
def Qc7 : List GO := [qm 94 0, qf 95 3 4, ql 96 95, qj 97 .lss 3 96 1, qm 98 97, qg 98 false (qf 99 3 4), qg 98 false (ql 100 99), qg 98 false (qj 101 .gtr 3 100 9), ⟨none, .pick 102 (.tmp 98) (.const (.bool true)) (.tmp 101)⟩, ⟨none, .call (some 103) 88 [(.tmp 94), (.tmp 102), (.const (vi 1))]⟩]
def Qc6 : List GO := [qj 105 .eql 3 91 5, qm 104 105]
def Qc5 : List GO := [qm 106 0, qf 107 3 7, ql 108 107, qL 109 108, qj 110 .gtr 3 109 8, ⟨none, .call (some 111) 88 [(.tmp 106), (.tmp 110), (.const (vi 2))]⟩]
def Qc4 : List GO := [qj 113 .eql 3 91 6, qm 112 113]
def Qaw : List GO := [qj 114 .eql 3 91 7, qm 112 114]
def Qav : List GO := [qm 115 0, qf 116 3 4, ql 117 116, qj 118 .lss 3 117 0, qm 119 118, qg 119 false (qf 120 3 4), qg 119 false (ql 121 120), qg 119 false (qj 122 .geq 3 121 8), ⟨none, .pick 123 (.tmp 119) (.const (.bool true)) (.tmp 122)⟩, ⟨none, .call (some 124) 88 [(.tmp 115), (.tmp 123), (.const (vi 1))]⟩]
def Qau : List GO := [qj 126 .eql 3 91 14, qm 125 126]
def Qat : List GO := [qm 127 0, qf 128 3 4, ql 129 128, qj 130 .lss 3 129 0, qm 131 130, qg 131 false (qf 132 3 4), qg 131 false (ql 133 132), qg 131 false (qm 134 0), qg 131 false (qn 135 134), qg 131 false (qf 136 135 0), qg 131 false (qf 137 136 0), qg 131 false (ql 138 137), qg 131 false (qL 139 138), qg 131 false (qt 140 .geq 3 133 139), ⟨none, .pick 141 (.tmp 131) (.const (.bool true)) (.tmp 140)⟩, ⟨none, .call (some 142) 88 [(.tmp 127), (.tmp 141), (.const (vi 1))]⟩]
def Qay : List (List Nat) := [[],[],[1],[2],[3],[4],[5,4],[4],[7,4],[8,4],[9,4],[10,4],[11,4],[6,12,4],[4,13],[0,14,4]]
def Qas : List GO := [qm 143 0, qf 144 3 6, ql 145 144, qL 146 145, qj 147 .gtr 3 146 6, qm 148 147, qg 148 false (qf 149 3 7), qg 148 false (ql 150 149), qg 148 false (qL 151 150), qg 148 false (qj 152 .gtr 3 151 8), ⟨none, .pick 153 (.tmp 148) (.const (.bool true)) (.tmp 152)⟩, ⟨none, .call (some 154) 88 [(.tmp 143), (.tmp 153), (.const (vi 2))]⟩]
def code_judge_ins_lc : LC := (.seq (.ops Qcd) (.seq (.ops Qcc) (.seq (.ops Qcb) (.seq (.ops Qca) (.seq (.ops Qc9) (.block 0 (.seq (.ops Qc8) (.cond (.tmp 92) (.ops Qc7) (.seq (.ops Qc6) (.cond (.tmp 104) (.ops Qc5) (.seq (.seq (.ops Qc4) (.cond (.tmp 112) .skip (.ops Qaw))) (.cond (.tmp 112) (.ops Qav) (.seq (.ops Qau) (.cond (.tmp 125) (.seq (.draw Qat Qay) (.ops Qas)) .skip))))))))))))))
@[reducible] def QY : FuncId := 117
theorem Qax : lowF Tryz.prog Tryz.f117 = some code_judge_ins_lc := by kernel_rfl
theorem Qce {a0 a1 : Value} {w : World} {R : Ending → World → Prop} (h : code_judge_ins_lc.wp Tryz.prog (retQ Tryz.prog [] R) (Ql [a0, a1]) w) : Calls Tryz.prog QY ⟨[a0, a1]⟩ w R :=
  Q6 Tryz.func117 Qax (by kernel_rfl) (by kernel_rfl) h

/- 99 -/
def Qp6 : List GO := [⟨none, .alloc 2 144 [(.bool false), (.bool false), (.bool false), (.bool false), (.bool false), (.bool false), (.bool false)]⟩, qk 3 (.bool false)]
def Qp5 : List GO := [qm 4 0]
def Qp4 : List GO := [qj 6 .eql 3 4 1, qm 5 6]
def Qp3 : List GO := [⟨none, .build 7 [(.bool false), (.bool false), (.bool false), (.bool false), (.bool false), (.bool false), (.bool false)] [(4, (1, (.const (.bool true))))]⟩, qw 7 2 7, qk 3 (.bool true)]
def Qp2 : List GO := [qj 9 .eql 3 4 2, qm 8 9]
def Qp1 : List GO := [qj 10 .eql 3 4 7, qm 8 10]
def Qp0 : List GO := [⟨none, .build 11 [(.bool false), (.bool false), (.bool false), (.bool false), (.bool false), (.bool false), (.bool false)] [(0, (1, (.const (.bool true)))), (1, (1, (.const (.bool true)))), (3, (1, (.const (.bool true))))]⟩, qw 7 2 11, qk 3 (.bool true)]
def QoZ : List GO := [qj 13 .eql 3 4 3, qm 12 13]
def QoY : List GO := [qj 14 .eql 3 4 12, qm 12 14]
def QoX : List GO := [⟨none, .build 15 [(.bool false), (.bool false), (.bool false), (.bool false), (.bool false), (.bool false), (.bool false)] []⟩, qw 7 2 15, qk 3 (.bool true)]
def QlX : List GO := [qj 17 .eql 3 4 4, qm 16 17]
def QlW : List GO := [qj 18 .eql 3 4 11, qm 16 18]
def QlV : List GO := [qj 19 .eql 3 4 13, qm 16 19]
def QlU : List GO := [⟨none, .build 20 [(.bool false), (.bool false), (.bool false), (.bool false), (.bool false), (.bool false), (.bool false)] [(0, (1, (.const (.bool true))))]⟩, qw 7 2 20, qk 3 (.bool true)]
def QlT : List GO := [qj 22 .eql 3 4 5, qm 21 22]
def QlS : List GO := [⟨none, .build 23 [(.bool false), (.bool false), (.bool false), (.bool false), (.bool false), (.bool false), (.bool false)] [(0, (1, (.const (.bool true)))), (6, (1, (.const (.bool true))))]⟩, qw 7 2 23, qk 3 (.bool true)]
def QlR : List GO := [qj 25 .eql 3 4 6, qm 24 25]
def QlQ : List GO := [⟨none, .build 26 [(.bool false), (.bool false), (.bool false), (.bool false), (.bool false), (.bool false), (.bool false)] [(0, (1, (.const (.bool true)))), (3, (1, (.const (.bool true))))]⟩, qw 7 2 26, qk 3 (.bool true)]
def QlP : List GO := [qj 28 .eql 3 4 8, qm 27 28]
def QlO : List GO := [qj 29 .eql 3 4 9, qm 27 29]
def QlN : List GO := [⟨none, .build 30 [(.bool false), (.bool false), (.bool false), (.bool false), (.bool false), (.bool false), (.bool false)] [(0, (1, (.const (.bool true)))), (1, (1, (.const (.bool true))))]⟩, qw 7 2 30, qk 3 (.bool true)]
def QlM : List GO := [qj 32 .eql 3 4 10, qm 31 32]
def QlL : List GO := [⟨none, .build 33 [(.bool false), (.bool false), (.bool false), (.bool false), (.bool false), (.bool false), (.bool false)] [(0, (1, (.const (.bool true)))), (1, (1, (.const (.bool true)))), (2, (1, (.const (.bool true))))]⟩, qw 7 2 33, qk 3 (.bool true)]
def QlK : List GO := [qj 35 .eql 3 4 14, qm 34 35]
def QlJ : List GO := [⟨none, .build 36 [(.bool false), (.bool false), (.bool false), (.bool false), (.bool false), (.bool false), (.bool false)] [(3, (1, (.const (.bool true)))), (5, (1, (.const (.bool true)))), (6, (1, (.const (.bool true))))]⟩, qw 7 2 36, qk 3 (.bool true)]
def QlI : List GO := [⟨none, .build 37 [(.bool false), (.bool false), (.bool false), (.bool false), (.bool false), (.bool false), (.bool false)] []⟩, qw 7 2 37, qk 3 (.bool false)]
def R_FieldsOf_lc : LC := (.seq (.ops Qp6) (.seq (.seq (.ops Qp5) (.block 0 (.seq (.ops Qp4) (.cond (.tmp 5) (.seq (.ops Qp3) .ret) (.seq (.seq (.ops Qp2) (.cond (.tmp 8) .skip (.ops Qp1))) (.cond (.tmp 8) (.seq (.ops Qp0) .ret) (.seq (.seq (.ops QoZ) (.cond (.tmp 12) .skip (.ops QoY))) (.cond (.tmp 12) (.seq (.ops QoX) .ret) (.seq (.seq (.ops QlX) (.cond (.tmp 16) .skip (.seq (.ops QlW) (.cond (.tmp 16) .skip (.ops QlV))))) (.cond (.tmp 16) (.seq (.ops QlU) .ret) (.seq (.ops QlT) (.cond (.tmp 21) (.seq (.ops QlS) .ret) (.seq (.ops QlR) (.cond (.tmp 24) (.seq (.ops QlQ) .ret) (.seq (.seq (.ops QlP) (.cond (.tmp 27) .skip (.ops QlO))) (.cond (.tmp 27) (.seq (.ops QlN) .ret) (.seq (.ops QlM) (.cond (.tmp 31) (.seq (.ops QlL) .ret) (.seq (.ops QlK) (.cond (.tmp 34) (.seq (.ops QlJ) .ret) .skip)))))))))))))))))))) (.seq (.ops QlI) .ret)))
@[reducible] def Qc : FuncId := 99
theorem QlY : lowF Tryz.prog Tryz.f99 = some R_FieldsOf_lc := by kernel_rfl
theorem QaM {a0 : Value} {w : World} {R : Ending → World → Prop} (h : R_FieldsOf_lc.wp Tryz.prog (retQ Tryz.prog [.cell 2 144, .tmp 3] R) (Ql [a0]) w) : Calls Tryz.prog Qc ⟨[a0]⟩ w R :=
  Q6 Tryz.func99 QlY (by kernel_rfl) (by kernel_rfl) h

/- 134 -/
def Qck : List GO := [qb 4 53 1, qb 5 45 2]
def Qcj : List GO := [qm 6 0, qf 7 5 0, ql 8 7, qj 9 .lss 3 8 1, qm 10 9, qg 10 false (qf 11 5 0), qg 10 false (ql 12 11), qg 10 false (qj 13 .gtr 3 12 3), ⟨none, .pick 14 (.tmp 10) (.const (.bool true)) (.tmp 13)⟩, ⟨none, .call (some 15) 88 [(.tmp 6), (.tmp 14), (.const (vi 3))]⟩]
def Qci : List GO := [qm 16 0, qf 17 5 0, ql 18 17, qj 19 .neq 3 18 2, qm 20 19, qg 20 true (qf 21 5 1), qg 20 true (ql 22 21), qg 20 true (qj 23 .neq 3 22 0), ⟨none, .pick 24 (.tmp 20) (.tmp 23) (.const (.bool false))⟩, qm 25 24, qg 25 false (qf 26 5 0), qg 25 false (ql 27 26), qg 25 false (qj 28 .neq 3 27 3), qg 25 false (qm 29 28), qg 29 true (qf 30 5 8), qg 29 true (ql 31 30), qg 29 true (qL 32 31), qg 29 true (qj 33 .gtr 3 32 0), ⟨some (25, false), .pick 34 (.tmp 29) (.tmp 33) (.const (.bool false))⟩, ⟨none, .pick 35 (.tmp 25) (.const (.bool true)) (.tmp 34)⟩, ⟨none, .call (some 36) 88 [(.tmp 16), (.tmp 35), (.const (vi 4))]⟩]
def Qch : List GO := [qm 37 0, qf 38 5 8, ql 39 38, qL 40 39, qj 41 .gtr 3 40 8, ⟨none, .call (some 42) 88 [(.tmp 37), (.tmp 41), (.const (vi 2))]⟩]
def Qcg : List GO := [qm 43 0, qV 44 4 4, qf 45 5 2, qV 46 3 45, qf 47 5 0, ql 48 47, qj 49 .neq 3 48 3, ⟨none, .call (some 50) 157 [(.tmp 43), (.tmp 44), (.tmp 46), (.tmp 49)]⟩]
def Qcf : List GO := [qm 51 0, qV 52 4 4, qf 53 5 5, qV 54 3 53, qf 55 5 0, ql 56 55, qj 57 .eql 3 56 2, ⟨none, .call (some 58) 157 [(.tmp 51), (.tmp 52), (.tmp 54), (.tmp 57)]⟩]
def code_judge_end_lc : LC := (.seq (.ops Qck) (.seq (.ops Qcj) (.seq (.ops Qci) (.seq (.ops Qch) (.seq (.ops Qcg) (.ops Qcf))))))
@[reducible] def Q7t : FuncId := 134
theorem QaB : lowF Tryz.prog Tryz.f134 = some code_judge_end_lc := by kernel_rfl
theorem Qcl {a0 a1 a2 : Value} {w : World} {R : Ending → World → Prop} (h : code_judge_end_lc.wp Tryz.prog (retQ Tryz.prog [] R) (Ql [a0, a1, a2]) w) : Calls Tryz.prog Q7t ⟨[a0, a1, a2]⟩ w R :=
  Q6 Tryz.func134 QaB (by kernel_rfl) (by kernel_rfl) h

/- 137 -/
def QsK : List GO := [qb 3 53 0, qb 4 43 1, qk 6 (vi 0)]
def QsJ : List GO := [qm 7 2, ⟨none, .un 8 .not (.tmp 7)⟩]
def QsI : List GO := [qf 9 4 0, ql 10 9, qj 11 .neq 3 10 0, qm 12 11, qg 12 false (qf 13 4 1), qg 12 false (ql 14 13), qg 12 false (qL 15 14), qg 12 false (qf 16 4 2), qg 12 false (ql 17 16), qg 12 false (qL 18 17), qg 12 false (qt 19 .add 3 15 18), qg 12 false (qj 20 .gtr 3 19 0), ⟨none, .pick 21 (.tmp 12) (.const (.bool true)) (.tmp 20)⟩]
def QsH : List GO := [qk 6 (vi 4)]
def QsG : List GO := [qk 6 (vi 0)]
def QsF : List GO := [qf 22 4 0, ql 23 22, qj 24 .lss 3 23 0, qm 25 24, qg 25 false (qf 26 4 0), qg 25 false (ql 27 26), qg 25 false (qf 28 3 3), qg 25 false (ql 29 28), qg 25 false (qL 30 29), qg 25 false (qt 31 .geq 3 27 30), ⟨none, .pick 32 (.tmp 25) (.const (.bool true)) (.tmp 31)⟩]
def QsE : List GO := [qk 6 (vi 1)]
def QsD : List GO := [qf 33 4 1, ql 34 33, qL 35 34, qj 36 .gtr 3 35 16, qm 37 36, qg 37 false (qf 38 4 2), qg 37 false (ql 39 38), qg 37 false (qL 40 39), qg 37 false (qj 41 .gtr 3 40 8), ⟨none, .pick 42 (.tmp 37) (.const (.bool true)) (.tmp 41)⟩]
def QsC : List GO := [qk 6 (vi 2)]
def QsB : List GO := [qk 6 (vi 0)]
def R_toForm_lc : LC := (.seq (.ops QsK) (.seq (.seq (.ops QsJ) (.cond (.tmp 8) (.seq (.seq (.ops QsI) (.cond (.tmp 21) (.seq (.ops QsH) .ret) .skip)) (.seq (.ops QsG) .ret)) .skip)) (.seq (.seq (.ops QsF) (.cond (.tmp 32) (.seq (.ops QsE) .ret) .skip)) (.seq (.seq (.ops QsD) (.cond (.tmp 42) (.seq (.ops QsC) .ret) .skip)) (.seq (.ops QsB) .ret)))))
@[reducible] def Q4a : FuncId := 137
theorem Qqz : lowF Tryz.prog Tryz.f137 = some R_toForm_lc := by kernel_rfl
theorem QhU {a0 a1 a2 : Value} {w : World} {R : Ending → World → Prop} (h : R_toForm_lc.wp Tryz.prog (retQ Tryz.prog [.tmp 6] R) (Ql [a0, a1, a2]) w) : Calls Tryz.prog Q4a ⟨[a0, a1, a2]⟩ w R :=
  Q6 Tryz.func137 Qqz (by kernel_rfl) (by kernel_rfl) h

/- 38 -/
def Qol : List GO := [qk 2 vn]
def Qok : List GO := [qk 3 vn]
def Qoj : List GO := [qk 4 (vi 0)]
def Qoi : List GO := [qm 5 4, qm 6 0, qL 7 6, qt 8 .lss 3 5 7]
def Qoh : List GO := [qm 11 3, qm 12 0, qm 13 4, qi 14 3 12 13, qV 15 3 14, ⟨none, .call (some 16) 87 [(.tmp 15)]⟩, ⟨none, .buildS 17 112 1 [(vi 0), (vi 0), vn] [(0, (3, (.tmp 16)))]⟩, ⟨none, .raw ⟨(some 18), (.call ⟨(.builtin .append), #[(.tmp 11), (.tmp 17)], #[50, 50]⟩), 50, "", #[], none⟩⟩, qm 3 18]
def Qog : List GO := [qm 9 4, qj 10 .add 3 9 1, qm 4 10]
def Q5m : LC := (.seq (.seq (.ops Qoi) (.cond (.tmp 8) .skip (.exit 0))) (.seq (.block 1 (.ops Qoh)) (.ops Qog)))
def Qof : List GO := [qm 19 3, qm 2 19]
def R_OwnTypes_lc : LC := (.seq (.ops Qol) (.seq (.ops Qok) (.seq (.seq (.ops Qoj) (.block 0 (.loop Q5m))) (.seq (.ops Qof) .ret))))
@[reducible] def Qcp : FuncId := 38
theorem Ql8 : lowF Tryz.prog Tryz.f38 = some R_OwnTypes_lc := by kernel_rfl
theorem QaJ {a0 : Value} {w : World} {R : Ending → World → Prop} (h : R_OwnTypes_lc.wp Tryz.prog (retQ Tryz.prog [.tmp 2] R) (Ql [a0]) w) : Calls Tryz.prog Qcp ⟨[a0]⟩ w R :=
  Q6 Tryz.func38 Ql8 (by kernel_rfl) (by kernel_rfl) h

/- 39 -/
/- 40 -/
/- 88 -/
def QaA : List GO := [qm 6 1, qm 7 6, qg 7 true (qm 8 0), qg 7 true (qn 9 8), qg 7 true (qf 10 9 1), qg 7 true (qf 11 10 0), qg 7 true (ql 12 11), qg 7 true (qj 13 .eql 3 12 0), ⟨none, .pick 14 (.tmp 7) (.tmp 13) (.const (.bool false))⟩]
def Qaz : List GO := [qm 15 0, qm 16 2, qm 17 0, qn 18 17, qf 19 18 3, ql 20 19, ⟨none, .build 21 [(vi 0), (vi 0)] [(0, (1, (.tmp 16))), (1, (1, (.tmp 20)))]⟩, qn 22 15, qf 23 22 1, qw 2 23 21]
def code_judge_fail_lc : LC := (.seq (.ops QaA) (.cond (.tmp 14) (.ops Qaz) .skip))
@[reducible] def Q3a : FuncId := 88
theorem Q8W : lowF Tryz.prog Tryz.f88 = some code_judge_fail_lc := by kernel_rfl
theorem Q39 {a0 a1 a2 : Value} {w : World} {R : Ending → World → Prop} (h : code_judge_fail_lc.wp Tryz.prog (retQ Tryz.prog [] R) (Ql [a0, a1, a2]) w) : Calls Tryz.prog Q3a ⟨[a0, a1, a2]⟩ w R :=
  Q6 Tryz.func88 Q8W (by kernel_rfl) (by kernel_rfl) h

/- 90 -/
def Qaq : List GO := [qm 9 0, qm 10 1, qL 11 10, qj 12 .gtr 3 11 8, ⟨none, .call (some 13) 88 [(.tmp 9), (.tmp 12), (.const (vi 2))]⟩]
def Qap : List GO := [qm 14 1, qL 15 14, qk 16 (vi 0)]
def Qao : List GO := [qt 17 .lss 3 16 15]
def Qan : List GO := [qi 18 3 14 16, qV 19 3 18, ⟨none, .alloc 7 112 [(vi 0), (vi 0), vn]⟩, qw 3 7 19]
def Qam : List GO := [qV 20 3 7, qm 21 2, ⟨none, .call (some 22) 142 [(.tmp 20), (.tmp 21)]⟩, qm 8 22]
def Qal : List GO := [qm 23 0, qm 24 8, qj 25 .neq 3 24 0, qm 26 8, ⟨none, .call (some 27) 88 [(.tmp 23), (.tmp 25), (.tmp 26)]⟩]
def Qak : List GO := [qj 28 .add 3 16 1, qm 16 28]
def Q48 : LC := (.seq (.ops Qao) (.seq (.cond (.tmp 17) .skip (.exit 0)) (.seq (.block 1 (.seq (.ops Qan) (.seq (.ops Qam) (.ops Qal)))) (.ops Qak))))
def code_judge_list_lc : LC := (.seq (.ops Qaq) (.seq (.ops Qap) (.block 0 (.loop Q48))))
@[reducible] def Q67 : FuncId := 90
theorem Q8V : lowF Tryz.prog Tryz.f90 = some code_judge_list_lc := by kernel_rfl
theorem Qar {a0 a1 a2 : Value} {w : World} {R : Ending → World → Prop} (h : code_judge_list_lc.wp Tryz.prog (retQ Tryz.prog [] R) (Ql [a0, a1, a2]) w) : Calls Tryz.prog Q67 ⟨[a0, a1, a2]⟩ w R :=
  Q6 Tryz.func90 Q8V (by kernel_rfl) (by kernel_rfl) h

/- 91 -/
def Q2e : List GO := [qk 4 (.bool false)]
def Q2d : List GO := [qm 5 0, qm 6 1, ⟨none, .call (some 7) 143 [(.tmp 5), (.tmp 6)]⟩, qj 8 .geq 3 7 0, qm 4 8]
def slices_ContainsFunc_api_Type_api_Type_lc : LC := (.seq (.ops Q2e) (.seq (.ops Q2d) .ret))
@[reducible] def Q1G : FuncId := 91
theorem Q2a : lowF Tryz.prog Tryz.f91 = some slices_ContainsFunc_api_Type_api_Type_lc := by kernel_rfl
theorem Q2f {a0 a1 : Value} {w : World} {R : Ending → World → Prop} (h : slices_ContainsFunc_api_Type_api_Type_lc.wp Tryz.prog (retQ Tryz.prog [.tmp 4] R) (Ql [a0, a1]) w) : Calls Tryz.prog Q1G ⟨[a0, a1]⟩ w R :=
  Q6 Tryz.func91 Q2a (by kernel_rfl) (by kernel_rfl) h

/- 92 -/
def QhH : List GO := [qb 1 112 0, qk 2 (.bool false)]
def QhG : List GO := [qf 3 1 0, ql 4 3, qj 5 .neq 3 4 1, qm 2 5]
def code_Check_1_lc : LC := (.seq (.ops QhH) (.seq (.ops QhG) .ret))
@[reducible] def Q49 : FuncId := 92
theorem Qf4 : lowF Tryz.prog Tryz.f92 = some code_Check_1_lc := by kernel_rfl
theorem QhI {a0 : Value} {w : World} {R : Ending → World → Prop} (h : code_Check_1_lc.wp Tryz.prog (retQ Tryz.prog [.tmp 2] R) (Ql [a0]) w) : Calls Tryz.prog Q49 ⟨[a0]⟩ w R :=
  Q6 Tryz.func92 Qf4 (by kernel_rfl) (by kernel_rfl) h

/- 93 -/
def Q96 : List GO := [qm 9 0, qn 10 9, qf 11 10 0, qf 12 11 0, ql 13 12, qm 14 1, qi 15 4 13 14, qV 16 4 15, ⟨none, .alloc 6 53 [(vi 0), vn, vn, vn]⟩, qw 4 6 16]
def Q95 : List GO := [qf 17 6 3, ql 18 17, qm 19 2, qi 20 12 18 19, qV 21 12 20, ⟨none, .alloc 7 79 [(vi 0), vn, vn, (vi 0), (vi 0), (vi 0), vn, vn, (vi 0), vn, vn, vn]⟩, qw 12 7 21]
def Q94 : List GO := [qm 22 0, qm 23 1, qm 24 2, ⟨none, .call (some 25) 144 [(.tmp 23), (.tmp 24)]⟩, qn 26 22, qf 27 26 3, qs 27 25]
def Q93 : List GO := [qm 28 0, qf 29 7 0, ql 30 29, qf 31 6 0, ql 32 31, qt 33 .lss 3 30 32, qm 34 33, qg 34 false (qf 35 7 0), qg 34 false (ql 36 35), qg 34 false (qj 37 .gtr 3 36 16), ⟨none, .pick 38 (.tmp 34) (.const (.bool true)) (.tmp 37)⟩, ⟨none, .call (some 39) 88 [(.tmp 28), (.tmp 38), (.const (vi 1))]⟩]
def Q92 : List GO := [qm 40 0, qf 41 7 1, ql 42 41, qf 43 7 0, ql 44 43, ⟨none, .call (some 45) 90 [(.tmp 40), (.tmp 42), (.tmp 44)]⟩]
def Q91 : List GO := [qm 46 0, qm 47 2, qj 48 .eql 3 47 0, qm 49 48, qg 49 true (qf 50 7 0), qg 49 true (ql 51 50), qg 49 true (qf 52 6 0), qg 49 true (ql 53 52), qg 49 true (qt 54 .neq 3 51 53), qg 49 true (qm 55 54), qg 55 false (qf 56 7 1), qg 55 false (ql 57 56), qg 55 false (qf 58 6 1), qg 55 false (ql 59 58), ⟨some (55, false), .call (some 60) 145 [(.tmp 57), (.tmp 59), (.func 127)]⟩, ⟨some (55, false), .un 61 .not (.tmp 60)⟩, ⟨some (49, true), .pick 62 (.tmp 55) (.const (.bool true)) (.tmp 61)⟩, ⟨none, .pick 63 (.tmp 49) (.tmp 62) (.const (.bool false))⟩, ⟨none, .call (some 64) 88 [(.tmp 46), (.tmp 63), (.const (vi 9))]⟩]
def Q90 : List GO := [qm 65 0, qf 66 7 2, ql 67 66, qL 68 67, qj 69 .gtr 3 68 40, ⟨none, .call (some 70) 88 [(.tmp 65), (.tmp 69), (.const (vi 2))]⟩]
def Q8Z : List GO := [qk 8 (vi 0)]
def Q8Y : List GO := [qm 71 8, qf 72 7 2, ql 73 72, qL 74 73, qt 75 .lss 3 71 74, qm 76 75, qg 76 true (qm 77 0), qg 76 true (qn 78 77), qg 76 true (qf 79 78 1), qg 76 true (qf 80 79 0), qg 76 true (ql 81 80), qg 76 true (qj 82 .eql 3 81 0), ⟨none, .pick 83 (.tmp 76) (.tmp 82) (.const (.bool false))⟩]
def Q8X : List GO := [qm 86 0, qm 87 1, qm 88 2, qm 89 8, ⟨none, .call (some 90) 139 [(.tmp 87), (.tmp 88), (.tmp 89)]⟩, qn 91 86, qf 92 91 3, qs 92 90]
def Q7l : List GO := [qm 93 0, qf 94 7 2, ql 95 94, qm 96 8, qi 97 8 95 96, qV 98 8 97, ⟨none, .call (some 99) 117 [(.tmp 93), (.tmp 98)]⟩]
def Q7k : List GO := [qm 84 8, qj 85 .add 3 84 1, qm 8 85]
def Q3V : LC := (.seq (.seq (.ops Q8Y) (.cond (.tmp 83) .skip (.exit 0))) (.seq (.block 1 (.seq (.ops Q8X) (.ops Q7l))) (.ops Q7k)))
def Q7j : List GO := [qm 100 0, qm 101 1, qm 102 2, ⟨none, .call (some 103) 140 [(.tmp 101), (.tmp 102)]⟩, qn 104 100, qf 105 104 3, qs 105 103]
def Q7i : List GO := [qm 106 0, qV 107 4 6, qf 108 7 3, qV 109 9 108, ⟨none, .call (some 110) 134 [(.tmp 106), (.tmp 107), (.tmp 109)]⟩]
def code_judge_block_lc : LC := (.seq (.ops Q96) (.seq (.ops Q95) (.seq (.ops Q94) (.seq (.ops Q93) (.seq (.ops Q92) (.seq (.ops Q91) (.seq (.ops Q90) (.seq (.seq (.ops Q8Z) (.block 0 (.loop Q3V))) (.seq (.ops Q7j) (.ops Q7i))))))))))
@[reducible] def Q2F : FuncId := 93
theorem Q7m : lowF Tryz.prog Tryz.f93 = some code_judge_block_lc := by kernel_rfl
theorem Q97 {a0 a1 a2 : Value} {w : World} {R : Ending → World → Prop} (h : code_judge_block_lc.wp Tryz.prog (retQ Tryz.prog [] R) (Ql [a0, a1, a2]) w) : Calls Tryz.prog Q2F ⟨[a0, a1, a2]⟩ w R :=
  Q6 Tryz.func93 Q7m (by kernel_rfl) (by kernel_rfl) h

/- 51 -/
def R_F_r0 : List GO := [⟨none, .alloc 4 30 [(vi 0), (vi 0)]⟩]
def R_F_r1 : List GO := [qm 5 0, qm 6 1, ⟨none, .build 7 [(vi 0), (vi 0)] [(0, (1, (.tmp 5))), (1, (1, (.tmp 6)))]⟩, qw 2 4 7]
def R_F_lc : LC := (.seq (.ops R_F_r0) (.seq (.ops R_F_r1) .ret))
@[reducible] def R_F : FuncId := 51
theorem R_F_low : lowF Tryz.prog Tryz.f51 = some R_F_lc := by kernel_rfl
theorem R_F_in {a0 a1 : Value} {w : World} {R : Ending → World → Prop} (h : R_F_lc.wp Tryz.prog (retQ Tryz.prog [.cell 4 30] R) (Ql [a0, a1]) w) : Calls Tryz.prog R_F ⟨[a0, a1]⟩ w R :=
  Q6 Tryz.func51 R_F_low (by kernel_rfl) (by kernel_rfl) h

/- 65 -/
def QnR : List GO := [qk 4 (vi 0)]
def QnQ : List GO := [qm 7 0, qL 8 7, qj 9 .gtr 3 8 8]
def QnP : List GO := [qk 4 (vi 2)]
def QnO : List GO := [qk 5 (vi 0)]
def QnN : List GO := [qm 10 5, qm 11 0, qL 12 11, qt 13 .lss 3 10 12]
def QnM : List GO := [qm 16 0, qm 17 5, qi 18 3 16 17, qV 19 3 18, qm 20 1, ⟨none, .call (some 21) 115 [(.tmp 19), (.tmp 20)]⟩, qm 6 21]
def QnL : List GO := [qm 22 6, qj 23 .neq 3 22 0]
def QnK : List GO := [qm 24 6, qm 4 24]
def QnJ : List GO := [qm 14 5, qj 15 .add 3 14 1, qm 5 15]
def QaH : LC := (.seq (.seq (.ops QnN) (.cond (.tmp 13) .skip (.exit 0))) (.seq (.block 1 (.seq (.ops QnM) (.seq (.ops QnL) (.cond (.tmp 23) (.seq (.ops QnK) .ret) .skip)))) (.ops QnJ)))
def QnI : List GO := [qk 4 (vi 0)]
def R_listForm_lc : LC := (.seq (.ops QnR) (.seq (.seq (.ops QnQ) (.cond (.tmp 9) (.seq (.ops QnP) .ret) .skip)) (.seq (.seq (.ops QnO) (.block 0 (.loop QaH))) (.seq (.ops QnI) .ret))))
@[reducible] def Q3F : FuncId := 65
theorem QkP : lowF Tryz.prog Tryz.f65 = some R_listForm_lc := by kernel_rfl
theorem QnS {a0 a1 : Value} {w : World} {R : Ending → World → Prop} (h : R_listForm_lc.wp Tryz.prog (retQ Tryz.prog [.tmp 4] R) (Ql [a0, a1]) w) : Calls Tryz.prog Q3F ⟨[a0, a1]⟩ w R :=
  Q6 Tryz.func65 QkP (by kernel_rfl) (by kernel_rfl) h

/- 66 -/
def Qie : List GO := [qb 3 24 0, ⟨none, .alloc 6 30 [(vi 0), (vi 0)]⟩]
def Qid : List GO := [qf 13 3 0, ql 14 13, qm 15 1, qi 16 4 14 15, qV 17 4 16, ⟨none, .alloc 7 53 [(vi 0), vn, vn, vn]⟩, qw 4 7 17]
def Qic : List GO := [qf 18 7 3, ql 19 18, qm 20 2, qi 21 12 19 20, qV 22 12 21, ⟨none, .alloc 8 79 [(vi 0), vn, vn, (vi 0), (vi 0), (vi 0), vn, vn, (vi 0), vn, vn, vn]⟩, qw 12 8 22]
def Qib : List GO := [qf 23 8 0, ql 24 23, qf 25 7 0, ql 26 25, qt 27 .lss 3 24 26, qm 28 27, qg 28 false (qf 29 8 0), qg 28 false (ql 30 29), qg 28 false (qj 31 .gtr 3 30 16), ⟨none, .pick 32 (.tmp 28) (.const (.bool true)) (.tmp 31)⟩]
def Qia : List GO := [qm 33 1, qm 34 2, ⟨none, .call (some 35) 116 [(.tmp 33), (.tmp 34)]⟩, ⟨none, .call (some 36) 51 [(.const (vi 1)), (.tmp 35)]⟩, qw 2 6 36]
def Qi9 : List GO := [qf 37 8 1, ql 38 37, qf 39 8 0, ql 40 39, ⟨none, .call (some 41) 65 [(.tmp 38), (.tmp 40)]⟩, qm 9 41]
def Qi8 : List GO := [qm 42 9, qj 43 .neq 3 42 0]
def Qi7 : List GO := [qm 44 9, qm 45 1, qm 46 2, ⟨none, .call (some 47) 116 [(.tmp 45), (.tmp 46)]⟩, ⟨none, .call (some 48) 51 [(.tmp 44), (.tmp 47)]⟩, qw 2 6 48]
def Qi6 : List GO := [qm 49 2, qj 50 .eql 3 49 0, qm 51 50, qg 51 true (qf 52 8 0), qg 51 true (ql 53 52), qg 51 true (qf 54 7 0), qg 51 true (ql 55 54), qg 51 true (qt 56 .neq 3 53 55), qg 51 true (qm 57 56), qg 57 false (qf 58 8 1), qg 57 false (ql 59 58), qg 57 false (qf 60 7 1), qg 57 false (ql 61 60), ⟨some (57, false), .call (some 62) 23 [(.tmp 59), (.tmp 61)]⟩, ⟨some (57, false), .un 63 .not (.tmp 62)⟩, ⟨some (51, true), .pick 64 (.tmp 57) (.const (.bool true)) (.tmp 63)⟩, ⟨none, .pick 65 (.tmp 51) (.tmp 64) (.const (.bool false))⟩]
def Qi5 : List GO := [qm 66 1, qm 67 2, ⟨none, .call (some 68) 116 [(.tmp 66), (.tmp 67)]⟩, ⟨none, .call (some 69) 51 [(.const (vi 9)), (.tmp 68)]⟩, qw 2 6 69]
def Qfk : List GO := [qf 70 8 2, ql 71 70, qL 72 71, qj 73 .gtr 3 72 40]
def Qfj : List GO := [qm 74 1, qm 75 2, ⟨none, .call (some 76) 116 [(.tmp 74), (.tmp 75)]⟩, ⟨none, .call (some 77) 51 [(.const (vi 2)), (.tmp 76)]⟩, qw 2 6 77]
def Qfi : List GO := [qk 10 (vi 0)]
def Qfh : List GO := [qm 78 10, qf 79 8 2, ql 80 79, qL 81 80, qt 82 .lss 3 78 81]
def Qfg : List GO := [qV 85 1 3, qf 86 8 2, ql 87 86, qm 88 10, qi 89 8 87 88, qV 90 8 89, ⟨none, .call (some 91) 72 [(.tmp 85), (.tmp 90)]⟩, qm 11 91]
def Qfm : List (List Nat) := [[],[],[1],[],[2,3],[4],[0,5],[6,6,0,1,2,3,4,5,6]]
def Qff : List GO := [qm 92 11, qj 93 .neq 3 92 0]
def Qfe : List GO := [qm 94 11, qm 95 1, qm 96 2, qm 97 10, ⟨none, .call (some 98) 84 [(.tmp 95), (.tmp 96), (.tmp 97)]⟩, ⟨none, .call (some 99) 51 [(.tmp 94), (.tmp 98)]⟩, qw 2 6 99]
def Qfd : List GO := [qm 83 10, qj 84 .add 3 83 1, qm 10 84]
def Q5t : LC := (.seq (.seq (.ops Qfh) (.cond (.tmp 82) .skip (.exit 0))) (.seq (.block 1 (.seq (.draw Qfg Qfm) (.seq (.ops Qff) (.cond (.tmp 93) (.seq (.ops Qfe) .ret) .skip)))) (.ops Qfd)))
def Qfc : List GO := [qV 100 4 7, qf 101 8 3, qV 102 9 101, ⟨none, .call (some 103) 79 [(.tmp 100), (.tmp 102)]⟩, qm 12 103]
def Qfb : List GO := [qm 104 12, qj 105 .neq 3 104 0]
def Qfa : List GO := [qm 106 12, qm 107 1, qm 108 2, ⟨none, .call (some 109) 85 [(.tmp 107), (.tmp 108)]⟩, ⟨none, .call (some 110) 51 [(.tmp 106), (.tmp 109)]⟩, qw 2 6 110]
def Qf9 : List GO := [⟨none, .build 111 [(vi 0), (vi 0)] []⟩, qw 2 6 111]
def R_blockFault_lc : LC := (.seq (.ops Qie) (.seq (.ops Qid) (.seq (.ops Qic) (.seq (.seq (.ops Qib) (.cond (.tmp 32) (.seq (.ops Qia) .ret) .skip)) (.seq (.seq (.ops Qi9) (.seq (.ops Qi8) (.cond (.tmp 43) (.seq (.ops Qi7) .ret) .skip))) (.seq (.seq (.ops Qi6) (.cond (.tmp 65) (.seq (.ops Qi5) .ret) .skip)) (.seq (.seq (.ops Qfk) (.cond (.tmp 73) (.seq (.ops Qfj) .ret) .skip)) (.seq (.seq (.ops Qfi) (.block 0 (.loop Q5t))) (.seq (.seq (.ops Qfc) (.seq (.ops Qfb) (.cond (.tmp 105) (.seq (.ops Qfa) .ret) .skip))) (.seq (.ops Qf9) .ret))))))))))
@[reducible] def Q14 : FuncId := 66
theorem Qfl : lowF Tryz.prog Tryz.f66 = some R_blockFault_lc := by kernel_rfl
theorem Qif {a0 a1 a2 : Value} {w : World} {R : Ending → World → Prop} (h : R_blockFault_lc.wp Tryz.prog (retQ Tryz.prog [.cell 6 30] R) (Ql [a0, a1, a2]) w) : Calls Tryz.prog Q14 ⟨[a0, a1, a2]⟩ w R :=
  Q6 Tryz.func66 Qfl (by kernel_rfl) (by kernel_rfl) h

/- 52 -/
/- 112 -/
def QeW : List GO := [qk 2 vn]
def QeV : List GO := [qk 3 vn]
def QeU : List GO := [qm 6 0, qL 7 6, qk 8 (vi 0)]
def QeT : List GO := [qt 9 .lss 3 8 7]
def QeS : List GO := [qi 10 3 6 8, qV 11 3 10, ⟨none, .alloc 5 112 [(vi 0), (vi 0), vn]⟩, qw 3 5 11]
def QeR : List GO := [qm 12 3, qV 13 3 5, ⟨none, .call (some 14) 151 [(.tmp 13)]⟩, ⟨none, .buildS 15 112 1 [(vi 0), (vi 0), vn] [(0, (3, (.tmp 14)))]⟩, ⟨none, .raw ⟨(some 16), (.call ⟨(.builtin .append), #[(.tmp 12), (.tmp 15)], #[50, 50]⟩), 50, "", #[], none⟩⟩, qm 3 16]
def QeQ : List GO := [qj 17 .add 3 8 1, qm 8 17]
def Q5q : LC := (.seq (.ops QeT) (.seq (.cond (.tmp 9) .skip (.exit 0)) (.seq (.block 1 (.seq (.ops QeS) (.ops QeR))) (.ops QeQ))))
def QeP : List GO := [qm 18 3, qm 2 18]
def code_ownTypes_lc : LC := (.seq (.ops QeW) (.seq (.ops QeV) (.seq (.seq (.ops QeU) (.block 0 (.loop Q5q))) (.seq (.ops QeP) .ret))))
@[reducible] def Q5j : FuncId := 112
theorem Qc2 : lowF Tryz.prog Tryz.f112 = some code_ownTypes_lc := by kernel_rfl
theorem QeX {a0 : Value} {w : World} {R : Ending → World → Prop} (h : code_ownTypes_lc.wp Tryz.prog (retQ Tryz.prog [.tmp 2] R) (Ql [a0]) w) : Calls Tryz.prog Q5j ⟨[a0]⟩ w R :=
  Q6 Tryz.func112 Qc2 (by kernel_rfl) (by kernel_rfl) h

/- 113 -/
def Qnd : List GO := [qb 1 43 0, ⟨none, .alloc 2 43 [(vi 0), vn, vn]⟩]
def Qnc : List GO := [qf 3 1 0, ql 4 3, qf 5 1 1, ql 6 5, ⟨none, .call (some 7) 114 [(.tmp 6)]⟩, qf 8 1 2, ql 9 8, ⟨none, .call (some 10) 114 [(.tmp 9)]⟩, ⟨none, .build 11 [(vi 0), vn, vn] [(0, (1, (.tmp 4))), (1, (1, (.tmp 7))), (2, (1, (.tmp 10)))]⟩, qw 3 2 11]
def Qnf : List (List Nat) := [[],[0],[],[2],[3],[],[5],[6,4],[1,4,7],[8,7,0,1,2,3,4,5,6,7,8]]
def code_ownTo_lc : LC := (.seq (.ops Qnd) (.seq (.draw Qnc Qnf) .ret))
@[reducible] def Qmp : FuncId := 113
theorem Qkm : lowF Tryz.prog Tryz.f113 = some code_ownTo_lc := by kernel_rfl
theorem Qne {a0 : Value} {w : World} {R : Ending → World → Prop} (h : code_ownTo_lc.wp Tryz.prog (retQ Tryz.prog [.cell 2 43] R) (Ql [a0]) w) : Calls Tryz.prog Qmp ⟨[a0]⟩ w R :=
  Q6 Tryz.func113 Qkm (by kernel_rfl) (by kernel_rfl) h

/- 114 -/
def Q53 : List GO := [qk 2 vn]
def Q52 : List GO := [qm 3 0, ⟨none, .bin 4 .eql 41 (.tmp 3) (.const vn)⟩]
def Q51 : List GO := [qk 2 vn]
def Q50 : List GO := [⟨none, .raw ⟨(some 5), (.buildSlice 41 0 #[]), 41, "", #[], none⟩⟩, qm 6 0, ⟨none, .raw ⟨(some 7), (.call ⟨(.builtin .append), #[(.tmp 5), (.tmp 6)], #[41, 41]⟩), 41, "", #[], none⟩⟩, qm 2 7]
def slices_Clone_int_int_lc : LC := (.seq (.ops Q53) (.seq (.seq (.ops Q52) (.cond (.tmp 4) (.seq (.ops Q51) .ret) .skip)) (.seq (.ops Q50) .ret)))
@[reducible] def Q2y : FuncId := 114
theorem Q4u : lowF Tryz.prog Tryz.f114 = some slices_Clone_int_int_lc := by kernel_rfl
theorem Q2T {a0 : Value} {w : World} {R : Ending → World → Prop} (h : slices_Clone_int_int_lc.wp Tryz.prog (retQ Tryz.prog [.tmp 2] R) (Ql [a0]) w) : Calls Tryz.prog Q2y ⟨[a0]⟩ w R :=
  Q6 Tryz.func114 Q4u (by kernel_rfl) (by kernel_rfl) h

/- 145 -/
def Q1y : List GO := [qk 6 (.bool false)]
def Q1x : List GO := [qm 10 0, qL 11 10, qm 12 1, qL 13 12, qt 14 .neq 3 11 13]
def Q1w : List GO := [qk 6 (.bool false)]
def Q1v : List GO := [qm 15 0, qL 16 15, qk 17 (vi 0)]
def Q1u : List GO := [qt 18 .lss 3 17 16]
def Q1t : List GO := [qm 19 17, qi 20 3 15 17, qV 21 3 20, ⟨none, .alloc 8 112 [(vi 0), (vi 0), vn]⟩, qm 7 19, qw 3 8 21]
def Q1s : List GO := [qm 22 1, qm 23 7, qi 24 3 22 23, qV 25 3 24, ⟨none, .alloc 9 112 [(vi 0), (vi 0), vn]⟩, qw 3 9 25]
def Q1r : List GO := [qm 26 2, qV 27 3 8, qV 28 3 9, ⟨none, .callv (some 29) (.tmp 26) [(.tmp 27), (.tmp 28)]⟩, ⟨none, .un 30 .not (.tmp 29)⟩]
def Q1q : List GO := [qk 6 (.bool false)]
def Q1p : List GO := [qj 31 .add 3 17 1, qm 17 31]
def QP : LC := (.seq (.ops Q1u) (.seq (.cond (.tmp 18) .skip (.exit 0)) (.seq (.block 1 (.seq (.ops Q1t) (.seq (.ops Q1s) (.seq (.ops Q1r) (.cond (.tmp 30) (.seq (.ops Q1q) .ret) .skip))))) (.ops Q1p))))
def Q1m : List GO := [qk 6 (.bool true)]
def slices_EqualFunc_api_Type_api_Type_api_Type_api_Type_lc : LC := (.seq (.ops Q1y) (.seq (.seq (.ops Q1x) (.cond (.tmp 14) (.seq (.ops Q1w) .ret) .skip)) (.seq (.seq (.ops Q1v) (.block 0 (.loop QP))) (.seq (.ops Q1m) .ret))))
@[reducible] def Qk : FuncId := 145
theorem Q1n : lowF Tryz.prog Tryz.f145 = some slices_EqualFunc_api_Type_api_Type_api_Type_api_Type_lc := by kernel_rfl
theorem Q1z {a0 a1 a2 : Value} {w : World} {R : Ending → World → Prop} (h : slices_EqualFunc_api_Type_api_Type_api_Type_api_Type_lc.wp Tryz.prog (retQ Tryz.prog [.tmp 6] R) (Ql [a0, a1, a2]) w) : Calls Tryz.prog Qk ⟨[a0, a1, a2]⟩ w R :=
  Q6 Tryz.func145 Q1n (by kernel_rfl) (by kernel_rfl) h

/- 127 -/
def QmJ : List GO := [qb 2 112 0, qb 3 112 1, qk 4 (.bool false)]
def QmI : List GO := [qf 5 2 0, ql 6 5, qf 7 3 0, ql 8 7, qt 9 .eql 3 6 8, qm 10 9, qg 10 true (qf 11 2 1), qg 10 true (ql 12 11), qg 10 true (qf 13 3 1), qg 10 true (ql 14 13), qg 10 true (qt 15 .eql 3 12 14), ⟨none, .pick 16 (.tmp 10) (.tmp 15) (.const (.bool false))⟩, qm 17 16, qg 17 true (qf 18 2 2), qg 17 true (ql 19 18), qg 17 true (qf 20 3 2), qg 17 true (ql 21 20), ⟨some (17, true), .call (some 22) 145 [(.tmp 19), (.tmp 21), (.func 127)]⟩, ⟨none, .pick 23 (.tmp 17) (.tmp 22) (.const (.bool false))⟩, qm 4 23]
def types_Same_lc : LC := (.seq (.ops QmJ) (.seq (.ops QmI) .ret))
@[reducible] def Qmb : FuncId := 127
theorem Qka : lowF Tryz.prog Tryz.f127 = some types_Same_lc := by kernel_rfl
theorem QmK {a0 a1 : Value} {w : World} {R : Ending → World → Prop} (h : types_Same_lc.wp Tryz.prog (retQ Tryz.prog [.tmp 4] R) (Ql [a0, a1]) w) : Calls Tryz.prog Qmb ⟨[a0, a1]⟩ w R :=
  Q6 Tryz.func127 Qka (by kernel_rfl) (by kernel_rfl) h

/- 74 -/
def QnV : List GO := [qb 2 112 0, qb 3 112 1, qk 4 (.bool false)]
def QnU : List GO := [qf 5 2 0, ql 6 5, qf 7 3 0, ql 8 7, qt 9 .eql 3 6 8, qm 10 9, qg 10 true (qf 11 2 1), qg 10 true (ql 12 11), qg 10 true (qf 13 3 1), qg 10 true (ql 14 13), qg 10 true (qt 15 .eql 3 12 14), ⟨none, .pick 16 (.tmp 10) (.tmp 15) (.const (.bool false))⟩, qm 17 16, qg 17 true (qf 18 2 2), qg 17 true (ql 19 18), qg 17 true (qf 20 3 2), qg 17 true (ql 21 20), ⟨some (17, true), .call (some 22) 23 [(.tmp 19), (.tmp 21)]⟩, ⟨none, .pick 23 (.tmp 17) (.tmp 22) (.const (.bool false))⟩, qm 4 23]
def R_SameType_lc : LC := (.seq (.ops QnV) (.seq (.ops QnU) .ret))
@[reducible] def Qco : FuncId := 74
theorem Ql6 : lowF Tryz.prog Tryz.f74 = some R_SameType_lc := by kernel_rfl
theorem QnW {a0 a1 : Value} {w : World} {R : Ending → World → Prop} (h : R_SameType_lc.wp Tryz.prog (retQ Tryz.prog [.tmp 4] R) (Ql [a0, a1]) w) : Calls Tryz.prog Qco ⟨[a0, a1]⟩ w R :=
  Q6 Tryz.func74 Ql6 (by kernel_rfl) (by kernel_rfl) h

/- 86 -/
def QlG : List GO := [qb 1 112 0, qk 2 (.bool false)]
def QlF : List GO := [qV 3 3 1, ⟨none, .call (some 4) 141 [(.tmp 3), (.const (vi 2000))]⟩, qj 5 .lss 3 4 0, qm 2 5]
def R_GreatType_lc : LC := (.seq (.ops QlG) (.seq (.ops QlF) .ret))
@[reducible] def Qjy : FuncId := 86
theorem Qjx : lowF Tryz.prog Tryz.f86 = some R_GreatType_lc := by kernel_rfl
theorem QlH {a0 : Value} {w : World} {R : Ending → World → Prop} (h : R_GreatType_lc.wp Tryz.prog (retQ Tryz.prog [.tmp 2] R) (Ql [a0]) w) : Calls Tryz.prog Qjy ⟨[a0]⟩ w R :=
  Q6 Tryz.func86 Qjx (by kernel_rfl) (by kernel_rfl) h

/- 153 -/
def Qsb : List GO := [qk 2 (.string ⟨#[]⟩)]
def Qsa : List GO := [qm 3 0, qj 4 .lss 3 3 1, qm 5 4, qg 5 false (qm 6 0), qg 5 false (qj 7 .gtr 3 6 14), ⟨none, .pick 8 (.tmp 5) (.const (.bool true)) (.tmp 7)⟩]
def Qs9 : List GO := [qk 2 (.string ⟨#[]⟩)]
def Qs8 : List GO := [⟨none, .build 9 [(.string ⟨#[]⟩), (.string ⟨#[]⟩), (.string ⟨#[]⟩), (.string ⟨#[]⟩), (.string ⟨#[]⟩), (.string ⟨#[]⟩), (.string ⟨#[]⟩), (.string ⟨#[]⟩), (.string ⟨#[]⟩), (.string ⟨#[]⟩), (.string ⟨#[]⟩), (.string ⟨#[]⟩), (.string ⟨#[]⟩), (.string ⟨#[]⟩), (.string ⟨#[]⟩)] [(0, (1, (.const (.string ⟨#[]⟩)))), (1, (1, (.const (.string ⟨#[110]⟩)))), (2, (1, (.const (.string ⟨#[97, 98, 107]⟩)))), (3, (1, (.const (.string ⟨#[]⟩)))), (4, (1, (.const (.string ⟨#[97]⟩)))), (5, (1, (.const (.string ⟨#[97, 114]⟩)))), (6, (1, (.const (.string ⟨#[97, 107]⟩)))), (7, (1, (.const (.string ⟨#[97, 98, 107]⟩)))), (8, (1, (.const (.string ⟨#[97, 98]⟩)))), (9, (1, (.const (.string ⟨#[97, 98]⟩)))), (10, (1, (.const (.string ⟨#[97, 98, 99]⟩)))), (11, (1, (.const (.string ⟨#[97]⟩)))), (12, (1, (.const (.string ⟨#[]⟩)))), (13, (1, (.const (.string ⟨#[97]⟩)))), (14, (1, (.const (.string ⟨#[107, 103, 114]⟩))))]⟩, qm 10 0, ⟨none, .raw ⟨(some 11), (.index 183 (.tmp 9) (.tmp 10)), 9, "", #[], none⟩⟩, qm 2 11]
def code_has_lc : LC := (.seq (.ops Qsb) (.seq (.seq (.ops Qsa) (.cond (.tmp 8) (.seq (.ops Qs9) .ret) .skip)) (.seq (.ops Qs8) .ret)))
@[reducible] def Qtp : FuncId := 153
theorem Qqe : lowF Tryz.prog Tryz.f153 = some code_has_lc := by kernel_rfl
theorem QhB {a0 : Value} {w : World} {R : Ending → World → Prop} (h : code_has_lc.wp Tryz.prog (retQ Tryz.prog [.tmp 2] R) (Ql [a0]) w) : Calls Tryz.prog Qtp ⟨[a0]⟩ w R :=
  Q6 Tryz.func153 Qqe (by kernel_rfl) (by kernel_rfl) h

/- 154 -/
def Qqb : List GO := [qk 4 (.bool false)]
def Qqa : List GO := [qm 5 0, ⟨none, .raw ⟨(some 6), (.convert 9 25 (.tmp 5)), 25, "", #[], none⟩⟩, qm 7 1, ⟨none, .call (some 8) 163 [(.tmp 6), (.tmp 7)]⟩, qm 4 8]
def code_with_lc : LC := (.seq (.ops Qqb) (.seq (.ops Qqa) .ret))
@[reducible] def Qqd : FuncId := 154
theorem Qnb : lowF Tryz.prog Tryz.f154 = some code_with_lc := by kernel_rfl
theorem Qqc {a0 a1 : Value} {w : World} {R : Ending → World → Prop} (h : code_with_lc.wp Tryz.prog (retQ Tryz.prog [.tmp 4] R) (Ql [a0, a1]) w) : Calls Tryz.prog Qqd ⟨[a0, a1]⟩ w R :=
  Q6 Tryz.func154 Qnb (by kernel_rfl) (by kernel_rfl) h

/- 157 -/
def Qf3 : List GO := [qb 5 53 1, qb 6 43 2]
def Qf2 : List GO := [qm 8 3, ⟨none, .un 9 .not (.tmp 8)⟩]
def Qf1 : List GO := [qm 10 0, qf 11 6 0, ql 12 11, qj 13 .neq 3 12 0, qm 14 13, qg 14 false (qf 15 6 1), qg 14 false (ql 16 15), qg 14 false (qL 17 16), qg 14 false (qj 18 .gtr 3 17 0), ⟨none, .pick 19 (.tmp 14) (.const (.bool true)) (.tmp 18)⟩, qm 20 19, qg 20 false (qf 21 6 2), qg 20 false (ql 22 21), qg 20 false (qL 23 22), qg 20 false (qj 24 .gtr 3 23 0), ⟨none, .pick 25 (.tmp 20) (.const (.bool true)) (.tmp 24)⟩, ⟨none, .call (some 26) 88 [(.tmp 10), (.tmp 25), (.const (vi 4))]⟩]
def Qf0 : List GO := [qm 27 0, qf 28 6 0, ql 29 28, qj 30 .lss 3 29 0, qm 31 30, qg 31 false (qf 32 6 0), qg 31 false (ql 33 32), qg 31 false (qf 34 5 3), qg 31 false (ql 35 34), qg 31 false (qL 36 35), qg 31 false (qt 37 .geq 3 33 36), ⟨none, .pick 38 (.tmp 31) (.const (.bool true)) (.tmp 37)⟩, ⟨none, .call (some 39) 88 [(.tmp 27), (.tmp 38), (.const (vi 1))]⟩]
def QeZ : List GO := [qm 40 0, qf 41 6 1, ql 42 41, qL 43 42, qj 44 .gtr 3 43 16, qm 45 44, qg 45 false (qf 46 6 2), qg 45 false (ql 47 46), qg 45 false (qL 48 47), qg 45 false (qj 49 .gtr 3 48 8), ⟨none, .pick 50 (.tmp 45) (.const (.bool true)) (.tmp 49)⟩, ⟨none, .call (some 51) 88 [(.tmp 40), (.tmp 50), (.const (vi 2))]⟩]
def code_judge_to_lc : LC := (.seq (.ops Qf3) (.seq (.seq (.ops Qf2) (.cond (.tmp 9) (.seq (.ops Qf1) .ret) .skip)) (.seq (.ops Qf0) (.ops QeZ))))
@[reducible] def Qaj : FuncId := 157
theorem Qc3 : lowF Tryz.prog Tryz.f157 = some code_judge_to_lc := by kernel_rfl
theorem Q5r {a0 a1 a2 a3 : Value} {w : World} {R : Ending → World → Prop} (h : code_judge_to_lc.wp Tryz.prog (retQ Tryz.prog [] R) (Ql [a0, a1, a2, a3]) w) : Calls Tryz.prog Qaj ⟨[a0, a1, a2, a3]⟩ w R :=
  Q6 Tryz.func157 Qc3 (by kernel_rfl) (by kernel_rfl) h

/- 87 -/
def QqM : List GO := [qb 1 112 0, ⟨none, .alloc 2 112 [(vi 0), (vi 0), vn]⟩]
def QqL : List GO := [qf 3 1 0, ql 4 3, qf 5 1 1, ql 6 5, qf 7 1 2, ql 8 7, ⟨none, .call (some 9) 38 [(.tmp 8)]⟩, ⟨none, .build 10 [(vi 0), (vi 0), vn] [(0, (1, (.tmp 4))), (1, (1, (.tmp 6))), (2, (1, (.tmp 9)))]⟩, qw 3 2 10]
def QqO : List (List Nat) := [[],[0],[],[2],[],[4],[5],[1,3,6],[7,6,0,1,2,3,4,5,6,7]]
def R_OwnType_lc : LC := (.seq (.ops QqM) (.seq (.draw QqL QqO) .ret))
@[reducible] def Qii : FuncId := 87
theorem Qom : lowF Tryz.prog Tryz.f87 = some R_OwnType_lc := by kernel_rfl
theorem QqN {a0 : Value} {w : World} {R : Ending → World → Prop} (h : R_OwnType_lc.wp Tryz.prog (retQ Tryz.prog [.cell 2 112] R) (Ql [a0]) w) : Calls Tryz.prog Qii ⟨[a0]⟩ w R :=
  Q6 Tryz.func87 Qom (by kernel_rfl) (by kernel_rfl) h

/- 142 -/
def Qke : List GO := [qb 2 112 0, qk 4 (vi 0)]
def Qkd : List GO := [qV 5 3 2, ⟨none, .call (some 6) 159 [(.tmp 5), (.const (vi 4))]⟩, ⟨none, .un 7 .not (.tmp 6)⟩]
def Qkc : List GO := [qk 4 (vi 19)]
def Qkb : List GO := [qV 8 3 2, qm 9 1, ⟨none, .call (some 10) 160 [(.tmp 8), (.tmp 9)]⟩, qm 4 10]
def types_Check_lc : LC := (.seq (.ops Qke) (.seq (.seq (.ops Qkd) (.cond (.tmp 7) (.seq (.ops Qkc) .ret) .skip)) (.seq (.ops Qkb) .ret)))
@[reducible] def Q4Q : FuncId := 142
theorem QgN : lowF Tryz.prog Tryz.f142 = some types_Check_lc := by kernel_rfl
theorem Qkf {a0 a1 : Value} {w : World} {R : Ending → World → Prop} (h : types_Check_lc.wp Tryz.prog (retQ Tryz.prog [.tmp 4] R) (Ql [a0, a1]) w) : Calls Tryz.prog Q4Q ⟨[a0, a1]⟩ w R :=
  Q6 Tryz.func142 QgN (by kernel_rfl) (by kernel_rfl) h

/- 143 -/
def Q2w : List GO := [qk 4 (vi 0)]
def Q2v : List GO := [qm 6 0, qL 7 6, qk 8 (vi 0)]
def Q2u : List GO := [qt 9 .lss 3 8 7]
def Q2t : List GO := [qm 10 8, qm 5 10]
def Q2s : List GO := [qm 11 1, qm 12 0, qm 13 5, qi 14 3 12 13, qV 15 3 14, ⟨none, .callv (some 16) (.tmp 11) [(.tmp 15)]⟩]
def Q2r : List GO := [qm 17 5, qm 4 17]
def Q2q : List GO := [qj 18 .add 3 8 1, qm 8 18]
def Q1F : LC := (.seq (.ops Q2u) (.seq (.cond (.tmp 9) .skip (.exit 0)) (.seq (.block 1 (.seq (.ops Q2t) (.seq (.ops Q2s) (.cond (.tmp 16) (.seq (.ops Q2r) .ret) .skip)))) (.ops Q2q))))
def Q2p : List GO := [qk 4 (vi (-1))]
def slices_IndexFunc_api_Type_api_Type_lc : LC := (.seq (.ops Q2w) (.seq (.seq (.ops Q2v) (.block 0 (.loop Q1F))) (.seq (.ops Q2p) .ret)))
@[reducible] def QQ : FuncId := 143
theorem Q2l : lowF Tryz.prog Tryz.f143 = some slices_IndexFunc_api_Type_api_Type_lc := by kernel_rfl
theorem Q2x {a0 a1 : Value} {w : World} {R : Ending → World → Prop} (h : slices_IndexFunc_api_Type_api_Type_lc.wp Tryz.prog (retQ Tryz.prog [.tmp 4] R) (Ql [a0, a1]) w) : Calls Tryz.prog QQ ⟨[a0, a1]⟩ w R :=
  Q6 Tryz.func143 Q2l (by kernel_rfl) (by kernel_rfl) h

/- 115 -/
def QkT : List GO := [qb 2 112 0, qk 4 (vi 0)]
def QkS : List GO := [qV 5 3 2, ⟨none, .call (some 6) 131 [(.tmp 5), (.const (vi 4))]⟩, qj 7 .gtr 3 6 4]
def QkR : List GO := [qk 4 (vi 19)]
def QkQ : List GO := [qV 8 3 2, qm 9 1, ⟨none, .call (some 10) 152 [(.tmp 8), (.tmp 9)]⟩, qm 4 10]
def R_TypeFault_lc : LC := (.seq (.ops QkT) (.seq (.seq (.ops QkS) (.cond (.tmp 7) (.seq (.ops QkR) .ret) .skip)) (.seq (.ops QkQ) .ret)))
@[reducible] def Q5l : FuncId := 115
theorem Qig : lowF Tryz.prog Tryz.f115 = some R_TypeFault_lc := by kernel_rfl
theorem QkU {a0 a1 : Value} {w : World} {R : Ending → World → Prop} (h : R_TypeFault_lc.wp Tryz.prog (retQ Tryz.prog [.tmp 4] R) (Ql [a0, a1]) w) : Calls Tryz.prog Q5l ⟨[a0, a1]⟩ w R :=
  Q6 Tryz.func115 Qig (by kernel_rfl) (by kernel_rfl) h

/- 100 -/
/- 101 -/
/- 151 -/
def Qhz : List GO := [qb 1 112 0, ⟨none, .alloc 2 112 [(vi 0), (vi 0), vn]⟩]
def Qhy : List GO := [qf 4 1 0, ql 5 4, qf 6 1 1, ql 7 6, ⟨none, .build 8 [(vi 0), (vi 0), vn] [(0, (1, (.tmp 5))), (1, (1, (.tmp 7)))]⟩, ⟨none, .alloc 3 112 [(vi 0), (vi 0), vn]⟩, qw 3 3 8]
def Qhx : List GO := [qf 9 1 2, ql 10 9, ⟨none, .call (some 11) 112 [(.tmp 10)]⟩, qf 12 3 2, qs 12 11]
def Qhw : List GO := [qV 13 3 3, qw 3 2 13]
def code_ownType_lc : LC := (.seq (.ops Qhz) (.seq (.ops Qhy) (.seq (.ops Qhx) (.seq (.ops Qhw) .ret))))
@[reducible] def Q66 : FuncId := 151
theorem QeY : lowF Tryz.prog Tryz.f151 = some code_ownType_lc := by kernel_rfl
theorem QhA {a0 : Value} {w : World} {R : Ending → World → Prop} (h : code_ownType_lc.wp Tryz.prog (retQ Tryz.prog [.cell 2 112] R) (Ql [a0]) w) : Calls Tryz.prog Q66 ⟨[a0]⟩ w R :=
  Q6 Tryz.func151 QeY (by kernel_rfl) (by kernel_rfl) h

/- 141 -/
def QnG : List GO := [qb 2 112 0, qk 4 (vi 0)]
def QnF : List GO := [qm 6 1, qj 7 .sub 3 6 1, qm 1 7]
def QnE : List GO := [qk 5 (vi 0)]
def QnD : List GO := [qm 8 5, qf 9 2 2, ql 10 9, qL 11 10, qt 12 .lss 3 8 11, qm 13 12, qg 13 true (qm 14 1), qg 13 true (qj 15 .geq 3 14 0), ⟨none, .pick 16 (.tmp 13) (.tmp 15) (.const (.bool false))⟩]
def QnC : List GO := [qf 19 2 2, ql 20 19, qm 21 5, qi 22 3 20 21, qV 23 3 22, qm 24 1, ⟨none, .call (some 25) 141 [(.tmp 23), (.tmp 24)]⟩, qm 1 25]
def QnB : List GO := [qm 17 5, qj 18 .add 3 17 1, qm 5 18]
def QaG : LC := (.seq (.seq (.ops QnD) (.cond (.tmp 16) .skip (.exit 0))) (.seq (.block 1 (.ops QnC)) (.ops QnB)))
def QnA : List GO := [qm 26 1, qm 4 26]
def R_typeSize_lc : LC := (.seq (.ops QnG) (.seq (.ops QnF) (.seq (.seq (.ops QnE) (.block 0 (.loop QaG))) (.seq (.ops QnA) .ret))))
@[reducible] def Q6x : FuncId := 141
theorem QkD : lowF Tryz.prog Tryz.f141 = some R_typeSize_lc := by kernel_rfl
theorem QnH {a0 a1 : Value} {w : World} {R : Ending → World → Prop} (h : R_typeSize_lc.wp Tryz.prog (retQ Tryz.prog [.tmp 4] R) (Ql [a0, a1]) w) : Calls Tryz.prog Q6x ⟨[a0, a1]⟩ w R :=
  Q6 Tryz.func141 QkD (by kernel_rfl) (by kernel_rfl) h

/- 163 -/
def Q3x : List GO := [qk 4 (.bool false)]
def Q3w : List GO := [qm 5 0, qm 6 1, ⟨none, .call (some 7) 166 [(.tmp 5), (.tmp 6)]⟩, qj 8 .geq 3 7 0, qm 4 8]
def slices_Contains_byte_byte_lc : LC := (.seq (.ops Q3x) (.seq (.ops Q3w) .ret))
@[reducible] def Q2B : FuncId := 163
theorem Q3p : lowF Tryz.prog Tryz.f163 = some slices_Contains_byte_byte_lc := by kernel_rfl
theorem Q3y {a0 a1 : Value} {w : World} {R : Ending → World → Prop} (h : slices_Contains_byte_byte_lc.wp Tryz.prog (retQ Tryz.prog [.tmp 4] R) (Ql [a0, a1]) w) : Calls Tryz.prog Q2B ⟨[a0, a1]⟩ w R :=
  Q6 Tryz.func163 Q3p (by kernel_rfl) (by kernel_rfl) h

/- 159 -/
def QmG : List GO := [qb 2 112 0, qk 4 (.bool false)]
def QmF : List GO := [qm 7 1, qj 8 .lss 3 7 0]
def QmE : List GO := [qk 4 (.bool false)]
def QmD : List GO := [qf 9 2 2, ql 10 9, qL 11 10, qk 12 (vi 0)]
def QmC : List GO := [qt 13 .lss 3 12 11]
def QmB : List GO := [qi 14 3 10 12, qV 15 3 14, ⟨none, .alloc 6 112 [(vi 0), (vi 0), vn]⟩, qw 3 6 15]
def QmA : List GO := [qV 16 3 6, qm 17 1, qj 18 .sub 3 17 1, ⟨none, .call (some 19) 159 [(.tmp 16), (.tmp 18)]⟩, ⟨none, .un 20 .not (.tmp 19)⟩]
def Qmz : List GO := [qk 4 (.bool false)]
def Qmy : List GO := [qj 21 .add 3 12 1, qm 12 21]
def Q9d : LC := (.seq (.ops QmC) (.seq (.cond (.tmp 13) .skip (.exit 0)) (.seq (.block 1 (.seq (.ops QmB) (.seq (.ops QmA) (.cond (.tmp 20) (.seq (.ops Qmz) .ret) .skip)))) (.ops Qmy))))
def Qmx : List GO := [qk 4 (.bool true)]
def types_deep_lc : LC := (.seq (.ops QmG) (.seq (.seq (.ops QmF) (.cond (.tmp 8) (.seq (.ops QmE) .ret) .skip)) (.seq (.seq (.ops QmD) (.block 0 (.loop Q9d))) (.seq (.ops Qmx) .ret))))
@[reducible] def Q3C : FuncId := 159
theorem Qk9 : lowF Tryz.prog Tryz.f159 = some types_deep_lc := by kernel_rfl
theorem QmH {a0 a1 : Value} {w : World} {R : Ending → World → Prop} (h : types_deep_lc.wp Tryz.prog (retQ Tryz.prog [.tmp 4] R) (Ql [a0, a1]) w) : Calls Tryz.prog Q3C ⟨[a0, a1]⟩ w R :=
  Q6 Tryz.func159 Qk9 (by kernel_rfl) (by kernel_rfl) h

/- 160 -/
def Qk7 : List GO := [qb 2 112 0, qk 4 (vi 0)]
def Qk6 : List GO := [qf 8 2 0, ql 9 8]
def Qk5 : List GO := [qj 11 .eql 3 9 1, qm 10 11]
def Qk4 : List GO := [qf 12 2 1, ql 13 12, qj 14 .neq 3 13 0, qm 15 14, qg 15 false (qf 16 2 2), qg 15 false (ql 17 16), qg 15 false (qL 18 17), qg 15 false (qj 19 .gtr 3 18 0), ⟨none, .pick 20 (.tmp 15) (.const (.bool true)) (.tmp 19)⟩]
def Qk3 : List GO := [qk 4 (vi 4)]
def Qk2 : List GO := [qk 4 (vi 0)]
def Qk1 : List GO := [qj 22 .eql 3 9 2, qm 21 22]
def Qk0 : List GO := [qj 23 .eql 3 9 4, qm 21 23]
def QjZ : List GO := [qf 24 2 2, ql 25 24, qL 26 25, qj 27 .gtr 3 26 0]
def QjY : List GO := [qk 4 (vi 4)]
def QgA : List GO := [qj 29 .eql 3 9 3, qm 28 29]
def Qgz : List GO := [qf 30 2 2, ql 31 30, qL 32 31, qj 33 .gtr 3 32 8]
def Qgy : List GO := [qk 4 (vi 2)]
def Qgx : List GO := [qk 4 (vi 3)]
def Qgw : List GO := [qf 34 2 1, ql 35 34, qj 36 .lss 3 35 0, qm 37 36, qg 37 false (qf 38 2 1), qg 37 false (ql 39 38), qg 37 false (qm 40 1), qg 37 false (qt 41 .geq 3 39 40), ⟨none, .pick 42 (.tmp 37) (.const (.bool true)) (.tmp 41)⟩]
def Qgv : List GO := [qk 4 (vi 1)]
def Qgu : List GO := [qf 43 2 2, ql 44 43, qL 45 44, qk 46 (vi 0)]
def Qgt : List GO := [qt 47 .lss 3 46 45]
def Qgs : List GO := [qi 48 3 44 46, qV 49 3 48, ⟨none, .alloc 6 112 [(vi 0), (vi 0), vn]⟩, qw 3 6 49]
def Qgr : List GO := [qV 50 3 6, qm 51 1, ⟨none, .call (some 52) 160 [(.tmp 50), (.tmp 51)]⟩, qm 7 52]
def Qgq : List GO := [qm 53 7, qj 54 .neq 3 53 0]
def Qgp : List GO := [qm 55 7, qm 4 55]
def Qgo : List GO := [qj 56 .add 3 46 1, qm 46 56]
def Q5A : LC := (.seq (.ops Qgt) (.seq (.cond (.tmp 47) .skip (.exit 1)) (.seq (.block 2 (.seq (.ops Qgs) (.seq (.ops Qgr) (.seq (.ops Qgq) (.cond (.tmp 54) (.seq (.ops Qgp) .ret) .skip))))) (.ops Qgo))))
def Qgn : List GO := [qk 4 (vi 0)]
def types_wrong_lc : LC := (.seq (.ops Qk7) (.seq (.seq (.ops Qk6) (.block 0 (.seq (.ops Qk5) (.cond (.tmp 10) (.seq (.seq (.ops Qk4) (.cond (.tmp 20) (.seq (.ops Qk3) .ret) .skip)) (.seq (.ops Qk2) .ret)) (.seq (.seq (.ops Qk1) (.cond (.tmp 21) .skip (.ops Qk0))) (.cond (.tmp 21) (.seq (.ops QjZ) (.cond (.tmp 27) (.seq (.ops QjY) .ret) .skip)) (.seq (.ops QgA) (.cond (.tmp 28) (.seq (.ops Qgz) (.cond (.tmp 33) (.seq (.ops Qgy) .ret) .skip)) (.seq (.ops Qgx) .ret))))))))) (.seq (.seq (.ops Qgw) (.cond (.tmp 42) (.seq (.ops Qgv) .ret) .skip)) (.seq (.seq (.ops Qgu) (.block 1 (.loop Q5A))) (.seq (.ops Qgn) .ret)))))
@[reducible] def QM : FuncId := 160
theorem QgB : lowF Tryz.prog Tryz.f160 = some types_wrong_lc := by kernel_rfl
theorem Qk8 {a0 a1 : Value} {w : World} {R : Ending → World → Prop} (h : types_wrong_lc.wp Tryz.prog (retQ Tryz.prog [.tmp 4] R) (Ql [a0, a1]) w) : Calls Tryz.prog QM ⟨[a0, a1]⟩ w R :=
  Q6 Tryz.func160 QgB (by kernel_rfl) (by kernel_rfl) h

/- 131 -/
def QsV : List GO := [qb 2 112 0, qk 4 (vi 0)]
def QsU : List GO := [qk 5 (vi 0)]
def QsT : List GO := [qk 6 (vi 0)]
def QsS : List GO := [qm 8 6, qf 9 2 2, ql 10 9, qL 11 10, qt 12 .lss 3 8 11, qm 13 12, qg 13 true (qm 14 5), qg 13 true (qm 15 1), qg 13 true (qt 16 .leq 3 14 15), ⟨none, .pick 17 (.tmp 13) (.tmp 16) (.const (.bool false))⟩]
def QsR : List GO := [qm 20 1, qj 21 .eql 3 20 0]
def QsQ : List GO := [qk 4 (vi 1)]
def QsP : List GO := [qf 22 2 2, ql 23 22, qm 24 6, qi 25 3 23 24, qV 26 3 25, qm 27 1, qj 28 .sub 3 27 1, ⟨none, .call (some 29) 131 [(.tmp 26), (.tmp 28)]⟩, ⟨none, .bin 30 .add 3 (.const (vi 1)) (.tmp 29)⟩, qm 7 30]
def QsO : List GO := [qm 31 7, qm 32 5, qt 33 .gtr 3 31 32]
def QsN : List GO := [qm 34 7, qm 5 34]
def QsM : List GO := [qm 18 6, qj 19 .add 3 18 1, qm 6 19]
def Qjz : LC := (.seq (.seq (.ops QsS) (.cond (.tmp 17) .skip (.exit 0))) (.seq (.block 1 (.seq (.seq (.ops QsR) (.cond (.tmp 21) (.seq (.ops QsQ) .ret) .skip)) (.seq (.ops QsP) (.seq (.ops QsO) (.cond (.tmp 33) (.ops QsN) .skip))))) (.ops QsM)))
def Qrh : List GO := [qm 35 5, qm 4 35]
def R_DeepOf_lc : LC := (.seq (.ops QsV) (.seq (.ops QsU) (.seq (.seq (.ops QsT) (.block 0 (.loop Qjz))) (.seq (.ops Qrh) .ret))))
@[reducible] def Q4b : FuncId := 131
theorem Qri : lowF Tryz.prog Tryz.f131 = some R_DeepOf_lc := by kernel_rfl
theorem QsW {a0 a1 : Value} {w : World} {R : Ending → World → Prop} (h : R_DeepOf_lc.wp Tryz.prog (retQ Tryz.prog [.tmp 4] R) (Ql [a0, a1]) w) : Calls Tryz.prog Q4b ⟨[a0, a1]⟩ w R :=
  Q6 Tryz.func131 Qri (by kernel_rfl) (by kernel_rfl) h

/- 152 -/
def QkN : List GO := [qb 2 112 0, qk 4 (vi 0)]
def QkM : List GO := [qf 7 2 0, ql 8 7, qj 9 .lss 3 8 1, qm 10 9, qg 10 false (qf 11 2 0), qg 10 false (ql 12 11), qg 10 false (qj 13 .gtr 3 12 4), ⟨none, .pick 14 (.tmp 10) (.const (.bool true)) (.tmp 13)⟩]
def QkL : List GO := [qk 4 (vi 3)]
def QkK : List GO := [qf 15 2 0, ql 16 15, qj 17 .eql 3 16 1, qm 18 17, qg 18 true (qf 19 2 1), qg 18 true (ql 20 19), qg 18 true (qj 21 .neq 3 20 0), ⟨none, .pick 22 (.tmp 18) (.tmp 21) (.const (.bool false))⟩, qm 23 22, qg 23 false (qf 24 2 0), qg 23 false (ql 25 24), qg 23 false (qj 26 .neq 3 25 3), qg 23 false (qm 27 26), qg 27 true (qf 28 2 2), qg 27 true (ql 29 28), qg 27 true (qL 30 29), qg 27 true (qj 31 .gtr 3 30 0), ⟨some (23, false), .pick 32 (.tmp 27) (.tmp 31) (.const (.bool false))⟩, ⟨none, .pick 33 (.tmp 23) (.const (.bool true)) (.tmp 32)⟩]
def QkJ : List GO := [qk 4 (vi 4)]
def QkI : List GO := [qf 34 2 2, ql 35 34, qL 36 35, qj 37 .gtr 3 36 8]
def QkH : List GO := [qk 4 (vi 2)]
def QkG : List GO := [qf 38 2 0, ql 39 38, qj 40 .neq 3 39 1, qm 41 40, qg 41 true (qf 42 2 1), qg 41 true (ql 43 42), qg 41 true (qj 44 .lss 3 43 0), qg 41 true (qm 45 44), qg 45 false (qf 46 2 1), qg 45 false (ql 47 46), qg 45 false (qm 48 1), qg 45 false (qt 49 .geq 3 47 48), ⟨some (41, true), .pick 50 (.tmp 45) (.const (.bool true)) (.tmp 49)⟩, ⟨none, .pick 51 (.tmp 41) (.tmp 50) (.const (.bool false))⟩]
def QkF : List GO := [qk 4 (vi 1)]
def QkE : List GO := [qk 5 (vi 0)]
def QhS : List GO := [qm 52 5, qf 53 2 2, ql 54 53, qL 55 54, qt 56 .lss 3 52 55]
def QhR : List GO := [qf 59 2 2, ql 60 59, qm 61 5, qi 62 3 60 61, qV 63 3 62, qm 64 1, ⟨none, .call (some 65) 152 [(.tmp 63), (.tmp 64)]⟩, qm 6 65]
def QhQ : List GO := [qm 66 6, qj 67 .neq 3 66 0]
def QhP : List GO := [qm 68 6, qm 4 68]
def QhO : List GO := [qm 57 5, qj 58 .add 3 57 1, qm 5 58]
def Q6c : LC := (.seq (.seq (.ops QhS) (.cond (.tmp 56) .skip (.exit 0))) (.seq (.block 1 (.seq (.ops QhR) (.seq (.ops QhQ) (.cond (.tmp 67) (.seq (.ops QhP) .ret) .skip)))) (.ops QhO)))
def QhN : List GO := [qk 4 (vi 0)]
def R_typeFault_lc : LC := (.seq (.ops QkN) (.seq (.seq (.ops QkM) (.cond (.tmp 14) (.seq (.ops QkL) .ret) .skip)) (.seq (.seq (.ops QkK) (.cond (.tmp 33) (.seq (.ops QkJ) .ret) .skip)) (.seq (.seq (.ops QkI) (.cond (.tmp 37) (.seq (.ops QkH) .ret) .skip)) (.seq (.seq (.ops QkG) (.cond (.tmp 51) (.seq (.ops QkF) .ret) .skip)) (.seq (.seq (.ops QkE) (.block 0 (.loop Q6c))) (.seq (.ops QhN) .ret)))))))
@[reducible] def Q1B : FuncId := 152
theorem QhT : lowF Tryz.prog Tryz.f152 = some R_typeFault_lc := by kernel_rfl
theorem QkO {a0 a1 : Value} {w : World} {R : Ending → World → Prop} (h : R_typeFault_lc.wp Tryz.prog (retQ Tryz.prog [.tmp 4] R) (Ql [a0, a1]) w) : Calls Tryz.prog Q1B ⟨[a0, a1]⟩ w R :=
  Q6 Tryz.func152 QhT (by kernel_rfl) (by kernel_rfl) h

/- 155 -/
def Q3Y : List GO := [qk 4 (.bool false)]
def Q3X : List GO := [qm 5 0, qm 6 1, ⟨none, .call (some 7) 164 [(.tmp 5), (.tmp 6)]⟩, qj 8 .geq 3 7 0, qm 4 8]
def slices_Contains_int_int_lc : LC := (.seq (.ops Q3Y) (.seq (.ops Q3X) .ret))
@[reducible] def Q2S : FuncId := 155
theorem Q3J : lowF Tryz.prog Tryz.f155 = some slices_Contains_int_int_lc := by kernel_rfl
theorem Q3Z {a0 a1 : Value} {w : World} {R : Ending → World → Prop} (h : slices_Contains_int_int_lc.wp Tryz.prog (retQ Tryz.prog [.tmp 4] R) (Ql [a0, a1]) w) : Calls Tryz.prog Q2S ⟨[a0, a1]⟩ w R :=
  Q6 Tryz.func155 Q3J (by kernel_rfl) (by kernel_rfl) h

/- 166 -/
def Q4j : List GO := [qk 4 (vi 0)]
def Q4i : List GO := [qm 6 0, qL 7 6, qk 8 (vi 0)]
def Q4h : List GO := [qt 9 .lss 3 8 7]
def Q4g : List GO := [qm 10 8, qm 5 10]
def Q4f : List GO := [qm 11 1, qm 12 0, qm 13 5, qi 14 1 12 13, ql 15 14, qt 16 .eql 5 11 15]
def Q4e : List GO := [qm 17 5, qm 4 17]
def Q4d : List GO := [qj 18 .add 3 8 1, qm 8 18]
def Q2A : LC := (.seq (.ops Q4h) (.seq (.cond (.tmp 9) .skip (.exit 0)) (.seq (.block 1 (.seq (.ops Q4g) (.seq (.ops Q4f) (.cond (.tmp 16) (.seq (.ops Q4e) .ret) .skip)))) (.ops Q4d))))
def Q4c : List GO := [qk 4 (vi (-1))]
def slices_Index_byte_byte_lc : LC := (.seq (.ops Q4j) (.seq (.seq (.ops Q4i) (.block 0 (.loop Q2A))) (.seq (.ops Q4c) .ret)))
@[reducible] def Q1S : FuncId := 166
theorem Q3W : lowF Tryz.prog Tryz.f166 = some slices_Index_byte_byte_lc := by kernel_rfl
theorem Q4k {a0 a1 : Value} {w : World} {R : Ending → World → Prop} (h : slices_Index_byte_byte_lc.wp Tryz.prog (retQ Tryz.prog [.tmp 4] R) (Ql [a0, a1]) w) : Calls Tryz.prog Q1S ⟨[a0, a1]⟩ w R :=
  Q6 Tryz.func166 Q3W (by kernel_rfl) (by kernel_rfl) h

/- 164 -/
def Q4Y : List GO := [qk 4 (vi 0)]
def Q4X : List GO := [qm 6 0, qL 7 6, qk 8 (vi 0)]
def Q4W : List GO := [qt 9 .lss 3 8 7]
def Q4V : List GO := [qm 10 8, qm 5 10]
def Q4U : List GO := [qm 11 1, qm 12 0, qm 13 5, qi 14 1 12 13, ql 15 14, qt 16 .eql 3 11 15]
def Q4T : List GO := [qm 17 5, qm 4 17]
def Q4S : List GO := [qj 18 .add 3 8 1, qm 8 18]
def Q2R : LC := (.seq (.ops Q4W) (.seq (.cond (.tmp 9) .skip (.exit 0)) (.seq (.block 1 (.seq (.ops Q4V) (.seq (.ops Q4U) (.cond (.tmp 16) (.seq (.ops Q4T) .ret) .skip)))) (.ops Q4S))))
def Q4R : List GO := [qk 4 (vi (-1))]
def slices_Index_int_int_lc : LC := (.seq (.ops Q4Y) (.seq (.seq (.ops Q4X) (.block 0 (.loop Q2R))) (.seq (.ops Q4R) .ret)))
@[reducible] def Q1X : FuncId := 164
theorem Q4t : lowF Tryz.prog Tryz.f164 = some slices_Index_int_int_lc := by kernel_rfl
theorem Q4Z {a0 a1 : Value} {w : World} {R : Ending → World → Prop} (h : slices_Index_int_int_lc.wp Tryz.prog (retQ Tryz.prog [.tmp 4] R) (Ql [a0, a1]) w) : Calls Tryz.prog Q1X ⟨[a0, a1]⟩ w R :=
  Q6 Tryz.func164 Q4t (by kernel_rfl) (by kernel_rfl) h

end Go.Proofs.YtanlkfeogoganaaGreat
namespace Go.Proofs.YtanlkfeogoganaaGreat
open Go.Lir
set_option maxHeartbeats 1000000
attribute [local irreducible] LC.wp Q5 Q11 Q1c retQ Q2b LO.wp QD Calls
set_option linter.unusedSimpArgs false
set_option linter.unusedVariables false
theorem size_c : ∀ (t : Ty) {cx : Cx} {w : World} {L : List Res} {cs : List Value} {left : Int}, tyR.at cx cs t → -1 ≤ left → left ≤ 1000000 → St cx w L →
    Rets Tryz.prog Q6x [.agg ⟨cs⟩, .int .i64 left] w fun v w' => v = .int .i64 (t.size left) ∧ St cx w' L := by
  intro t
  induction t using Ty.ind with
  | h k r l ih =>
    intro cx w L cs left ht h1 h2 hS
    obtain ⟨v, rfl, hl⟩ := Qf ht
    simp only [Ty.kind, Ty.r, Ty.l] at hl ht ⊢
    have hlen := hl.len
    rw [Ty.size]
    all_goals refine QnH ?_
    all_goals (unfold R_typeSize_lc; refine Q0 ?_; refine Q1 ?_; refine zb hS ?_; intro p2 w1 hS; refine zm ?_; refine zn ?_; refine Q0 ?_; refine Q1 ?_; refine zm ?_; refine zsu ?_; refine zm ?_; refine zn ?_; refine Q0 ?_; refine Q0 ?_; refine Q1 ?_; refine zm ?_; refine zn ?_; refine Qa ?_)
    refine zoL hS [2] (fun A LL ρ' w' => ∃ (j : Nat) (n : Int), Has ρ' A ∧ Has ρ' [(1, .int .i64 n), (5, .int .i64 j)] ∧ (j ≤ l.length) ∧ (n ≤ 1000000) ∧ (-2 ≤ n) ∧ (Tys.size l (left - 1) = Tys.size (l.drop j) n) ∧ St cx w' (LL)) (fun ρ' _ => (l.length - iv (ρ' 5)).toNat) ?_ ?_
    · exact ⟨0, left - 1, zh, zh, (by omega), (by omega), (by omega), by simp, hS.sp⟩
    rintro ρ w1 ⟨j, n, hA, hρ, hj, hn, hn1, hd, hS⟩; obtain ⟨ρ, rfl⟩ := env2 hA hρ
    unfold QaG
    all_goals (refine Q0 ?_; refine Q0 ?_; refine Q1 ?_; refine zm ?_; refine Q2 rfl ?_; refine zl hS ?_; refine zL ?_)
    all_goals (first | (refine Q1L ?_) | (refine Q1M ?_) | (refine QE rfl rfl (fun hc => ?_) (fun hc => ?_)))
    all_goals (refine zm ?_; (first | refine s_gn rfl rfl ?_ | (refine s_gy rfl ?_; refine zm ?_)))
    all_goals (first | refine s_gn rfl rfl ?_ | (refine s_gy rfl ?_; (first | (refine Q3f ?_) | (refine Q3g ?_) | (refine Q1A rfl rfl (fun hc => ?_) (fun hc => ?_)))))
    all_goals ((first | (refine zpt ?_) | (refine zpf ?_)); refine zn ?_)
    all_goals
      first
      | (refine Q4 rfl ?_ -- Q6x c0
         all_goals (refine zex ?_; refine Q0 ?_; refine Q1 ?_; refine zm ?_; refine zm ?_; refine zn ?_; refine zr ?_; refine zf ?_)
         all_goals (refine ⟨_, rfl, ?_, hS.sp⟩; rw [hd]; congr 1; first | (rw [Tys.size_neg _ (by omega)]; done) | (rw [List.drop_of_length_le (by omega), Tys.size]; done); done))
      | (refine Q3 rfl ?_ -- Q6x c0
         all_goals (refine zsk ?_; refine Q0 ?_; refine Qa ?_; refine Q1 ?_; refine Q2 rfl ?_; refine zl hS ?_; refine zm ?_; refine zi ?_; intro b1 o1 cs1 x1 hat1 hx1 he1; obtain ⟨vl1, rfl, hl1⟩ := Qf he1; (first | (refine zv hS ?_) | (refine zvk hS ?_)); refine zm ?_; refine zR2 (c := ih _ (List.mem_of_getElem? (by assumption)) (by assumption) (by omega) (by omega) hS) (h := ?_); rintro v1 w1 ⟨rfl, hS⟩; refine zm ?_; refine zn ?_; refine Q1 ?_; refine zm ?_; refine zad ?_; refine zm ?_; refine zn ?_)
         all_goals (exact ⟨⟨j + 1, _, zh, zh, (by omega), by have := Ty.size_rng x1 (left := n) (by omega); omega, by have := Ty.size_rng x1 (left := n) (by omega); omega, by rw [hd, Q7 hx1, Tys.size, if_pos (by omega)], hS.sp⟩, Qr (by omega)⟩))
theorem great_c {t : Ty} {cx : Cx} {w : World} {L : List Res} {cs : List Value} (ht : tyR.at cx cs t) (hS : St cx w L) :
    Rets Tryz.prog Qjy [.agg ⟨cs⟩] w fun v w' => v = .bool t.great ∧ St cx w' L := by
  obtain ⟨v, rfl, hl⟩ := Qf ht
  all_goals refine QlH ?_
  all_goals (unfold R_GreatType_lc; refine Q0 ?_; refine Q1 ?_; refine zb hS ?_; intro p1 w1 hS; refine zm ?_; refine zn ?_; refine Q0 ?_; refine Q1 ?_; refine zv hS ?_; refine zR2 (c := size_c t ht (by omega) (by omega) hS) (h := ?_); rintro v1 w1 ⟨rfl, hS⟩; refine Qx rfl rfl ?_; refine zm ?_; refine zn ?_; refine zr ?_; refine zf ?_; refine ⟨_, rfl, ?_, hS.sp⟩; (rfl); done)
theorem Qn5 {l : List Ty} {cx : Cx} {w : World} {L : List Res} {v : Value} (hl : tyR.sl cx v l) (hS : St cx w L) :
    Rets Tryz.prog Q2O [v] w fun u w' => u = .bool (Tys.great l) ∧ St cx w' L := by
  have hlen := hl.len
  unfold Tys.great
  all_goals refine Qi4 ?_
  all_goals (unfold R_greatTypes_lc; refine Q0 ?_; refine Q1 ?_; refine zm ?_; refine zn ?_; refine Q0 ?_; refine Q0 ?_; refine Q1 ?_; refine zm ?_; refine zL ?_)
  all_goals (first | (refine Q12 ?_) | (refine Q15 ?_) | (refine Qq rfl rfl (fun hc => ?_) (fun hc => ?_)))
  all_goals (refine zn ?_)
  all_goals
    first
    | (refine Q3 rfl ?_ -- Q2O c0
       all_goals (refine Q0 ?_; refine Q1 ?_; refine zm ?_; refine zn ?_; refine zr ?_; refine zf ?_)
       all_goals (refine ⟨_, rfl, ?_, hS.sp⟩; rw [decide_eq_true (by omega), Bool.true_or]; done))
    | (refine Q4 rfl ?_ -- Q2O c0
       all_goals refine zsk ?_)
  all_goals (refine Q0 ?_; refine Q0 ?_; refine Q1 ?_; refine zm ?_; refine zn ?_; refine Qa ?_)
  refine zoL hS [0] (fun A LL ρ' w' => ∃ (j : Nat), Has ρ' A ∧ Has ρ' [(3, .int .i64 j)] ∧ (j ≤ l.length) ∧ (l.any Ty.great = (l.drop j).any Ty.great) ∧ St cx w' (LL)) (fun ρ' _ => (l.length - iv (ρ' 3)).toNat) ?_ ?_
  · exact ⟨0, zh, zh, (by omega), by simp, hS.sp⟩
  rintro ρ w1 ⟨j, hA, hρ, hj, hd, hS⟩; obtain ⟨ρ, rfl⟩ := env2 hA hρ
  unfold Q6d
  all_goals (refine Q0 ?_; refine Q0 ?_; refine Q1 ?_; refine zm ?_; refine zm ?_; refine zL ?_; refine Qx rfl rfl ?_; refine zn ?_)
  refine Qo rfl (fun hc => ?_) (fun hc => ?_)
  · skip
    all_goals (refine zsk ?_; refine Q0 ?_; refine Qa ?_; refine Q0 ?_; refine Q1 ?_; refine zm ?_; refine zm ?_; refine zi ?_; intro b1 o1 cs1 x1 hat1 hx1 he1; obtain ⟨vl1, rfl, hl1⟩ := Qf he1; (first | (refine zv hS ?_) | (refine zvk hS ?_)))
    all_goals (refine zR1 (c := great_c (by assumption) hS) (h := ?_); rintro v1 w1 ⟨rfl, hS⟩; cases hg : x1.great)
    all_goals (refine zn ?_)
    all_goals
      first
      | (refine Q3 rfl ?_ -- Q2O c2
         all_goals (refine Q0 ?_; refine Q1 ?_; refine zm ?_; refine zn ?_; refine zr ?_; refine zf ?_)
         all_goals (first | (refine ⟨_, rfl, ?_, hS.sp⟩; rw [decide_eq_true (by omega), Bool.true_or]; done) | (refine ⟨_, rfl, ?_, hS.sp⟩; rw [decide_eq_false (by omega), hd, Bool.false_or, Q7 hx1, List.any_cons, hg, Bool.true_or]; done)))
      | (refine Q4 rfl ?_ -- Q2O c2
         all_goals refine zsk ?_)
    all_goals (refine Q1 ?_; refine zm ?_; refine zad ?_; refine zm ?_; refine zn ?_; exact ⟨⟨j + 1, zh, zh, (by omega), by rw [hd, Q7 hx1, List.any_cons, hg, Bool.false_or], hS.sp⟩, Qr (by omega)⟩)
  · skip
    all_goals (refine zex ?_; refine Q0 ?_; refine Q1 ?_; refine zm ?_; refine zn ?_; refine zr ?_; refine zf ?_; (first | (refine ⟨_, rfl, ?_, hS.sp⟩; rw [decide_eq_true (by omega), Bool.true_or]; done) | (refine ⟨_, rfl, ?_, hS.sp⟩; rw [decide_eq_false (by omega), hd, Bool.false_or, Q7 hx1, List.any_cons, hg, Bool.true_or]; done) | (refine ⟨_, rfl, ?_, hS.sp⟩; rw [decide_eq_false (by omega), hd, Bool.false_or, List.drop_of_length_le (by omega)]; rfl; done)))
theorem deep_c : ∀ (t : Ty) {cx : Cx} {w : World} {L : List Res} {cs : List Value} {left : Int}, tyR.at cx cs t → left ≤ 1000000 → St cx w L →
    Rets Tryz.prog Q3C [.agg ⟨cs⟩, .int .i64 left] w fun v w' => v = .bool (t.deepB left) ∧ St cx w' L := by
  intro t
  induction t using Ty.ind with
  | h k r l ih =>
    intro cx w L cs left ht h1 hS
    obtain ⟨v, rfl, hl⟩ := Qf ht
    simp only [Ty.kind, Ty.r, Ty.l] at hl ht ⊢
    have hlen := hl.len
    rw [Ty.deepB]
    all_goals refine QmH ?_
    all_goals (unfold types_deep_lc; refine Q0 ?_; refine Q1 ?_; refine zb hS ?_; intro p2 w1 hS; refine zm ?_; refine zn ?_; refine Q0 ?_; refine Q0 ?_; refine Q1 ?_; refine zm ?_)
    all_goals (first | (refine Q1L ?_) | (refine Q1M ?_) | (refine QE rfl rfl (fun hc => ?_) (fun hc => ?_)))
    all_goals (refine zn ?_)
    all_goals
      first
      | (refine Q3 rfl ?_ -- Q3C c0
         all_goals (refine Q0 ?_; refine Q1 ?_; refine zm ?_; refine zn ?_; refine zr ?_; refine zf ?_)
         all_goals (refine ⟨_, rfl, ?_, hS.sp⟩; rw [if_pos (by omega)]; done))
      | (refine Q4 rfl ?_ -- Q3C c0
         all_goals refine zsk ?_)
    all_goals (refine Q0 ?_; refine Q0 ?_; refine Q1 ?_; refine Q2 rfl ?_; refine zl hS ?_; refine zL ?_; refine zm ?_; refine zn ?_; refine Qa ?_)
    refine zoL hS [1, 10, 11] (fun A LL ρ' w' => ∃ (j : Nat), Has ρ' A ∧ Has ρ' [(12, .int .i64 j)] ∧ (j ≤ l.length) ∧ (Tys.deepB l (left - 1) = Tys.deepB (l.drop j) (left - 1)) ∧ St cx w' (LL)) (fun ρ' _ => (l.length - iv (ρ' 12)).toNat) ?_ ?_
    · exact ⟨0, zh, zh, (by omega), by simp, hS.sp⟩
    rintro ρ w1 ⟨j, hA, hρ, hj, hd, hS⟩; obtain ⟨ρ, rfl⟩ := env2 hA hρ
    unfold Q9d
    all_goals (refine Q0 ?_; refine Q1 ?_; refine Qx rfl rfl ?_; refine zn ?_; refine Q0 ?_)
    refine Qo rfl (fun hc => ?_) (fun hc => ?_)
    · skip
      all_goals (refine zsk ?_; refine Q0 ?_; refine Qa ?_; refine Q0 ?_; refine Q1 ?_; refine zi ?_; intro b1 o1 cs1 x1 hat1 hx1 he1; obtain ⟨vl1, rfl, hl1⟩ := Qf he1; (first | (refine zv hS ?_) | (refine zvk hS ?_)); refine Qd hS ?_; intro p6 w1 hS; refine zsn hS ?_; intro w1 hS; have hS := hS.ns; refine zn ?_; refine Q0 ?_; refine Q1 ?_; refine zv hS ?_; refine zm ?_; refine zsu ?_)
      all_goals (refine zR2 (c := ih _ (List.mem_of_getElem? (by assumption)) (by assumption) (by omega) hS) (h := ?_); rintro v1 w1 ⟨rfl, hS⟩; cases hg : x1.deepB (left - 1))
      all_goals (refine Q1O rfl ?_; refine zn ?_)
      all_goals
        first
        | (refine Q4 rfl ?_ -- Q3C c2
           all_goals refine zsk ?_)
        | (refine Q3 rfl ?_ -- Q3C c2
           all_goals (refine Q0 ?_; refine Q1 ?_; refine zm ?_; refine zn ?_; refine zr ?_; refine zf ?_)
           all_goals (first | (refine ⟨_, rfl, ?_, hS.sp⟩; rw [if_pos (by omega)]; done) | (refine ⟨_, rfl, ?_, hS.sp⟩; rw [if_neg (by omega), hd, Q7 hx1, Tys.deepB, hg, Bool.false_and]; done)))
      all_goals (refine Q1 ?_; refine zad ?_; refine zm ?_; refine zn ?_; exact ⟨⟨j + 1, zh, zh, (by omega), by rw [hd, Q7 hx1, Tys.deepB, hg, Bool.true_and], hS.sp⟩, Qr (by omega)⟩)
    · skip
      all_goals (refine zex ?_; refine Q0 ?_; refine Q1 ?_; refine zm ?_; refine zn ?_; refine zr ?_; refine zf ?_; (first | (refine ⟨_, rfl, ?_, hS.sp⟩; rw [if_pos (by omega)]; done) | (refine ⟨_, rfl, ?_, hS.sp⟩; rw [if_neg (by omega), hd, Q7 hx1, Tys.deepB, hg, Bool.false_and]; done) | (refine ⟨_, rfl, ?_, hS.sp⟩; rw [if_neg (by omega), hd, List.drop_of_length_le (by omega), Tys.deepB]; done)))
theorem wrong_c : ∀ (t : Ty) {cx : Cx} {w : World} {L : List Res} {cs : List Value} {regs : Int}, tyR.at cx cs t → St cx w L →
    Rets Tryz.prog QM [.agg ⟨cs⟩, .int .i64 regs] w fun v w' => v = .int .i64 (t.wrong 8 regs) ∧ St cx w' L := by
  intro t
  induction t using Ty.ind with
  | h k r l ih =>
    intro cx w L cs regs ht hS
    obtain ⟨v, rfl, hl⟩ := Qf ht
    simp only [Ty.kind, Ty.r, Ty.l] at hl ht ⊢
    have hlen := hl.len
    rw [Ty.wrong]
    all_goals refine Qk8 ?_
    all_goals (unfold types_wrong_lc; refine Q0 ?_; refine Q1 ?_; refine zb hS ?_; intro p2 w1 hS; refine zm ?_; refine zn ?_)
    refine zML hS [1, 2] (fun A LL ρ' w' => Has ρ' A ∧ Has ρ' [] ∧ (1 ≤ k ∧ k ≤ 4 ∧ k ≠ 1 ∧ (k ≠ 3 → l.length = 0) ∧ l.length ≤ 8) ∧ St cx w' (LL)) ?_ ?_
    · skip
      all_goals (refine Q0 ?_; refine Q1 ?_; refine Q2 rfl ?_; refine zl hS ?_; refine zn ?_; refine Qa ?_; refine Q0 ?_; refine Q1 ?_)
      all_goals (first | (refine Qv ?_) | (refine QB ?_) | (refine Qn rfl rfl (fun hc => ?_) (fun hc => ?_)))
      all_goals (refine zm ?_; refine zn ?_)
      all_goals
        first
        | (refine Q3 rfl ?_ -- QM c0
           all_goals (refine Q0 ?_; refine Q0 ?_; refine Q1 ?_; refine Q2 rfl ?_; refine zl hS ?_)
           all_goals (first | (refine QZ ?_) | (refine Q10 ?_) | (refine Qp rfl rfl (fun hc => ?_) (fun hc => ?_)))
           all_goals (refine zm ?_; (first | refine s_gn rfl rfl ?_ | (refine s_gy rfl ?_; refine Q2 rfl ?_)); (first | refine s_gn rfl rfl ?_ | (refine s_gy rfl ?_; refine zl hS ?_)); (first | refine s_gn rfl rfl ?_ | (refine s_gy rfl ?_; refine zL ?_)))
           all_goals (first | refine s_gn rfl rfl ?_ | (refine s_gy rfl ?_; (first | (refine Q12 ?_) | (refine Q15 ?_) | (refine Qq rfl rfl (fun hc => ?_) (fun hc => ?_)))))
           all_goals ((first | (refine zpt ?_) | (refine zpf ?_)); refine zn ?_)
           all_goals
             first
             | (refine Q3 rfl ?_ -- QM c1
                all_goals (refine Q0 ?_; refine Q1 ?_; refine zm ?_; refine zn ?_; refine zr ?_; refine zf ?_)
                all_goals (refine ⟨_, rfl, ?_, hS.sp⟩; (repeat (first | rw [if_pos (by omega)] | rw [if_neg (by omega)])); done))
             | (refine Q4 rfl ?_ -- QM c1
                all_goals refine zsk ?_)
           all_goals (refine Q0 ?_; refine Q1 ?_; refine zm ?_; refine zn ?_; refine zr ?_; refine zf ?_)
           all_goals (first | (refine ⟨_, rfl, ?_, hS.sp⟩; (repeat (first | rw [if_pos (by omega)] | rw [if_neg (by omega)])); done) | (refine ⟨_, rfl, ?_, hS.sp⟩; ((repeat (first | rw [if_pos (by omega)] | rw [if_neg (by omega)])); rw [hd, Q7 hx1, Tys.wrong, if_pos (by assumption)]); done) | (refine ⟨_, rfl, ?_, hS.sp⟩; ((repeat (first | rw [if_pos (by omega)] | rw [if_neg (by omega)])); rw [List.eq_nil_of_length_eq_zero (l := l) (by omega), Tys.wrong]); done)))
        | (refine Q4 rfl ?_ -- QM c0
           all_goals (refine Q0 ?_; refine Q0 ?_; refine Q1 ?_)
           all_goals (first | (refine Qv ?_) | (refine QB ?_) | (refine Qn rfl rfl (fun hc => ?_) (fun hc => ?_)))
           all_goals (refine zm ?_; refine zn ?_)
           all_goals
             first
             | (refine Q3 rfl ?_ -- QM c2
                all_goals refine zsk ?_)
             | (refine Q4 rfl ?_ -- QM c2
                all_goals (refine Q1 ?_)
                all_goals (first | (refine Qv ?_) | (refine QB ?_) | (refine Qn rfl rfl (fun hc => ?_) (fun hc => ?_)))
                all_goals (refine zm ?_)
                all_goals refine zn ?_)
           all_goals
             first
             | (refine Q3 rfl ?_ -- QM c3
                all_goals (refine Q0 ?_; refine Q1 ?_; refine Q2 rfl ?_; refine zl hS ?_; refine zL ?_)
                all_goals (first | (refine Q12 ?_) | (refine Q15 ?_) | (refine Qq rfl rfl (fun hc => ?_) (fun hc => ?_)))
                all_goals (refine zn ?_)
                all_goals
                  first
                  | (refine Q3 rfl ?_ -- QM c4
                     all_goals (refine Q0 ?_; refine Q1 ?_; refine zm ?_; refine zn ?_; refine zr ?_; refine zf ?_)
                     all_goals (refine ⟨_, rfl, ?_, hS.sp⟩; (repeat (first | rw [if_pos (by omega)] | rw [if_neg (by omega)])); done))
                  | (refine Q4 rfl ?_ -- QM c4
                     all_goals refine zsk ?_))
             | (refine Q4 rfl ?_ -- QM c3
                all_goals (refine Q0 ?_; refine Q1 ?_)
                all_goals (first | (refine Qv ?_) | (refine QB ?_) | (refine Qn rfl rfl (fun hc => ?_) (fun hc => ?_)))
                all_goals (refine zm ?_; refine zn ?_)
                all_goals
                  first
                  | (refine Q3 rfl ?_ -- QM c5
                     all_goals (refine Q0 ?_; refine Q1 ?_; refine Q2 rfl ?_; refine zl hS ?_; refine zL ?_)
                     all_goals (first | (refine Q12 ?_) | (refine Q15 ?_) | (refine Qq rfl rfl (fun hc => ?_) (fun hc => ?_)))
                     all_goals (refine zn ?_)
                     all_goals
                       first
                       | (refine Q3 rfl ?_ -- QM c6
                          all_goals (refine Q0 ?_; refine Q1 ?_; refine zm ?_; refine zn ?_; refine zr ?_; refine zf ?_)
                          all_goals (refine ⟨_, rfl, ?_, hS.sp⟩; (repeat (first | rw [if_pos (by omega)] | rw [if_neg (by omega)])); done))
                       | (refine Q4 rfl ?_ -- QM c6
                          all_goals refine zsk ?_))
                  | (refine Q4 rfl ?_ -- QM c5
                     all_goals (refine Q0 ?_; refine Q1 ?_; refine zm ?_; refine zn ?_; refine zr ?_; refine zf ?_)
                     all_goals (refine ⟨_, rfl, ?_, hS.sp⟩; (repeat (first | rw [if_pos (by omega)] | rw [if_neg (by omega)])); done))))
      all_goals (exact ⟨zh, zh, by omega, hS.sp⟩)
    rintro ρ w1 ⟨hA, hρ, hk, hS⟩; obtain ⟨ρ, rfl⟩ := env2 hA hρ
    all_goals (refine Q0 ?_; refine Q0 ?_; refine Q1 ?_; refine Q2 rfl ?_; refine zl hS ?_)
    all_goals (first | (refine Q1L ?_) | (refine Q1M ?_) | (refine QE rfl rfl (fun hc => ?_) (fun hc => ?_)))
    all_goals (refine zm ?_; (first | refine s_gn rfl rfl ?_ | (refine s_gy rfl ?_; refine Q2 rfl ?_)); (first | refine s_gn rfl rfl ?_ | (refine s_gy rfl ?_; refine zl hS ?_)); (first | refine s_gn rfl rfl ?_ | (refine s_gy rfl ?_; refine zm ?_)))
    all_goals (first | refine s_gn rfl rfl ?_ | (refine s_gy rfl ?_; (first | (refine Q3f ?_) | (refine Q3g ?_) | (refine Q1A rfl rfl (fun hc => ?_) (fun hc => ?_)))))
    all_goals ((first | (refine zpt ?_) | (refine zpf ?_)); refine zn ?_)
    all_goals
      first
      | (refine Q3 rfl ?_ -- QM c7
         all_goals (refine Q0 ?_; refine Q1 ?_; refine zm ?_; refine zn ?_; refine zr ?_; refine zf ?_)
         all_goals (refine ⟨_, rfl, ?_, hS.sp⟩; (repeat (first | rw [if_pos (by omega)] | rw [if_neg (by omega)])); done))
      | (refine Q4 rfl ?_ -- QM c7
         all_goals refine zsk ?_)
    all_goals (refine Q0 ?_; refine Q0 ?_; refine Q1 ?_; refine Q2 rfl ?_; refine zl hS ?_; refine zL ?_; refine zm ?_; refine zn ?_; refine Qa ?_)
    refine zoL hS [1, 44, 45] (fun A LL ρ' w' => ∃ (j : Nat), Has ρ' A ∧ Has ρ' [(46, .int .i64 j)] ∧ (j ≤ l.length) ∧ (Tys.wrong 8 l regs = Tys.wrong 8 (l.drop j) regs) ∧ St cx w' (LL)) (fun ρ' _ => (l.length - iv (ρ' 46)).toNat) ?_ ?_
    · exact ⟨0, zh, zh, (by omega), by simp, hS.sp⟩
    rintro ρ w1 ⟨j, hA, hρ, hj, hd, hS⟩; obtain ⟨ρ, rfl⟩ := env2 hA hρ
    unfold Q5A
    all_goals (refine Q0 ?_; refine Q1 ?_; refine Qx rfl rfl ?_; refine zn ?_; refine Q0 ?_)
    refine Qo rfl (fun hc => ?_) (fun hc => ?_)
    · skip
      all_goals (refine zsk ?_; refine Q0 ?_; refine Qa ?_; refine Q0 ?_; refine Q1 ?_; refine zi ?_; intro b1 o1 cs1 x1 hat1 hx1 he1; obtain ⟨vl1, rfl, hl1⟩ := Qf he1; (first | (refine zv hS ?_) | (refine zvk hS ?_)); refine Qd hS ?_; intro p6 w1 hS; refine zsn hS ?_; intro w1 hS; have hS := hS.ns; refine zn ?_; refine Q0 ?_; refine Q1 ?_; refine zv hS ?_; refine zm ?_; refine zR2 (c := ih _ (List.mem_of_getElem? (by assumption)) (by assumption) hS) (h := ?_); rintro v1 w1 ⟨rfl, hS⟩; refine zm ?_; refine zn ?_; refine Q0 ?_; refine Q1 ?_; refine zm ?_)
      all_goals (first | (refine QZ ?_) | (refine Q10 ?_) | (refine Qp rfl rfl (fun hc => ?_) (fun hc => ?_)))
      all_goals (refine zn ?_)
      all_goals
        first
        | (refine Q3 rfl ?_ -- QM c9
           all_goals (refine Q0 ?_; refine Q1 ?_; refine zm ?_; refine zm ?_; refine zn ?_; refine zr ?_; refine zf ?_)
           all_goals (first | (refine ⟨_, rfl, ?_, hS.sp⟩; (repeat (first | rw [if_pos (by omega)] | rw [if_neg (by omega)])); done) | (refine ⟨_, rfl, ?_, hS.sp⟩; ((repeat (first | rw [if_pos (by omega)] | rw [if_neg (by omega)])); rw [hd, Q7 hx1, Tys.wrong, if_pos (by assumption)]); done)))
        | (refine Q4 rfl ?_ -- QM c9
           all_goals refine zsk ?_)
      all_goals (refine Q1 ?_; refine zad ?_; refine zm ?_; refine zn ?_; exact ⟨⟨j + 1, zh, zh, (by omega), by rw [hd, Q7 hx1, Tys.wrong, if_neg (by omega)], hS.sp⟩, Qr (by omega)⟩)
    · skip
      all_goals (refine zex ?_; refine Q0 ?_; refine Q1 ?_; refine zm ?_; refine zn ?_; refine zr ?_; refine zf ?_; (first | (refine ⟨_, rfl, ?_, hS.sp⟩; (repeat (first | rw [if_pos (by omega)] | rw [if_neg (by omega)])); done) | (refine ⟨_, rfl, ?_, hS.sp⟩; ((repeat (first | rw [if_pos (by omega)] | rw [if_neg (by omega)])); rw [hd, Q7 hx1, Tys.wrong, if_pos (by assumption)]); done) | (refine ⟨_, rfl, ?_, hS.sp⟩; ((repeat (first | rw [if_pos (by omega)] | rw [if_neg (by omega)])); rw [List.eq_nil_of_length_eq_zero (l := l) (by omega), Tys.wrong]); done) | (refine ⟨_, rfl, ?_, hS.sp⟩; ((repeat (first | rw [if_pos (by omega)] | rw [if_neg (by omega)])); rw [hd, List.drop_of_length_le (by omega), Tys.wrong]); done)))
theorem Qt7 {t : Ty} {cx : Cx} {w : World} {L : List Res} {cs : List Value} {regs : Int} (ht : tyR.at cx cs t) (hS : St cx w L) :
    Rets Tryz.prog Q4Q [.agg ⟨cs⟩, .int .i64 regs] w fun v w' => v = .int .i64 (t.fault regs) ∧ St cx w' L := by
  obtain ⟨v, rfl, hl⟩ := Qf ht
  unfold Ty.fault
  all_goals refine Qkf ?_
  all_goals (unfold types_Check_lc; refine Q0 ?_; refine Q1 ?_; refine zb hS ?_; intro p2 w1 hS; refine zm ?_; refine zn ?_; refine Q0 ?_; refine Q0 ?_; refine Q1 ?_; refine zv hS ?_)
  all_goals (refine zR2 (c := deep_c t ht (by omega) hS) (h := ?_); rintro v1 w1 ⟨rfl, hS⟩; cases hg : t.deepB 4)
  all_goals (refine Q1O rfl ?_; refine zn ?_)
  all_goals
    first
    | (refine Q3 rfl ?_ -- Q4Q c0
       all_goals (refine Q0 ?_; refine Q1 ?_; refine zm ?_; refine zn ?_; refine zr ?_; refine zf ?_)
       all_goals (refine ⟨_, rfl, ?_, hS.sp⟩; (rfl); done))
    | (refine Q4 rfl ?_ -- Q4Q c0
       all_goals refine zsk ?_)
  all_goals (refine Q0 ?_; refine Q1 ?_; refine zv hS ?_; refine zm ?_; refine zR2 (c := wrong_c t ht hS) (h := ?_); rintro v1 w1 ⟨rfl, hS⟩; refine zm ?_; refine zn ?_; refine zr ?_; refine zf ?_; refine ⟨_, rfl, ?_, hS.sp⟩; (rfl); done)
theorem Qvm : ∀ (t : Ty) {cx : Cx} {w : World} {L : List Res} {cs : List Value} {most : Int}, tyR.at cx cs t → 0 ≤ most → most ≤ 1000 → St cx w L →
    Rets Tryz.prog Q4b [.agg ⟨cs⟩, .int .i64 most] w fun v w' => v = .int .i64 (t.depth most) ∧ St cx w' L := by
  intro t
  induction t using Ty.ind with
  | h k r l ih =>
    intro cx w L cs most ht h0 h1 hS
    obtain ⟨v, rfl, hl⟩ := Qf ht
    simp only [Ty.kind, Ty.r, Ty.l] at hl ht ⊢
    have hlen := hl.len
    rw [Ty.depth]
    all_goals refine QsW ?_
    all_goals (unfold R_DeepOf_lc; refine Q0 ?_; refine Q1 ?_; refine zb hS ?_; intro p2 w1 hS; refine zm ?_; refine zn ?_; refine Q0 ?_; refine Q1 ?_; refine zm ?_; refine zn ?_; refine Q0 ?_; refine Q0 ?_; refine Q1 ?_; refine zm ?_; refine zn ?_; refine Qa ?_)
    refine zoL hS [1, 2] (fun A LL ρ' w' => ∃ (j : Nat) (n : Int), Has ρ' A ∧ Has ρ' [(5, .int .i64 n), (6, .int .i64 j)] ∧ (j ≤ l.length) ∧ (0 ≤ n) ∧ (n ≤ 1002) ∧ (Tys.depth l most 0 = Tys.depth (l.drop j) most n) ∧ St cx w' (LL)) (fun ρ' _ => (l.length - iv (ρ' 6)).toNat) ?_ ?_
    · exact ⟨0, 0, zh, zh, (by omega), (by omega), (by omega), by simp, hS.sp⟩
    rintro ρ w1 ⟨j, n, hA, hρ, hj, hn0, hn, hd, hS⟩; obtain ⟨ρ, rfl⟩ := env2 hA hρ
    unfold Qjz
    all_goals (refine Q0 ?_; refine Q0 ?_; refine Q1 ?_; refine zm ?_; refine Q2 rfl ?_; refine zl hS ?_; refine zL ?_)
    all_goals (first | (refine Q1L ?_) | (refine Q1M ?_) | (refine QE rfl rfl (fun hc => ?_) (fun hc => ?_)))
    all_goals (refine zm ?_; (first | refine s_gn rfl rfl ?_ | (refine s_gy rfl ?_; refine zm ?_)); (first | refine s_gn rfl rfl ?_ | (refine s_gy rfl ?_; refine zm ?_)))
    all_goals (first | refine s_gn rfl rfl ?_ | (refine s_gy rfl ?_; (first | (refine zleqt ?_) | (refine zleqf ?_) | (refine s_leq_s rfl rfl (fun hc => ?_) (fun hc => ?_)))))
    all_goals ((first | (refine zpt ?_) | (refine zpf ?_)); refine zn ?_)
    all_goals
      first
      | (refine Q4 rfl ?_ -- Q4b c0
         all_goals (refine zex ?_; refine Q0 ?_; refine Q1 ?_; refine zm ?_; refine zm ?_; refine zn ?_; refine zr ?_; refine zf ?_)
         all_goals (first | (refine ⟨_, rfl, ?_, hS.sp⟩; rw [hd]; cases hx : l.drop j with | nil => exact absurd (List.drop_eq_nil_iff.1 hx) (by omega) | cons y m => rw [Tys.depth, if_pos (by omega), if_pos (by omega)]; done) | (refine ⟨_, rfl, ?_, hS.sp⟩; rw [hd, List.drop_of_length_le (by omega), Tys.depth]; done) | (refine ⟨_, rfl, ?_, hS.sp⟩; rw [hd]; cases hx : l.drop j with | nil => rw [Tys.depth] | cons y m => rw [Tys.depth, if_neg (by omega)]; done)))
      | (refine Q3 rfl ?_ -- Q4b c0
         all_goals (refine zsk ?_; refine Q0 ?_; refine Qa ?_; refine Q0 ?_; refine Q0 ?_; refine Q1 ?_; refine zm ?_)
         all_goals (first | (refine Qv ?_) | (refine QB ?_) | (refine Qn rfl rfl (fun hc => ?_) (fun hc => ?_)))
         all_goals (refine zn ?_)
         all_goals
           first
           | (refine Q3 rfl ?_ -- Q4b c1
              all_goals (refine Q0 ?_; refine Q1 ?_; refine zm ?_; refine zn ?_; refine zr ?_; refine zf ?_)
              all_goals (refine ⟨_, rfl, ?_, hS.sp⟩; rw [hd]; cases hx : l.drop j with | nil => exact absurd (List.drop_eq_nil_iff.1 hx) (by omega) | cons y m => rw [Tys.depth, if_pos (by omega), if_pos (by omega)]; done))
           | (refine Q4 rfl ?_ -- Q4b c1
              all_goals refine zsk ?_)
         all_goals (refine Q0 ?_; refine Q1 ?_; refine Q2 rfl ?_; refine zl hS ?_; refine zm ?_; refine zi ?_; intro b1 o1 cs1 x1 hat1 hx1 he1; obtain ⟨vl1, rfl, hl1⟩ := Qf he1; (first | (refine zv hS ?_) | (refine zvk hS ?_)); refine zm ?_; refine zsu ?_; have hb := Ty.depth_rng x1 (most := most - 1) (by omega); refine zR2 (c := ih _ (List.mem_of_getElem? (by assumption)) (by assumption) (by omega) (by omega) hS) (h := ?_); rintro v1 w1 ⟨rfl, hS⟩; refine zad ?_; refine zm ?_; refine zn ?_; refine Q0 ?_; refine Q1 ?_; refine zm ?_; refine zm ?_)
         all_goals (first | (refine Q12 ?_) | (refine Q15 ?_) | (refine Qq rfl rfl (fun hc => ?_) (fun hc => ?_)))
         all_goals (refine zn ?_)
         all_goals
           first
           | (refine Q3 rfl ?_ -- Q4b c2
              all_goals (refine Q1 ?_; refine zm ?_; refine zm ?_)
              all_goals refine zn ?_)
           | (refine Q4 rfl ?_ -- Q4b c2
              all_goals refine zsk ?_)
         all_goals (refine Q1 ?_; refine zm ?_; refine zad ?_; refine zm ?_; refine zn ?_)
         all_goals (first | (exact ⟨⟨j + 1, _, zh, zh, (by omega), (by omega), (by omega), by rw [hd, Q7 hx1, Tys.depth, if_pos (by omega), if_neg (by omega), if_pos (by omega)], hS.sp⟩, Qr (by omega)⟩) | (exact ⟨⟨j + 1, _, zh, zh, (by omega), (by omega), (by omega), by rw [hd, Q7 hx1, Tys.depth, if_pos (by omega), if_neg (by omega), if_neg (by omega)], hS.sp⟩, Qr (by omega)⟩)))
theorem rwrong_c : ∀ (t : Ty) {cx : Cx} {w : World} {L : List Res} {cs : List Value} {regs : Int}, tyR.at cx cs t → St cx w L →
    Rets Tryz.prog Q1B [.agg ⟨cs⟩, .int .i64 regs] w fun v w' => v = .int .i64 (t.wrong 8 regs) ∧ St cx w' L := by
  intro t
  induction t using Ty.ind with
  | h k r l ih =>
    intro cx w L cs regs ht hS
    obtain ⟨v, rfl, hl⟩ := Qf ht
    simp only [Ty.kind, Ty.r, Ty.l] at hl ht ⊢
    have hlen := hl.len
    rw [Ty.wrong]
    all_goals refine QkO ?_
    all_goals (unfold R_typeFault_lc; refine Q0 ?_; refine Q1 ?_; refine zb hS ?_; intro p2 w1 hS; refine zm ?_; refine zn ?_; refine Q0 ?_; refine Q0 ?_; refine Q1 ?_; refine Q2 rfl ?_; refine zl hS ?_)
    all_goals (first | (refine Q1L ?_) | (refine Q1M ?_) | (refine QE rfl rfl (fun hc => ?_) (fun hc => ?_)))
    all_goals (refine zm ?_; (first | refine s_gn rfl rfl ?_ | (refine s_gy rfl ?_; refine Q2 rfl ?_)); (first | refine s_gn rfl rfl ?_ | (refine s_gy rfl ?_; refine zl hS ?_)))
    all_goals (first | refine s_gn rfl rfl ?_ | (refine s_gy rfl ?_; (first | (refine Q12 ?_) | (refine Q15 ?_) | (refine Qq rfl rfl (fun hc => ?_) (fun hc => ?_)))))
    all_goals ((first | (refine zpt ?_) | (refine zpf ?_)); refine zn ?_)
    all_goals
      first
      | (refine Q3 rfl ?_ -- Q1B c0
         all_goals (refine Q0 ?_; refine Q1 ?_; refine zm ?_; refine zn ?_; refine zr ?_; refine zf ?_)
         all_goals (refine ⟨_, rfl, ?_, hS.sp⟩; (repeat (first | rw [if_pos (by omega)] | rw [if_neg (by omega)])); done))
      | (refine Q4 rfl ?_ -- Q1B c0
         all_goals refine zsk ?_)
    refine zML hS [1, 2] (fun A LL ρ' w' => Has ρ' A ∧ Has ρ' [] ∧ (1 ≤ k ∧ k ≤ 4 ∧ (k = 1 → r = 0) ∧ (k ≠ 3 → l.length = 0)) ∧ St cx w' (LL)) ?_ ?_
    · skip
      all_goals (refine Q0 ?_; refine Q1 ?_; refine Q2 rfl ?_; refine zl hS ?_)
      all_goals (first | (refine Qv ?_) | (refine QB ?_) | (refine Qn rfl rfl (fun hc => ?_) (fun hc => ?_)))
      all_goals (refine zm ?_; (first | refine s_gn rfl rfl ?_ | (refine s_gy rfl ?_; refine Q2 rfl ?_)); (first | refine s_gn rfl rfl ?_ | (refine s_gy rfl ?_; refine zl hS ?_)))
      all_goals (first | refine s_gn rfl rfl ?_ | (refine s_gy rfl ?_; (first | (refine QZ ?_) | (refine Q10 ?_) | (refine Qp rfl rfl (fun hc => ?_) (fun hc => ?_)))))
      all_goals ((first | (refine zpt ?_) | (refine zpf ?_)); refine zm ?_; (first | refine s_gn rfl rfl ?_ | (refine s_gy rfl ?_; refine Q2 rfl ?_)); (first | refine s_gn rfl rfl ?_ | (refine s_gy rfl ?_; refine zl hS ?_)))
      all_goals (first | refine s_gn rfl rfl ?_ | (refine s_gy rfl ?_; (first | (refine QZ ?_) | (refine Q10 ?_) | (refine Qp rfl rfl (fun hc => ?_) (fun hc => ?_)))))
      all_goals ((first | refine s_gn rfl rfl ?_ | (refine s_gy rfl ?_; refine zm ?_)); (first | refine s_gn rfl rfl ?_ | (refine s_gy rfl ?_; refine Q2 rfl ?_)); (first | refine s_gn rfl rfl ?_ | (refine s_gy rfl ?_; refine zl hS ?_)); (first | refine s_gn rfl rfl ?_ | (refine s_gy rfl ?_; refine zL ?_)))
      all_goals (first | refine s_gn rfl rfl ?_ | (refine s_gy rfl ?_; (first | (refine Q12 ?_) | (refine Q15 ?_) | (refine Qq rfl rfl (fun hc => ?_) (fun hc => ?_)))))
      all_goals ((first | refine s_gn rfl rfl ?_ | (refine s_gy rfl ?_; (first | (refine zpt ?_) | (refine zpf ?_)))); (first | (refine zpt ?_) | (refine zpf ?_)); refine zn ?_)
      all_goals
        first
        | (refine Q3 rfl ?_ -- Q1B c1
           all_goals (refine Q0 ?_; refine Q1 ?_; refine zm ?_; refine zn ?_; refine zr ?_; refine zf ?_)
           all_goals (refine ⟨_, rfl, ?_, hS.sp⟩; (repeat (first | rw [if_pos (by omega)] | rw [if_neg (by omega)])); done))
        | (refine Q4 rfl ?_ -- Q1B c1
           all_goals refine zsk ?_)
      all_goals (exact ⟨zh, zh, by omega, hS.sp⟩)
    rintro ρ w1 ⟨hA, hρ, hk, hS⟩; obtain ⟨ρ, rfl⟩ := env2 hA hρ
    all_goals (refine Q0 ?_; refine Q0 ?_; refine Q1 ?_; refine Q2 rfl ?_; refine zl hS ?_; refine zL ?_)
    all_goals (first | (refine Q12 ?_) | (refine Q15 ?_) | (refine Qq rfl rfl (fun hc => ?_) (fun hc => ?_)))
    all_goals (refine zn ?_)
    all_goals
      first
      | (refine Q3 rfl ?_ -- Q1B c2
         all_goals (refine Q0 ?_; refine Q1 ?_; refine zm ?_; refine zn ?_; refine zr ?_; refine zf ?_)
         all_goals (refine ⟨_, rfl, ?_, hS.sp⟩; (repeat (first | rw [if_pos (by omega)] | rw [if_neg (by omega)])); done))
      | (refine Q4 rfl ?_ -- Q1B c2
         all_goals refine zsk ?_)
    refine zML hS [1, 2] (fun A LL ρ' w' => Has ρ' A ∧ Has ρ' [] ∧ (l.length ≤ 8) ∧ (k ≠ 1 → 0 ≤ r ∧ r < regs) ∧ St cx w' (LL)) ?_ ?_
    · skip
      all_goals (refine Q0 ?_; refine Q1 ?_; refine Q2 rfl ?_; refine zl hS ?_)
      all_goals (first | (refine QZ ?_) | (refine Q10 ?_) | (refine Qp rfl rfl (fun hc => ?_) (fun hc => ?_)))
      all_goals (refine zm ?_; (first | refine s_gn rfl rfl ?_ | (refine s_gy rfl ?_; refine Q2 rfl ?_)); (first | refine s_gn rfl rfl ?_ | (refine s_gy rfl ?_; refine zl hS ?_)))
      all_goals (first | refine s_gn rfl rfl ?_ | (refine s_gy rfl ?_; (first | (refine Q1L ?_) | (refine Q1M ?_) | (refine QE rfl rfl (fun hc => ?_) (fun hc => ?_)))))
      all_goals ((first | refine s_gn rfl rfl ?_ | (refine s_gy rfl ?_; refine zm ?_)); (first | refine s_gn rfl rfl ?_ | (refine s_gy rfl ?_; refine Q2 rfl ?_)); (first | refine s_gn rfl rfl ?_ | (refine s_gy rfl ?_; refine zl hS ?_)); (first | refine s_gn rfl rfl ?_ | (refine s_gy rfl ?_; refine zm ?_)))
      all_goals (first | refine s_gn rfl rfl ?_ | (refine s_gy rfl ?_; (first | (refine Q3f ?_) | (refine Q3g ?_) | (refine Q1A rfl rfl (fun hc => ?_) (fun hc => ?_)))))
      all_goals ((first | refine s_gn rfl rfl ?_ | (refine s_gy rfl ?_; (first | (refine zpt ?_) | (refine zpf ?_)))); (first | (refine zpt ?_) | (refine zpf ?_)); refine zn ?_)
      all_goals
        first
        | (refine Q3 rfl ?_ -- Q1B c3
           all_goals (refine Q0 ?_; refine Q1 ?_; refine zm ?_; refine zn ?_; refine zr ?_; refine zf ?_)
           all_goals (refine ⟨_, rfl, ?_, hS.sp⟩; (repeat (first | rw [if_pos (by omega)] | rw [if_neg (by omega)])); done))
        | (refine Q4 rfl ?_ -- Q1B c3
           all_goals refine zsk ?_)
      all_goals (exact ⟨zh, zh, by omega, by omega, hS.sp⟩)
    rintro ρ w1 ⟨hA, hρ, hk2, hk3, hS⟩; obtain ⟨ρ, rfl⟩ := env2 hA hρ
    all_goals (refine Q0 ?_; refine Q0 ?_; refine Q1 ?_; refine zm ?_; refine zn ?_; refine Qa ?_)
    refine zoL hS [1, 2] (fun A LL ρ' w' => ∃ (j : Nat), Has ρ' A ∧ Has ρ' [(5, .int .i64 j)] ∧ (j ≤ l.length) ∧ (Tys.wrong 8 l regs = Tys.wrong 8 (l.drop j) regs) ∧ St cx w' (LL)) (fun ρ' _ => (l.length - iv (ρ' 5)).toNat) ?_ ?_
    · exact ⟨0, zh, zh, (by omega), by simp, hS.sp⟩
    rintro ρ w1 ⟨j, hA, hρ, hj, hd, hS⟩; obtain ⟨ρ, rfl⟩ := env2 hA hρ
    unfold Q6c
    all_goals (refine Q0 ?_; refine Q0 ?_; refine Q1 ?_; refine zm ?_; refine Q2 rfl ?_; refine zl hS ?_; refine zL ?_; refine Qx rfl rfl ?_; refine zn ?_)
    refine Qo rfl (fun hc => ?_) (fun hc => ?_)
    · skip
      all_goals (refine zsk ?_; refine Q0 ?_; refine Qa ?_; refine Q0 ?_; refine Q1 ?_; refine Q2 rfl ?_; refine zl hS ?_; refine zm ?_; refine zi ?_; intro b1 o1 cs1 x1 hat1 hx1 he1; obtain ⟨vl1, rfl, hl1⟩ := Qf he1; (first | (refine zv hS ?_) | (refine zvk hS ?_)); refine zm ?_; refine zR2 (c := ih _ (List.mem_of_getElem? (by assumption)) (by assumption) hS) (h := ?_); rintro v1 w1 ⟨rfl, hS⟩; refine zm ?_; refine zn ?_; refine Q0 ?_; refine Q1 ?_; refine zm ?_)
      all_goals (first | (refine QZ ?_) | (refine Q10 ?_) | (refine Qp rfl rfl (fun hc => ?_) (fun hc => ?_)))
      all_goals (refine zn ?_)
      all_goals
        first
        | (refine Q3 rfl ?_ -- Q1B c5
           all_goals (refine Q0 ?_; refine Q1 ?_; refine zm ?_; refine zm ?_; refine zn ?_; refine zr ?_; refine zf ?_)
           all_goals (first | (refine ⟨_, rfl, ?_, hS.sp⟩; (repeat (first | rw [if_pos (by omega)] | rw [if_neg (by omega)])); done) | (refine ⟨_, rfl, ?_, hS.sp⟩; ((repeat (first | rw [if_pos (by omega)] | rw [if_neg (by omega)])); rw [hd, Q7 hx1, Tys.wrong, if_pos (by assumption)]); done)))
        | (refine Q4 rfl ?_ -- Q1B c5
           all_goals refine zsk ?_)
      all_goals (refine Q1 ?_; refine zm ?_; refine zad ?_; refine zm ?_; refine zn ?_; exact ⟨⟨j + 1, zh, zh, (by omega), by rw [hd, Q7 hx1, Tys.wrong, if_neg (by omega)], hS.sp⟩, Qr (by omega)⟩)
    · skip
      all_goals (refine zex ?_; refine Q0 ?_; refine Q1 ?_; refine zm ?_; refine zn ?_; refine zr ?_; refine zf ?_; (first | (refine ⟨_, rfl, ?_, hS.sp⟩; (repeat (first | rw [if_pos (by omega)] | rw [if_neg (by omega)])); done) | (refine ⟨_, rfl, ?_, hS.sp⟩; ((repeat (first | rw [if_pos (by omega)] | rw [if_neg (by omega)])); rw [hd, Q7 hx1, Tys.wrong, if_pos (by assumption)]); done) | (refine ⟨_, rfl, ?_, hS.sp⟩; ((repeat (first | rw [if_pos (by omega)] | rw [if_neg (by omega)])); rw [hd, List.drop_of_length_le (by omega), Tys.wrong]); done)))
theorem QuF {t : Ty} {cx : Cx} {w : World} {L : List Res} {cs : List Value} {regs : Int} (ht : tyR.at cx cs t) (hS : St cx w L) :
    Rets Tryz.prog Q5l [.agg ⟨cs⟩, .int .i64 regs] w fun v w' => v = .int .i64 (t.fault regs) ∧ St cx w' L := by
  obtain ⟨v, rfl, hl⟩ := Qf ht
  have hdp := Ty.depth_iff t (most := 4) (by omega)
  unfold Ty.fault
  all_goals refine QkU ?_
  all_goals (unfold R_TypeFault_lc; refine Q0 ?_; refine Q1 ?_; refine zb hS ?_; intro p2 w1 hS; refine zm ?_; refine zn ?_; refine Q0 ?_; refine Q0 ?_; refine Q1 ?_; refine zv hS ?_; refine zR2 (c := Qvm t ht (by omega) (by omega) hS) (h := ?_); rintro v1 w1 ⟨rfl, hS⟩)
  all_goals (first | (refine Q12 ?_) | (refine Q15 ?_) | (refine Qq rfl rfl (fun hc => ?_) (fun hc => ?_)))
  all_goals (refine zn ?_)
  all_goals
    first
    | (refine Q3 rfl ?_ -- Q5l c0
       all_goals (refine Q0 ?_; refine Q1 ?_; refine zm ?_; refine zn ?_; refine zr ?_; refine zf ?_)
       all_goals (refine ⟨_, rfl, ?_, hS.sp⟩; rw [if_pos]; cases hg : t.deepB 4 <;> simp_all <;> omega; done))
    | (refine Q4 rfl ?_ -- Q5l c0
       all_goals refine zsk ?_)
  all_goals (refine Q0 ?_; refine Q1 ?_; refine zv hS ?_; refine zm ?_; refine zR2 (c := rwrong_c t ht hS) (h := ?_); rintro v1 w1 ⟨rfl, hS⟩; refine zm ?_; refine zn ?_; refine zr ?_; refine zf ?_)
  all_goals (first | (refine ⟨_, rfl, ?_, hS.sp⟩; rw [if_pos]; cases hg : t.deepB 4 <;> simp_all <;> omega; done) | (refine ⟨_, rfl, ?_, hS.sp⟩; rw [if_neg]; cases hg : t.deepB 4 <;> simp_all <;> omega; done))
end Go.Proofs.YtanlkfeogoganaaGreat
namespace Go.Proofs.YtanlkfeogoganaaGreat
open Go.Lir
set_option maxHeartbeats 1000000
attribute [local irreducible] LC.wp Q5 Q11 Q1c retQ Q2b LO.wp QD Calls
set_option linter.unusedSimpArgs false
set_option linter.unusedVariables false
theorem rowns_of {l : List Ty} (hlen : l.length ≤ 100000) (ih : ∀ x ∈ l, ∀ {cx : Cx} {w : World} {L : List Res} {cs : List Value}, tyR.at cx cs x → St cx w L → Rets Tryz.prog Qii [.agg ⟨cs⟩] w fun u w' => ∃ c' ds, u = .agg ⟨ds⟩ ∧ cx.Le c' ∧ tyR.at c' ds x ∧ St c' w' L)
    {cx : Cx} {w : World} {L : List Res} {v : Value} (hl : tyR.sl cx v l) (hS : St cx w L) : Rets Tryz.prog Qcp [v] w fun u w' => ∃ c', cx.Le c' ∧ tyR.sl c' u l ∧ St c' w' L := by
  all_goals refine QaJ ?_
  all_goals (unfold R_OwnTypes_lc; refine Q0 ?_; refine Q1 ?_; refine zm ?_; refine zn ?_; refine Q0 ?_; refine Q1 ?_; refine zm ?_; refine zn ?_; refine Q0 ?_; refine Q0 ?_; refine Q1 ?_; refine zm ?_; refine zn ?_; refine Qa ?_)
  refine zoL hS [0] (fun A LL ρ' w' => ∃ (c1 : Cx) (j : Nat) (u : Value) (css : List (List Value)), Has ρ' A ∧ Has ρ' [(3, u), (4, .int .i64 j)] ∧ (cx.Le c1) ∧ (j ≤ l.length) ∧ (tyR.ls c1 css (l.take j)) ∧ (oneC u = true) ∧ St c1 w' (sl 112 3 u css :: LL)) (fun ρ' _ => (l.length - iv (ρ' 4)).toNat) ?_ ?_
  · exact ⟨cx, 0, .slice none 0 0, [], zh, zh, St.refl hS, (by omega), Rep.LR.nil _ _ _, rfl, by have hS := hS.nil (T := 112) (es := 3); exact hS⟩
  rintro ρ w1 ⟨c1, j, u, css, hA, hρ, hle, hj, hls, hu, hS⟩; obtain ⟨ρ, rfl⟩ := env2 hA hρ; have hl := Rep.SR.up hl hle
  unfold Q5m
  all_goals (refine Q0 ?_; refine Q0 ?_; refine Q1 ?_; refine zm ?_; refine zm ?_; refine zL ?_; refine Qx rfl rfl ?_; refine zn ?_)
  refine Qo rfl (fun hc => ?_) (fun hc => ?_)
  · skip
    all_goals (refine zsk ?_; refine Q0 ?_; refine Qa ?_; refine Q1 ?_; refine zm ?_; refine zm ?_; refine zm ?_; refine zi ?_; intro b1 o1 cs1 x1 hat1 hx1 he1; obtain ⟨vl1, rfl, hl1⟩ := Qf he1; (first | (refine zv hS ?_) | (refine zvk hS ?_)); refine zR1 (c := ih _ (List.mem_of_getElem? hx1) he1 hS) (h := ?_); rintro v1 w1 ⟨c2, ds, rfl, hle2, hd, hS⟩; obtain ⟨v2, rfl, hv2⟩ := Qf hd; have hls := Rep.LR.up hls hle2; refine zB1 hS [_, _, _] ?_; intro b1 w1 hS; refine za Q38 Q5x hS ?_; intro vp1 w1 css1 hls1 hv1 hS; have hS := hS.ns; refine zm ?_; refine zn ?_; refine Q1 ?_; refine zm ?_; refine zad ?_; refine zm ?_; refine zn ?_; exact ⟨⟨c2, j + 1, _, _, zh, zh, hle.trans hle2, (by omega), by rw [Q1E hx1]; assumption, by assumption, hS.sp⟩, Qr (by omega)⟩)
  · skip
    all_goals (refine zex ?_; refine Q0 ?_; refine Q1 ?_; refine zm ?_; refine zm ?_; refine zn ?_; refine zr ?_; refine zf ?_; obtain ⟨c3, hle3, hS, hl3⟩ := St.freezeL (r := tyR) (l := l) (T := 112) (es := 3) (v := u) (css := css) (L := L) hS.sp (by rw [List.take_of_length_le (by omega)] at hls; exact hls) rfl (by omega); exact ⟨_, rfl, c3, hle.trans hle3, hl3, hS⟩)
theorem rown_c : ∀ (t : Ty), t.Short → ∀ {cx : Cx} {w : World} {L : List Res} {cs : List Value}, tyR.at cx cs t → St cx w L →
    Rets Tryz.prog Qii [.agg ⟨cs⟩] w fun u w' => ∃ c' ds, u = .agg ⟨ds⟩ ∧ cx.Le c' ∧ tyR.at c' ds t ∧ St c' w' L := by
  intro t
  induction t using Ty.ind with
  | h k r l ih =>
    intro hs cx w L cs ht hS
    obtain ⟨v, rfl, hl⟩ := Qf ht
    simp only [Ty.kind, Ty.r, Ty.l] at hl ht ⊢
    obtain ⟨hlen, hsub⟩ := hs.parts
    all_goals refine QqN ?_
    all_goals (unfold R_OwnType_lc; refine Q0 ?_; refine Q1 ?_; refine zb hS ?_; intro p1 w1 hS; refine Qd hS ?_; intro p2 w1 hS; refine zn ?_; refine Q0 ?_; refine zC [(0, none), (1, none), (2, none), (3, none), (4, none), (5, none), (6, some (some [1, 3])), (7, none), (8, some none)] ?_; have hS := hS.drew; refine s_cq ?_; refine Q2 rfl ?_; refine zt ?_; refine s_cq ?_; refine zl hS ?_; refine zt ?_; refine s_cq ?_; refine Q2 rfl ?_; refine zt ?_; refine s_cq ?_; refine zl hS ?_; refine zt ?_; refine s_cq ?_; refine Q2 rfl ?_; refine zt ?_; refine s_cq ?_; refine zl hS ?_; refine zt ?_; refine QU ?_; refine zR1 (c := rowns_of hlen (fun x hx => ih x hx (hsub x hx)) hl hS) (h := ?_); rintro v1 w1 ⟨c1, hle, hl1, hS⟩; obtain ⟨a1, n1, rfl⟩ := Rep.SR.shape hl1; refine zt ?_; refine zy ?_; refine s_cq ?_; refine zb3 [_, _, _] ?_; refine zt ?_; refine s_cf ?_; refine zsn hS ?_; intro w1 hS; have hS := hS.ns; refine zt ?_; refine zcn ?_; refine zr ?_; refine Q1V vw (Qj (n := 3) (by kernel_rfl) (by kernel_rfl) (hS.blkAt fd) (by rfl) (by rfl)) ?_; exact ⟨_, rfl, c1, _, rfl, hle, Q1N hl1, hS.sp⟩)
theorem Qtf {l : List Ty} (hlen : l.length ≤ 100000) (ih : ∀ x ∈ l, ∀ {cx : Cx} {w : World} {L : List Res} {cs : List Value}, tyR.at cx cs x → St cx w L → Rets Tryz.prog Q66 [.agg ⟨cs⟩] w fun u w' => ∃ c' ds, u = .agg ⟨ds⟩ ∧ cx.Le c' ∧ tyR.at c' ds x ∧ St c' w' L)
    {cx : Cx} {w : World} {L : List Res} {v : Value} (hl : tyR.sl cx v l) (hS : St cx w L) : Rets Tryz.prog Q5j [v] w fun u w' => ∃ c', cx.Le c' ∧ tyR.sl c' u l ∧ St c' w' L := by
  all_goals refine QeX ?_
  all_goals (unfold code_ownTypes_lc; refine Q0 ?_; refine Q1 ?_; refine zm ?_; refine zn ?_; refine Q0 ?_; refine Q1 ?_; refine zm ?_; refine zn ?_; refine Q0 ?_; refine Q0 ?_; refine Q1 ?_; refine zm ?_; refine zL ?_; refine zm ?_; refine zn ?_; refine Qa ?_)
  refine zoL hS [6, 7] (fun A LL ρ' w' => ∃ (c1 : Cx) (j : Nat) (u : Value) (css : List (List Value)), Has ρ' A ∧ Has ρ' [(3, u), (8, .int .i64 j)] ∧ (cx.Le c1) ∧ (j ≤ l.length) ∧ (tyR.ls c1 css (l.take j)) ∧ (oneC u = true) ∧ St c1 w' (sl 112 3 u css :: LL)) (fun ρ' _ => (l.length - iv (ρ' 8)).toNat) ?_ ?_
  · exact ⟨cx, 0, .slice none 0 0, [], zh, zh, St.refl hS, (by omega), Rep.LR.nil _ _ _, rfl, by have hS := hS.nil (T := 112) (es := 3); exact hS⟩
  rintro ρ w1 ⟨c1, j, u, css, hA, hρ, hle, hj, hls, hu, hS⟩; obtain ⟨ρ, rfl⟩ := env2 hA hρ; have hl := Rep.SR.up hl hle
  unfold Q5q
  all_goals (refine Q0 ?_; refine Q1 ?_; refine Qx rfl rfl ?_; refine zn ?_; refine Q0 ?_)
  refine Qo rfl (fun hc => ?_) (fun hc => ?_)
  · skip
    all_goals (refine zsk ?_; refine Q0 ?_; refine Qa ?_; refine Q0 ?_; refine Q1 ?_; refine zi ?_; intro b1 o1 cs1 x1 hat1 hx1 he1; obtain ⟨vl1, rfl, hl1⟩ := Qf he1; (first | (refine zv hS ?_) | (refine zvk hS ?_)); refine Qd hS ?_; intro p5 w1 hS; refine zsn hS ?_; intro w1 hS; have hS := hS.ns; refine zn ?_; refine Q1 ?_; refine zm ?_; refine zv hS ?_; refine zR1 (c := ih _ (List.mem_of_getElem? hx1) he1 hS) (h := ?_); rintro v1 w1 ⟨c2, ds, rfl, hle2, hd, hS⟩; obtain ⟨v2, rfl, hv2⟩ := Qf hd; have hls := Rep.LR.up hls hle2; refine zB1 hS [_, _, _] ?_; intro b1 w1 hS; refine za Q38 Q5x hS ?_; intro vp1 w1 css1 hls1 hv1 hS; have hS := hS.ns; refine zm ?_; refine zn ?_; refine Q1 ?_; refine zad ?_; refine zm ?_; refine zn ?_; exact ⟨⟨c2, j + 1, _, _, zh, zh, hle.trans hle2, (by omega), by rw [Q1E hx1]; assumption, by assumption, hS.sp⟩, Qr (by omega)⟩)
  · skip
    all_goals (refine zex ?_; refine Q0 ?_; refine Q1 ?_; refine zm ?_; refine zm ?_; refine zn ?_; refine zr ?_; refine zf ?_; obtain ⟨c3, hle3, hS, hl3⟩ := St.freezeL (r := tyR) (l := l) (T := 112) (es := 3) (v := u) (css := css) (L := L) hS.sp (by rw [List.take_of_length_le (by omega)] at hls; exact hls) rfl (by omega); exact ⟨_, rfl, c3, hle.trans hle3, hl3, hS⟩)
theorem pown_c : ∀ (t : Ty), t.Short → ∀ {cx : Cx} {w : World} {L : List Res} {cs : List Value}, tyR.at cx cs t → St cx w L →
    Rets Tryz.prog Q66 [.agg ⟨cs⟩] w fun u w' => ∃ c' ds, u = .agg ⟨ds⟩ ∧ cx.Le c' ∧ tyR.at c' ds t ∧ St c' w' L := by
  intro t
  induction t using Ty.ind with
  | h k r l ih =>
    intro hs cx w L cs ht hS
    obtain ⟨v, rfl, hl⟩ := Qf ht
    simp only [Ty.kind, Ty.r, Ty.l] at hl ht ⊢
    obtain ⟨hlen, hsub⟩ := hs.parts
    all_goals refine QhA ?_
    all_goals (unfold code_ownType_lc; refine Q0 ?_; refine Q1 ?_; refine zb hS ?_; intro p1 w1 hS; refine Qd hS ?_; intro p2 w1 hS; refine zn ?_; refine Q0 ?_; refine Q1 ?_; refine Q2 rfl ?_; refine zl hS ?_; refine Q2 rfl ?_; refine zl hS ?_; refine zb2 [_, _, _] ?_; refine Qd hS ?_; intro p3 w1 hS; refine zsn hS ?_; intro w1 hS; have hS := hS.ns; refine zn ?_; refine Q0 ?_; refine Q1 ?_; refine Q2 rfl ?_; refine zl hS ?_; refine zR1 (c := Qtf hlen (fun x hx => ih x hx (hsub x hx)) hl hS) (h := ?_); rintro v1 w1 ⟨c1, hle, hl1, hS⟩; obtain ⟨a1, n1, rfl⟩ := Rep.SR.shape hl1; refine Q2 rfl ?_; refine zst hS ?_; intro w1 hS; have hS := hS.ns; refine zn ?_; refine Q0 ?_; refine Q1 ?_; refine zv hS ?_; refine zsn hS ?_; intro w1 hS; have hS := hS.ns; refine zn ?_; refine zr ?_; refine Q1V vw (Qj (n := 3) (by kernel_rfl) (by kernel_rfl) (hS.blkAt fd) (by rfl) (by rfl)) ?_)
    all_goals (exact ⟨_, rfl, c1, _, rfl, hle, Q1N hl1, hS.sp⟩)
theorem Q5I {l : List Ty} (hlen : l.length ≤ 100000) (hs : ∀ x ∈ l, x.Short) {cx : Cx} {w : World} {L : List Res} {v : Value} (hl : tyR.sl cx v l) (hS : St cx w L) : Rets Tryz.prog Q5j [v] w fun u w' => ∃ c', cx.Le c' ∧ tyR.sl c' u l ∧ St c' w' L :=
  Qtf hlen (fun x hx => pown_c x (hs x hx)) hl hS
end Go.Proofs.YtanlkfeogoganaaGreat
namespace Go.Proofs.YtanlkfeogoganaaGreat
open Go.Lir
set_option maxHeartbeats 1000000
attribute [local irreducible] LC.wp Q5 Q11 Q1c retQ Q2b LO.wp QD Calls
set_option linter.unusedSimpArgs false
set_option linter.unusedVariables false
theorem Qpg {l : List Ty} (ih : ∀ x ∈ l, ∀ (y : Ty) {cx : Cx} {w : World} {L : List Res} {cs ds : List Value}, tyR.at cx cs x → tyR.at cx ds y → St cx w L → Rets Tryz.prog Qco [.agg ⟨cs⟩, .agg ⟨ds⟩] w fun u w' => u = .bool (decide (x = y)) ∧ St cx w' L)
    {m : List Ty} {cx : Cx} {w : World} {L : List Res} {v v2 : Value} (hl : tyR.sl cx v l) (hm : tyR.sl cx v2 m) (hS : St cx w L) : Rets Tryz.prog Q2M [v, v2] w fun u w' => u = .bool (decide (l = m)) ∧ St cx w' L := by
  have hlen := hl.len
  all_goals refine Ql4 ?_
  all_goals (unfold R_SameTypes_lc; refine Q0 ?_; refine Q1 ?_; refine zm ?_; refine zn ?_; refine Q0 ?_; refine Q0 ?_; refine Q1 ?_; refine zm ?_; refine zL ?_; refine zm ?_; refine zL ?_)
  all_goals (first | (refine QZ ?_) | (refine Q10 ?_) | (refine Qp rfl rfl (fun hc => ?_) (fun hc => ?_)))
  all_goals (refine zn ?_)
  all_goals
    first
    | (refine Q3 rfl ?_ -- Q2M c0
       all_goals (refine Q0 ?_; refine Q1 ?_; refine zm ?_; refine zn ?_; refine zr ?_; refine zf ?_)
       all_goals (refine ⟨_, rfl, ?_, hS.sp⟩; rw [decide_eq_false]; exact fun e => absurd (congrArg List.length e) (by omega); done))
    | (refine Q4 rfl ?_ -- Q2M c0
       all_goals refine zsk ?_)
  all_goals (refine Q0 ?_; refine Q0 ?_; refine Q1 ?_; refine zm ?_; refine zn ?_; refine Qa ?_)
  refine zoL hS [0, 1] (fun A LL ρ' w' => ∃ (j : Nat), Has ρ' A ∧ Has ρ' [(5, .int .i64 j)] ∧ (j ≤ l.length) ∧ (l.length = m.length) ∧ (l = m ↔ l.drop j = m.drop j) ∧ St cx w' (LL)) (fun ρ' _ => (l.length - iv (ρ' 5)).toNat) ?_ ?_
  · exact ⟨0, zh, zh, (by omega), (by omega), by simp, hS.sp⟩
  rintro ρ w1 ⟨j, hA, hρ, hj, hlm, hd, hS⟩; obtain ⟨ρ, rfl⟩ := env2 hA hρ
  unfold Q7v
  all_goals (refine Q0 ?_; refine Q0 ?_; refine Q1 ?_; refine zm ?_; refine zm ?_; refine zL ?_; refine Qx rfl rfl ?_; refine zn ?_)
  refine Qo rfl (fun hc => ?_) (fun hc => ?_)
  · skip
    all_goals (refine zsk ?_; refine Q0 ?_; refine Qa ?_; refine Q0 ?_; refine zD [(0, none), (1, none), (2, none), (3, none), (4, none), (5, none), (6, none), (7, none), (8, some none), (9, some none)] ?_; have hS := hS.drew; refine zm ?_; refine zm ?_; refine zi ?_; intro b1 o1 cs1 x1 hat1 hx1 he1; obtain ⟨vl1, rfl, hl1⟩ := Qf he1; (first | (refine zv hS ?_) | (refine zvk hS ?_)); refine zm ?_; refine zm ?_; refine zi ?_; intro b2 o2 cs2 x2 hat2 hx2 he2; obtain ⟨vl2, rfl, hl2⟩ := Qf he2; (first | (refine zv hS ?_) | (refine zvk hS ?_)))
    all_goals (refine zR2 (c := ih _ (List.mem_of_getElem? hx1) _ he1 he2 hS) (h := ?_); rintro v1 w1 ⟨rfl, hS⟩; (cases hdec : decide (x1 = x2)); have hg := of_decide_eq_false hdec; rotate_left; have hg := of_decide_eq_true hdec; all_goals skip)
    all_goals (refine Q1O rfl ?_; refine zn ?_)
    all_goals
      first
      | (refine Q3 rfl ?_ -- Q2M c2
         all_goals (refine Q0 ?_; refine Q1 ?_; refine zm ?_; refine zn ?_; refine zr ?_; refine zf ?_)
         all_goals (first | (refine ⟨_, rfl, ?_, hS.sp⟩; rw [decide_eq_false]; exact fun e => absurd (congrArg List.length e) (by omega); done) | (refine ⟨_, rfl, ?_, hS.sp⟩; rw [decide_eq_false]; rw [hd, Q7 hx1, Q7 hx2]; simp [hg]; done)))
      | (refine Q4 rfl ?_ -- Q2M c2
         all_goals refine zsk ?_)
    all_goals (refine Q1 ?_; refine zm ?_; refine zad ?_; refine zm ?_; refine zn ?_; exact ⟨⟨j + 1, zh, zh, (by omega), (by omega), by rw [hd, Q7 hx1, Q7 hx2, hg]; simp, hS.sp⟩, Qr (by omega)⟩)
  · skip
    all_goals (refine zex ?_; refine Q0 ?_; refine Q1 ?_; refine zm ?_; refine zn ?_; refine zr ?_; refine zf ?_; (first | (refine ⟨_, rfl, ?_, hS.sp⟩; rw [decide_eq_false]; exact fun e => absurd (congrArg List.length e) (by omega); done) | (refine ⟨_, rfl, ?_, hS.sp⟩; rw [decide_eq_false]; rw [hd, Q7 hx1, Q7 hx2]; simp [hg]; done) | (refine ⟨_, rfl, ?_, hS.sp⟩; rw [decide_eq_true]; rw [hd, List.drop_of_length_le (by omega), List.drop_of_length_le (by omega)]; done)))
theorem QrD : ∀ (t u : Ty) {cx : Cx} {w : World} {L : List Res} {cs ds : List Value}, tyR.at cx cs t → tyR.at cx ds u → St cx w L →
    Rets Tryz.prog Qco [.agg ⟨cs⟩, .agg ⟨ds⟩] w fun v w' => v = .bool (decide (t = u)) ∧ St cx w' L := by
  intro t
  induction t using Ty.ind with
  | h k r l ih =>
    rintro ⟨k2, r2, m⟩ cx w L cs ds ht hu hS
    obtain ⟨v, rfl, hl⟩ := Qf ht
    obtain ⟨v2, rfl, hm⟩ := Qf hu
    simp only [Ty.kind, Ty.r, Ty.l, Ty.mk.injEq] at hl hm ht hu ⊢
    all_goals refine QnW ?_
    all_goals (unfold R_SameType_lc; refine Q0 ?_; refine Q1 ?_; refine zb hS ?_; intro p2 w1 hS; refine zb hS ?_; intro p3 w1 hS; refine zm ?_; refine zn ?_; refine Q0 ?_; refine Q1 ?_; refine Q2 rfl ?_; refine zl hS ?_; refine Q2 rfl ?_; refine zl hS ?_)
    all_goals (first | (refine Qv ?_) | (refine QB ?_) | (refine Qn rfl rfl (fun hc => ?_) (fun hc => ?_)))
    all_goals (refine zm ?_; (first | refine s_gn rfl rfl ?_ | (refine s_gy rfl ?_; refine Q2 rfl ?_)); (first | refine s_gn rfl rfl ?_ | (refine s_gy rfl ?_; refine zl hS ?_)); (first | refine s_gn rfl rfl ?_ | (refine s_gy rfl ?_; refine Q2 rfl ?_)); (first | refine s_gn rfl rfl ?_ | (refine s_gy rfl ?_; refine zl hS ?_)))
    all_goals (first | refine s_gn rfl rfl ?_ | (refine s_gy rfl ?_; (first | (refine Qv ?_) | (refine QB ?_) | (refine Qn rfl rfl (fun hc => ?_) (fun hc => ?_)))))
    all_goals ((first | (refine zpt ?_) | (refine zpf ?_)); refine zm ?_; (first | refine s_gn rfl rfl ?_ | (refine s_gy rfl ?_; refine Q2 rfl ?_)); (first | refine s_gn rfl rfl ?_ | (refine s_gy rfl ?_; refine zl hS ?_)); (first | refine s_gn rfl rfl ?_ | (refine s_gy rfl ?_; refine Q2 rfl ?_)); (first | refine s_gn rfl rfl ?_ | (refine s_gy rfl ?_; refine zl hS ?_)); (first | refine s_gn rfl rfl ?_ | (refine s_gy rfl ?_; refine zR2 (c := Qpg ih hl hm hS) (h := ?_); rintro v1 w1 ⟨rfl, hS⟩)); (first | (refine zpt ?_) | (refine zpf ?_)); refine zm ?_; refine zn ?_; refine zr ?_; refine zf ?_; refine ⟨_, rfl, ?_, hS.sp⟩; (simp [*]); done)
theorem QmP {l m : List Ty} {cx : Cx} {w : World} {L : List Res} {v v2 : Value} (hl : tyR.sl cx v l) (hm : tyR.sl cx v2 m) (hS : St cx w L) : Rets Tryz.prog Q2M [v, v2] w fun u w' => u = .bool (decide (l = m)) ∧ St cx w' L :=
  Qpg (fun x _ => QrD x) hl hm hS
/-- slices.EqualFunc, by a function that tells whether two are the same. -/
theorem eqfT_c {l : List Ty} {f : FuncId} (hf : Q4H Tryz.prog f = true) {m : List Ty} {cx : Cx} {w : World} {L : List Res} {v v2 : Value}
    (hcall : ∀ x ∈ l, ∀ y ∈ m, ∀ {w : World} {L : List Res} {cs ds : List Value}, tyR.at cx cs x → tyR.at cx ds y → St cx w L → Rets Tryz.prog f [.agg ⟨cs⟩, .agg ⟨ds⟩] w fun u w' => u = .bool (decide (x = y)) ∧ St cx w' L)
    (hl : tyR.sl cx v l) (hm : tyR.sl cx v2 m) (hS : St cx w L) : Rets Tryz.prog Qk [v, v2, .func (.func f) #[] #[]] w fun u w' => u = .bool (decide (l = m)) ∧ St cx w' L := by
  have hlen := hl.len
  all_goals refine Q1z ?_
  all_goals (unfold slices_EqualFunc_api_Type_api_Type_api_Type_api_Type_lc; refine Q0 ?_; refine Q1 ?_; refine zm ?_; refine zn ?_; refine Q0 ?_; refine Q0 ?_; refine Q1 ?_; refine zm ?_; refine zL ?_; refine zm ?_; refine zL ?_)
  all_goals (first | (refine QZ ?_) | (refine Q10 ?_) | (refine Qp rfl rfl (fun hc => ?_) (fun hc => ?_)))
  all_goals (refine zn ?_)
  all_goals
    first
    | (refine Q3 rfl ?_ -- Qk c0
       all_goals (refine Q0 ?_; refine Q1 ?_; refine zm ?_; refine zn ?_; refine zr ?_; refine zf ?_)
       all_goals (refine ⟨_, rfl, ?_, hS.sp⟩; rw [decide_eq_false]; exact fun e => absurd (congrArg List.length e) (by omega); done))
    | (refine Q4 rfl ?_ -- Qk c0
       all_goals refine zsk ?_)
  all_goals (refine Q0 ?_; refine Q0 ?_; refine Q1 ?_; refine zm ?_; refine zL ?_; refine zm ?_; refine zn ?_; refine Qa ?_)
  refine zoL hS [1, 2, 15, 16] (fun A LL ρ' w' => ∃ (j : Nat), Has ρ' A ∧ Has ρ' [(17, .int .i64 j)] ∧ (j ≤ l.length) ∧ (l.length = m.length) ∧ (l = m ↔ l.drop j = m.drop j) ∧ St cx w' (LL)) (fun ρ' _ => (l.length - iv (ρ' 17)).toNat) ?_ ?_
  · exact ⟨0, zh, zh, (by omega), (by omega), by simp, hS.sp⟩
  rintro ρ w1 ⟨j, hA, hρ, hj, hlm, hd, hS⟩; obtain ⟨ρ, rfl⟩ := env2 hA hρ
  unfold QP
  all_goals (refine Q0 ?_; refine Q1 ?_; refine Qx rfl rfl ?_; refine zn ?_; refine Q0 ?_)
  refine Qo rfl (fun hc => ?_) (fun hc => ?_)
  · skip
    all_goals (refine zsk ?_; refine Q0 ?_; refine Qa ?_; refine Q0 ?_; refine Q1 ?_; refine zm ?_; refine zi ?_; intro b1 o1 cs1 x1 hat1 hx1 he1; obtain ⟨vl1, rfl, hl1⟩ := Qf he1; (first | (refine zv hS ?_) | (refine zvk hS ?_)); refine Qd hS ?_; intro p8 w1 hS; refine zm ?_; refine zsn hS ?_; intro w1 hS; have hS := hS.ns; refine zn ?_; refine Q0 ?_; refine Q1 ?_; refine zm ?_; refine zm ?_; refine zi ?_; intro b2 o2 cs2 x2 hat2 hx2 he2; obtain ⟨vl2, rfl, hl2⟩ := Qf he2; (first | (refine zv hS ?_) | (refine zvk hS ?_)); refine Qd hS ?_; intro p9 w1 hS; refine zsn hS ?_; intro w1 hS; have hS := hS.ns; refine zn ?_; refine Q0 ?_; refine Q1 ?_; refine zm ?_; refine zv hS ?_; refine zv hS ?_)
    all_goals (refine Quq rfl hf (by rfl) (hcall _ (List.mem_of_getElem? hx1) _ (List.mem_of_getElem? hx2) he1 he2 hS) ?_; rintro v1 w1 ⟨rfl, hS⟩; (cases hdec : decide (x1 = x2)); have hg := of_decide_eq_false hdec; rotate_left; have hg := of_decide_eq_true hdec; all_goals skip)
    all_goals (refine Q1O rfl ?_; refine zn ?_)
    all_goals
      first
      | (refine Q3 rfl ?_ -- Qk c2
         all_goals (refine Q0 ?_; refine Q1 ?_; refine zm ?_; refine zn ?_; refine zr ?_; refine zf ?_)
         all_goals (first | (refine ⟨_, rfl, ?_, hS.sp⟩; rw [decide_eq_false]; exact fun e => absurd (congrArg List.length e) (by omega); done) | (refine ⟨_, rfl, ?_, hS.sp⟩; rw [decide_eq_false]; rw [hd, Q7 hx1, Q7 hx2]; simp [hg]; done)))
      | (refine Q4 rfl ?_ -- Qk c2
         all_goals refine zsk ?_)
    all_goals (refine Q1 ?_; refine zad ?_; refine zm ?_; refine zn ?_; exact ⟨⟨j + 1, zh, zh, (by omega), (by omega), by rw [hd, Q7 hx1, Q7 hx2, hg]; simp, hS.sp⟩, Qr (by omega)⟩)
  · skip
    all_goals (refine zex ?_; refine Q0 ?_; refine Q1 ?_; refine zm ?_; refine zn ?_; refine zr ?_; refine zf ?_; (first | (refine ⟨_, rfl, ?_, hS.sp⟩; rw [decide_eq_false]; exact fun e => absurd (congrArg List.length e) (by omega); done) | (refine ⟨_, rfl, ?_, hS.sp⟩; rw [decide_eq_false]; rw [hd, Q7 hx1, Q7 hx2]; simp [hg]; done) | (refine ⟨_, rfl, ?_, hS.sp⟩; rw [decide_eq_true]; rw [hd, List.drop_of_length_le (by omega), List.drop_of_length_le (by omega)]; done)))
theorem Qh0 : ∀ (t u : Ty) {cx : Cx} {w : World} {L : List Res} {cs ds : List Value}, tyR.at cx cs t → tyR.at cx ds u → St cx w L →
    Rets Tryz.prog Qmb [.agg ⟨cs⟩, .agg ⟨ds⟩] w fun v w' => v = .bool (decide (t = u)) ∧ St cx w' L := by
  intro t
  induction t using Ty.ind with
  | h k r l ih =>
    rintro ⟨k2, r2, m⟩ cx w L cs ds ht hu hS
    obtain ⟨v, rfl, hl⟩ := Qf ht
    obtain ⟨v2, rfl, hm⟩ := Qf hu
    simp only [Ty.kind, Ty.r, Ty.l, Ty.mk.injEq] at hl hm ht hu ⊢
    all_goals refine QmK ?_
    all_goals (unfold types_Same_lc; refine Q0 ?_; refine Q1 ?_; refine zb hS ?_; intro p2 w1 hS; refine zb hS ?_; intro p3 w1 hS; refine zm ?_; refine zn ?_; refine Q0 ?_; refine Q1 ?_; refine Q2 rfl ?_; refine zl hS ?_; refine Q2 rfl ?_; refine zl hS ?_)
    all_goals (first | (refine Qv ?_) | (refine QB ?_) | (refine Qn rfl rfl (fun hc => ?_) (fun hc => ?_)))
    all_goals (refine zm ?_; (first | refine s_gn rfl rfl ?_ | (refine s_gy rfl ?_; refine Q2 rfl ?_)); (first | refine s_gn rfl rfl ?_ | (refine s_gy rfl ?_; refine zl hS ?_)); (first | refine s_gn rfl rfl ?_ | (refine s_gy rfl ?_; refine Q2 rfl ?_)); (first | refine s_gn rfl rfl ?_ | (refine s_gy rfl ?_; refine zl hS ?_)))
    all_goals (first | refine s_gn rfl rfl ?_ | (refine s_gy rfl ?_; (first | (refine Qv ?_) | (refine QB ?_) | (refine Qn rfl rfl (fun hc => ?_) (fun hc => ?_)))))
    all_goals ((first | (refine zpt ?_) | (refine zpf ?_)); refine zm ?_; (first | refine s_gn rfl rfl ?_ | (refine s_gy rfl ?_; refine Q2 rfl ?_)); (first | refine s_gn rfl rfl ?_ | (refine s_gy rfl ?_; refine zl hS ?_)); (first | refine s_gn rfl rfl ?_ | (refine s_gy rfl ?_; refine Q2 rfl ?_)); (first | refine s_gn rfl rfl ?_ | (refine s_gy rfl ?_; refine zl hS ?_)); (first | refine s_gn rfl rfl ?_ | (refine s_gy rfl ?_; refine zR3 (c := eqfT_c (by kernel_rfl) (fun x hx y _ {_ _ _ _} h1 h2 h3 => ih x hx y h1 h2 h3) hl hm hS) (h := ?_); rintro v1 w1 ⟨rfl, hS⟩)); (first | (refine zpt ?_) | (refine zpf ?_)); refine zm ?_; refine zn ?_; refine zr ?_; refine zf ?_; refine ⟨_, rfl, ?_, hS.sp⟩; (simp [*]); done)
end Go.Proofs.YtanlkfeogoganaaGreat
namespace Go.Proofs.YtanlkfeogoganaaGreat
open Go.Lir
set_option maxHeartbeats 1000000
attribute [local irreducible] LC.wp Q5 Q11 Q1c retQ Q2b LO.wp QD Calls
set_option linter.unusedSimpArgs false
set_option linter.unusedVariables false
theorem QgY {k r : Int} {l : List Ty} {to : List Int} (h : k ≠ 1 ∧ (r < 0 ∨ (to.length : Int) ≤ r)) : Ty.ren (.mk k r l) to = none := by
  rw [Ty.ren, if_pos (by omega)]
theorem QaT {k r x : Int} {l : List Ty} {to : List Int} (hk : k ≠ 1) (hx : to[r.toNat]? = some x) (h : x < 0) : Ty.ren (.mk k r l) to = none := by
  rw [Ty.ren, if_pos ⟨hk, .inr (.inr (by rw [List.getD_eq_getElem?_getD, hx]; exact h))⟩]
theorem QuR {k r : Int} {l : List Ty} {to : List Int} (h : k = 1) : Ty.ren (.mk k r l) to = (Tys.ren l to).map (Ty.mk k r) := by
  subst h
  rw [Ty.ren, if_neg (by omega)]
  cases Tys.ren l to <;> rfl
theorem ren_to {k r x : Int} {l : List Ty} {to : List Int} (hk : k ≠ 1) (h0 : 0 ≤ r) (h1 : r < to.length) (hx : to[r.toNat]? = some x) (h : 0 ≤ x) : Ty.ren (.mk k r l) to = (Tys.ren l to).map (Ty.mk k x) := by
  have hd : to.getD r.toNat 0 = x := by rw [List.getD_eq_getElem?_getD, hx]; rfl
  rw [Ty.ren, if_neg (by omega), hd]
  cases Tys.ren l to with
  | none => rfl
  | some m => simp [hk]
theorem Q9e {l us : List Ty} {to : List Int} {j : Nat} {x : Ty} (hd : Tys.ren l to = (Tys.ren (l.drop j) to).map (us ++ ·)) (hx : l[j]? = some x) (hn : x.ren to = none) : Tys.ren l to = none := by
  rw [hd, Q7 hx, Tys.ren, hn]; rfl
theorem Qpi {l us : List Ty} {to : List Int} {j : Nat} {x y : Ty} (hd : Tys.ren l to = (Tys.ren (l.drop j) to).map (us ++ ·)) (hx : l[j]? = some x) (hn : x.ren to = some y) : Tys.ren l to = (Tys.ren (l.drop (j + 1)) to).map ((us ++ [y]) ++ ·) := by
  rw [hd, Q7 hx, Tys.ren, hn]
  cases Tys.ren (l.drop (j + 1)) to <;> simp
theorem Qtc {l us : List Ty} {to : List Int} {j : Nat} (hd : Tys.ren l to = (Tys.ren (l.drop j) to).map (us ++ ·)) (hj : l.length ≤ j) : Tys.ren l to = some us := by
  rw [hd, List.drop_of_length_le hj, Tys.ren]; simp
theorem pren_c : ∀ (t : Ty), t.Short → ∀ {cx : Cx} {w : World} {L : List Res} {cs : List Value} {v2 : Value} {to : List Int}, tyR.at cx cs t → intR.sl cx v2 to → St cx w L →
    Rets Tryz.prog Q21 [.agg ⟨cs⟩, v2] w fun u w' => ∃ c' ds, u = .tuple #[.agg ⟨ds⟩, .bool (t.ren to).isSome] ∧ cx.Le c' ∧ tyR.at c' ds ((t.ren to).getD (.mk 0 0 [])) ∧ St c' w' L := by
  intro t
  induction t using Ty.ind with
  | h k r l ih =>
    intro hs cx w L cs v2 to ht hto hS
    obtain ⟨v, rfl, hl⟩ := Qf ht
    simp only [Ty.kind, Ty.r, Ty.l] at hl ht ⊢
    obtain ⟨hlen, hsub⟩ := hs.parts
    have hle := St.refl hS
    all_goals refine QgM ?_
    all_goals (unfold types_Rename_lc; refine Q0 ?_; refine Q1 ?_; refine zb hS ?_; intro p2 w1 hS; refine Qd hS ?_; intro p4 w1 hS; refine zm ?_; refine zn ?_; refine Q0 ?_; refine Q1 ?_; refine Q2 rfl ?_; refine zl hS ?_; refine Q2 rfl ?_; refine zl hS ?_; refine zb2 [_, _, _] ?_; refine Qd hS ?_; intro p6 w1 hS; refine zsn hS ?_; intro w1 hS; have hS := hS.ns; refine zn ?_)
    refine zM [1, 2, 4, 6] (fun A ρ' w' => ∃ (r2 : Int), Has ρ' A ∧ Has ρ' [] ∧ (Ty.ren (.mk k r l) to = (Tys.ren l to).map (Ty.mk k r2)) ∧ St cx w' (blk p6 112 [.int .i64 k, .int .i64 r2, .slice none 0 0] :: blk p4 112 [.int .i64 0, .int .i64 0, .slice none 0 0] :: blk p2 112 [.int .i64 k, .int .i64 r, v] :: L)) ?_ ?_
    · skip
      all_goals (refine Q0 ?_; refine Q1 ?_; refine Q2 rfl ?_; refine zl hS ?_)
      all_goals (first | (refine QZ ?_) | (refine Q10 ?_) | (refine Qp rfl rfl (fun hc => ?_) (fun hc => ?_)))
      all_goals (refine zn ?_)
      all_goals
        first
        | (refine Q3 rfl ?_ -- Q21 c0
           all_goals (refine Q0 ?_; refine Q0 ?_; refine Q1 ?_; refine Q2 rfl ?_; refine zl hS ?_)
           all_goals (first | (refine Q1L ?_) | (refine Q1M ?_) | (refine QE rfl rfl (fun hc => ?_) (fun hc => ?_)))
           all_goals (refine zm ?_; (first | refine s_gn rfl rfl ?_ | (refine s_gy rfl ?_; refine Q2 rfl ?_)); (first | refine s_gn rfl rfl ?_ | (refine s_gy rfl ?_; refine zl hS ?_)); (first | refine s_gn rfl rfl ?_ | (refine s_gy rfl ?_; refine zm ?_)); (first | refine s_gn rfl rfl ?_ | (refine s_gy rfl ?_; refine zL ?_)))
           all_goals (first | refine s_gn rfl rfl ?_ | (refine s_gy rfl ?_; (first | (refine Q3f ?_) | (refine Q3g ?_) | (refine Q1A rfl rfl (fun hc => ?_) (fun hc => ?_)))))
           all_goals ((first | (refine zpt ?_) | (refine zpf ?_)); refine zm ?_; (first | refine s_gn rfl rfl ?_ | (refine s_gy rfl ?_; refine zm ?_)); (first | refine s_gn rfl rfl ?_ | (refine s_gy rfl ?_; refine Q2 rfl ?_)); (first | refine s_gn rfl rfl ?_ | (refine s_gy rfl ?_; refine zl hS ?_)); (first | refine s_gn rfl rfl ?_ | (refine s_gy rfl ?_; ((first | refine zi ?_ | refine zj ?_); intro b1 o1 cs1 x1 hat1 hx1 he1; obtain rfl := QJ he1))); (first | refine s_gn rfl rfl ?_ | (refine s_gy rfl ?_; (first | (refine zl hS ?_) | (refine zlk hS ?_)))))
           all_goals (first | refine s_gn rfl rfl ?_ | (refine s_gy rfl ?_; (first | (refine Q1L ?_) | (refine Q1M ?_) | (refine QE rfl rfl (fun hc => ?_) (fun hc => ?_)))))
           all_goals ((first | (refine zpt ?_) | (refine zpf ?_)); refine zn ?_)
           all_goals
             first
             | (refine Q3 rfl ?_ -- Q21 c1
                all_goals (refine Q0 ?_; refine Q1 ?_; refine zb0 [_, _, _] ?_; refine zsn hS ?_; intro w1 hS; have hS := hS.ns; refine zm ?_; refine zn ?_; refine zr ?_; refine Q1f vw (Qj (n := 3) (by kernel_rfl) (by kernel_rfl) (hS.blkAt fd) (by rfl) (by rfl)) vw ?_)
                all_goals (first | (rw [QgY (by omega)]; exact ⟨_, rfl, _, _, rfl, hle, Q1N (Rep.SR.nil _ _ _), hS.sp⟩) | (rw [QaT (by omega) hx1 (by omega)]; exact ⟨_, rfl, _, _, rfl, hle, Q1N (Rep.SR.nil _ _ _), hS.sp⟩)))
             | (refine Q4 rfl ?_ -- Q21 c1
                all_goals refine zsk ?_)
           all_goals (refine Q1 ?_; refine zm ?_; refine Q2 rfl ?_; refine zl hS ?_; (first | refine zi ?_ | refine zj ?_); intro b2 o2 cs2 x2 hat2 hx2 he2; obtain rfl := QJ he2; (first | (refine zl hS ?_) | (refine zlk hS ?_)); refine Q2 rfl ?_; refine zst hS ?_; intro w1 hS; have hS := hS.ns)
           all_goals refine zn ?_)
        | (refine Q4 rfl ?_ -- Q21 c0
           all_goals refine zsk ?_)
      all_goals ((first | (exact ⟨_, zh, zh, ren_to (by omega) (by omega) (by omega) hx2 (by have h9 := Option.some.inj (hx1.symm.trans hx2); omega), hS.sp⟩) | (exact ⟨_, zh, zh, QuR (by omega), hS.sp⟩)))
    rintro ρ w1 ⟨r2, hA, hρ, hr, hS⟩; obtain ⟨ρ, rfl⟩ := env2 hA hρ
    all_goals (refine Q0 ?_; refine Q0 ?_; refine Q1 ?_; refine Q2 rfl ?_; refine zl hS ?_; refine zL ?_; refine zm ?_; refine zn ?_; refine Qa ?_)
    refine zo [1, 4, 6, 45, 46] (fun A ρ' w' => ∃ (k0 : Cx) (j : Nat) (u : Value) (css : List (List Value)) (us : List Ty), Has ρ' A ∧ Has ρ' [(47, .int .i64 j)] ∧ (cx.Le k0) ∧ (j ≤ l.length) ∧ (us.length = j) ∧ (Tys.ren l to = (Tys.ren (l.drop j) to).map (us ++ ·)) ∧ (tyR.ls k0 css us) ∧ (oneC u = true) ∧ St k0 w' (sl 112 3 u css :: blk p6 112 [.int .i64 k, .int .i64 r2, u] :: blk p4 112 [.int .i64 0, .int .i64 0, .slice none 0 0] :: blk p2 112 [.int .i64 k, .int .i64 r, v] :: L)) (fun ρ' _ => (l.length - iv (ρ' 47)).toNat) ?_ ?_
    · exact ⟨cx, 0, .slice none 0 0, [], [], zh, zh, St.refl hS, (by omega), rfl, by simp, Rep.LR.nil _ _ _, rfl, by have hS := hS.nil (T := 112) (es := 3); exact hS.sp⟩
    rintro ρ w1 ⟨k0, j, u, css, us, hA, hρ, hle2, hj, hus, hd, hls, hu, hS⟩; obtain ⟨ρ, rfl⟩ := env2 hA hρ; have hL0 := hle2; (try have hle := hle.trans hle2); (try have hl := hl.up hle2); (try have hto := hto.up hle2)
    unfold Q5B
    all_goals (refine Q0 ?_; refine Q1 ?_; refine Qx rfl rfl ?_; refine zn ?_; refine Q0 ?_)
    refine Qo rfl (fun hc => ?_) (fun hc => ?_)
    · skip
      all_goals (refine zsk ?_; refine Q0 ?_; refine Qa ?_; refine Q0 ?_; refine Q1 ?_; refine zi ?_; intro b3 o3 cs3 x3 hat3 hx3 he3; obtain ⟨vl3, rfl, hl3⟩ := Qf he3; (first | (refine zv hS ?_) | (refine zvk hS ?_)); refine Qd hS ?_; intro p8 w1 hS; refine zsn hS ?_; intro w1 hS; have hS := hS.ns; refine zn ?_; refine Q0 ?_; refine Q1 ?_; refine zv hS ?_; refine zm ?_)
      all_goals (refine zR2 (c := ih _ (List.mem_of_getElem? hx3) (hsub _ (List.mem_of_getElem? hx3)) he3 hto hS) (h := ?_); rintro v1 w1 ⟨c1, ds, rfl, hle2, hd1, hS⟩; obtain ⟨y, hy⟩ : ∃ y, (x3.ren to).getD (.mk 0 0 []) = y := ⟨_, rfl⟩; rw [hy] at hd1; obtain ⟨v7, rfl, hv7⟩ := Qf hd1; (try have hle := hle.trans hle2); (try have hL0 := hL0.trans hle2); (try have hl := hl.up hle2); (try have hl3 := hl3.up hle2); (try have he3 := he3.up hle2); (try have hls := hls.up hle2); (try have hto := hto.up hle2); cases hg : x3.ren to)
      all_goals (refine zm ?_; refine Q3z rfl rfl ?_; refine Q3z rfl rfl ?_; refine Qd hS ?_; intro p9 w1 hS; refine zsn hS ?_; intro w1 hS; have hS := hS.ns; refine zm ?_; refine zn ?_; refine Q0 ?_; refine Q0 ?_; refine Q1 ?_; refine zm ?_; refine Q1O rfl ?_; refine zn ?_)
      all_goals
        first
        | (refine Q3 rfl ?_ -- Q21 c3
           all_goals (refine Q0 ?_; refine Q1 ?_; refine zb0 [_, _, _] ?_; refine zsn hS ?_; intro w1 hS; have hS := hS.ns; refine zm ?_; refine zn ?_; refine zr ?_; refine Q1f vw (Qj (n := 3) (by kernel_rfl) (by kernel_rfl) (hS.blkAt fd) (by rfl) (by rfl)) vw ?_)
           all_goals (first | (rw [QgY (by omega)]; exact ⟨_, rfl, _, _, rfl, hle, Q1N (Rep.SR.nil _ _ _), hS.sp⟩) | (rw [QaT (by omega) hx1 (by omega)]; exact ⟨_, rfl, _, _, rfl, hle, Q1N (Rep.SR.nil _ _ _), hS.sp⟩) | (rw [hr, Q9e hd hx3 hg]; exact ⟨_, rfl, _, _, rfl, hle, Q1N (Rep.SR.nil _ _ _), hS.sp⟩)))
        | (refine Q4 rfl ?_ -- Q21 c3
           all_goals refine zsk ?_)
      all_goals (refine Q1 ?_; refine Q2 rfl ?_; refine zl hS ?_; refine zv hS ?_; refine zB1 hS [_, _, _] ?_; intro b1 w1 hS; refine za Q38 Q5x hS ?_; intro vp1 w1 css1 hls1 hv1 hS; have hS := hS.ns; refine Q2 rfl ?_; refine zst hS ?_; intro w1 hS; have hS := hS.ns; refine zn ?_; refine Q1 ?_; refine zad ?_; refine zm ?_; refine zn ?_; exact ⟨⟨_, j + 1, _, _, us ++ [y], zh, zh, hL0, (by omega), by simp [hus], Qpi hd hx3 (by rw [hg, ← hy, hg]; rfl), by assumption, by assumption, hS.sp⟩, Qr (by omega)⟩)
    · skip
      all_goals (refine zex ?_; refine Q0 ?_; refine Q1 ?_; refine zv hS ?_; refine zsn hS ?_; intro w1 hS; have hS := hS.ns; refine zm ?_; refine zn ?_; refine zr ?_; refine Q1f vw (Qj (n := 3) (by kernel_rfl) (by kernel_rfl) (hS.blkAt fd) (by rfl) (by rfl)) vw ?_; (first | (rw [QgY (by omega)]; exact ⟨_, rfl, _, _, rfl, hle, Q1N (Rep.SR.nil _ _ _), hS.sp⟩) | (rw [QaT (by omega) hx1 (by omega)]; exact ⟨_, rfl, _, _, rfl, hle, Q1N (Rep.SR.nil _ _ _), hS.sp⟩) | (rw [hr, Q9e hd hx3 hg]; exact ⟨_, rfl, _, _, rfl, hle, Q1N (Rep.SR.nil _ _ _), hS.sp⟩) | (rw [hr, Qtc hd (by omega)]; obtain ⟨c3, hle3, hS, hl3⟩ := St.freezeL (r := tyR) (l := us) (T := 112) (es := 3) (v := u) (css := css) (L := L) hS.sp hls rfl (by omega); exact ⟨_, rfl, c3, _, rfl, hle.trans hle3, Q1N hl3, hS⟩)))
theorem QuG : ∀ (t : Ty), t.Short → ∀ {cx : Cx} {w : World} {L : List Res} {cs : List Value} {v2 : Value} {to : List Int}, tyR.at cx cs t → intR.sl cx v2 to → St cx w L →
    Rets Tryz.prog Q2D [.agg ⟨cs⟩, v2] w fun u w' => ∃ c' ds, u = .tuple #[.agg ⟨ds⟩, .bool (t.ren to).isSome] ∧ cx.Le c' ∧ tyR.at c' ds ((t.ren to).getD (.mk 0 0 [])) ∧ St c' w' L := by
  intro t
  induction t using Ty.ind with
  | h k r l ih =>
    intro hs cx w L cs v2 to ht hto hS
    obtain ⟨v, rfl, hl⟩ := Qf ht
    simp only [Ty.kind, Ty.r, Ty.l] at hl ht ⊢
    obtain ⟨hlen, hsub⟩ := hs.parts
    have hle := St.refl hS
    all_goals refine QqK ?_
    all_goals (unfold R_Renamed_lc; refine Q0 ?_; refine Q1 ?_; refine zb hS ?_; intro p2 w1 hS; refine Qd hS ?_; intro p4 w1 hS; refine zm ?_; refine zn ?_; refine Q0 ?_; refine Q1 ?_; refine Q2 rfl ?_; refine zl hS ?_; refine Q2 rfl ?_; refine zl hS ?_; refine zb2 [_, _, _] ?_; refine Qd hS ?_; intro p6 w1 hS; refine zsn hS ?_; intro w1 hS; have hS := hS.ns; refine zn ?_)
    refine zM [1, 2, 4, 6] (fun A ρ' w' => ∃ (r2 : Int), Has ρ' A ∧ Has ρ' [] ∧ (Ty.ren (.mk k r l) to = (Tys.ren l to).map (Ty.mk k r2)) ∧ St cx w' (blk p6 112 [.int .i64 k, .int .i64 r2, .slice none 0 0] :: blk p4 112 [.int .i64 0, .int .i64 0, .slice none 0 0] :: blk p2 112 [.int .i64 k, .int .i64 r, v] :: L)) ?_ ?_
    · skip
      all_goals (refine Q0 ?_; refine Q1 ?_; refine Q2 rfl ?_; refine zl hS ?_)
      all_goals (first | (refine QZ ?_) | (refine Q10 ?_) | (refine Qp rfl rfl (fun hc => ?_) (fun hc => ?_)))
      all_goals (refine zn ?_)
      all_goals
        first
        | (refine Q3 rfl ?_ -- Q2D c0
           all_goals (refine Q0 ?_; refine Q0 ?_; refine Q1 ?_; refine Q2 rfl ?_; refine zl hS ?_)
           all_goals (first | (refine Q1L ?_) | (refine Q1M ?_) | (refine QE rfl rfl (fun hc => ?_) (fun hc => ?_)))
           all_goals (refine zm ?_; (first | refine s_gn rfl rfl ?_ | (refine s_gy rfl ?_; refine Q2 rfl ?_)); (first | refine s_gn rfl rfl ?_ | (refine s_gy rfl ?_; refine zl hS ?_)); (first | refine s_gn rfl rfl ?_ | (refine s_gy rfl ?_; refine zm ?_)); (first | refine s_gn rfl rfl ?_ | (refine s_gy rfl ?_; refine zL ?_)))
           all_goals (first | refine s_gn rfl rfl ?_ | (refine s_gy rfl ?_; (first | (refine Q3f ?_) | (refine Q3g ?_) | (refine Q1A rfl rfl (fun hc => ?_) (fun hc => ?_)))))
           all_goals ((first | (refine zpt ?_) | (refine zpf ?_)); refine zn ?_)
           all_goals
             first
             | (refine Q3 rfl ?_ -- Q2D c1
                all_goals (refine Q0 ?_; refine Q1 ?_; refine zb0 [_, _, _] ?_; refine zsn hS ?_; intro w1 hS; have hS := hS.ns; refine zm ?_; refine zn ?_; refine zr ?_; refine Q1f vw (Qj (n := 3) (by kernel_rfl) (by kernel_rfl) (hS.blkAt fd) (by rfl) (by rfl)) vw ?_)
                all_goals (rw [QgY (by omega)]; exact ⟨_, rfl, _, _, rfl, hle, Q1N (Rep.SR.nil _ _ _), hS.sp⟩))
             | (refine Q4 rfl ?_ -- Q2D c1
                all_goals refine zsk ?_)
           all_goals (refine Q0 ?_; refine Q0 ?_; refine Q1 ?_; refine zm ?_; refine Q2 rfl ?_; refine zl hS ?_; (first | refine zi ?_ | refine zj ?_); intro b1 o1 cs1 x1 hat1 hx1 he1; obtain rfl := QJ he1; (first | (refine zl hS ?_) | (refine zlk hS ?_)))
           all_goals (first | (refine Q1L ?_) | (refine Q1M ?_) | (refine QE rfl rfl (fun hc => ?_) (fun hc => ?_)))
           all_goals (refine zn ?_)
           all_goals
             first
             | (refine Q3 rfl ?_ -- Q2D c2
                all_goals (refine Q0 ?_; refine Q1 ?_; refine zb0 [_, _, _] ?_; refine zsn hS ?_; intro w1 hS; have hS := hS.ns; refine zm ?_; refine zn ?_; refine zr ?_; refine Q1f vw (Qj (n := 3) (by kernel_rfl) (by kernel_rfl) (hS.blkAt fd) (by rfl) (by rfl)) vw ?_)
                all_goals (first | (rw [QgY (by omega)]; exact ⟨_, rfl, _, _, rfl, hle, Q1N (Rep.SR.nil _ _ _), hS.sp⟩) | (rw [QaT (by omega) hx1 (by omega)]; exact ⟨_, rfl, _, _, rfl, hle, Q1N (Rep.SR.nil _ _ _), hS.sp⟩)))
             | (refine Q4 rfl ?_ -- Q2D c2
                all_goals refine zsk ?_)
           all_goals (refine Q1 ?_; refine zm ?_; refine Q2 rfl ?_; refine zl hS ?_; (first | refine zi ?_ | refine zj ?_); intro b2 o2 cs2 x2 hat2 hx2 he2; obtain rfl := QJ he2; (first | (refine zl hS ?_) | (refine zlk hS ?_)); refine Q2 rfl ?_; refine zst hS ?_; intro w1 hS; have hS := hS.ns)
           all_goals refine zn ?_)
        | (refine Q4 rfl ?_ -- Q2D c0
           all_goals refine zsk ?_)
      all_goals ((first | (exact ⟨_, zh, zh, ren_to (by omega) (by omega) (by omega) hx2 (by have h9 := Option.some.inj (hx1.symm.trans hx2); omega), hS.sp⟩) | (exact ⟨_, zh, zh, QuR (by omega), hS.sp⟩)))
    rintro ρ w1 ⟨r2, hA, hρ, hr, hS⟩; obtain ⟨ρ, rfl⟩ := env2 hA hρ
    all_goals (refine Q0 ?_; refine Q0 ?_; refine Q1 ?_; refine zm ?_; refine zn ?_; refine Qa ?_)
    refine zo [1, 2, 4, 6] (fun A ρ' w' => ∃ (k0 : Cx) (j : Nat) (u : Value) (css : List (List Value)) (us : List Ty), Has ρ' A ∧ Has ρ' [(7, .int .i64 j)] ∧ (cx.Le k0) ∧ (j ≤ l.length) ∧ (us.length = j) ∧ (Tys.ren l to = (Tys.ren (l.drop j) to).map (us ++ ·)) ∧ (tyR.ls k0 css us) ∧ (oneC u = true) ∧ St k0 w' (sl 112 3 u css :: blk p6 112 [.int .i64 k, .int .i64 r2, u] :: blk p4 112 [.int .i64 0, .int .i64 0, .slice none 0 0] :: blk p2 112 [.int .i64 k, .int .i64 r, v] :: L)) (fun ρ' _ => (l.length - iv (ρ' 7)).toNat) ?_ ?_
    · exact ⟨cx, 0, .slice none 0 0, [], [], zh, zh, St.refl hS, (by omega), rfl, by simp, Rep.LR.nil _ _ _, rfl, by have hS := hS.nil (T := 112) (es := 3); exact hS.sp⟩
    rintro ρ w1 ⟨k0, j, u, css, us, hA, hρ, hle2, hj, hus, hd, hls, hu, hS⟩; obtain ⟨ρ, rfl⟩ := env2 hA hρ; have hL0 := hle2; (try have hle := hle.trans hle2); (try have hl := hl.up hle2); (try have hto := hto.up hle2)
    unfold Qey
    all_goals (refine Q0 ?_; refine Q0 ?_; refine Q1 ?_; refine zm ?_; refine Q2 rfl ?_; refine zl hS ?_; refine zL ?_; refine Qx rfl rfl ?_; refine zn ?_)
    refine Qo rfl (fun hc => ?_) (fun hc => ?_)
    · skip
      all_goals (refine zsk ?_; refine Q0 ?_; refine Qa ?_; refine Q0 ?_; refine Q1 ?_; refine Q2 rfl ?_; refine zl hS ?_; refine zm ?_; refine zi ?_; intro b3 o3 cs3 x3 hat3 hx3 he3; obtain ⟨vl3, rfl, hl3⟩ := Qf he3; (first | (refine zv hS ?_) | (refine zvk hS ?_)); refine zm ?_)
      all_goals (refine zR2 (c := ih _ (List.mem_of_getElem? hx3) (hsub _ (List.mem_of_getElem? hx3)) he3 hto hS) (h := ?_); rintro v1 w1 ⟨c1, ds, rfl, hle2, hd1, hS⟩; obtain ⟨y, hy⟩ : ∃ y, (x3.ren to).getD (.mk 0 0 []) = y := ⟨_, rfl⟩; rw [hy] at hd1; obtain ⟨v7, rfl, hv7⟩ := Qf hd1; (try have hle := hle.trans hle2); (try have hL0 := hL0.trans hle2); (try have hl := hl.up hle2); (try have hl3 := hl3.up hle2); (try have he3 := he3.up hle2); (try have hls := hls.up hle2); (try have hto := hto.up hle2); cases hg : x3.ren to)
      all_goals (refine zm ?_; refine Q3z rfl rfl ?_; refine Q3z rfl rfl ?_; refine Qd hS ?_; intro p8 w1 hS; refine zsn hS ?_; intro w1 hS; have hS := hS.ns; refine zm ?_; refine zn ?_; refine Q0 ?_; refine Q0 ?_; refine Q1 ?_; refine zm ?_; refine Q1O rfl ?_; refine zn ?_)
      all_goals
        first
        | (refine Q3 rfl ?_ -- Q2D c4
           all_goals (refine Q0 ?_; refine Q1 ?_; refine zb0 [_, _, _] ?_; refine zsn hS ?_; intro w1 hS; have hS := hS.ns; refine zm ?_; refine zn ?_; refine zr ?_; refine Q1f vw (Qj (n := 3) (by kernel_rfl) (by kernel_rfl) (hS.blkAt fd) (by rfl) (by rfl)) vw ?_)
           all_goals (first | (rw [QgY (by omega)]; exact ⟨_, rfl, _, _, rfl, hle, Q1N (Rep.SR.nil _ _ _), hS.sp⟩) | (rw [QaT (by omega) hx1 (by omega)]; exact ⟨_, rfl, _, _, rfl, hle, Q1N (Rep.SR.nil _ _ _), hS.sp⟩) | (rw [hr, Q9e hd hx3 hg]; exact ⟨_, rfl, _, _, rfl, hle, Q1N (Rep.SR.nil _ _ _), hS.sp⟩)))
        | (refine Q4 rfl ?_ -- Q2D c4
           all_goals refine zsk ?_)
      all_goals (refine Q1 ?_; refine Q2 rfl ?_; refine zl hS ?_; refine zv hS ?_; refine zB1 hS [_, _, _] ?_; intro b1 w1 hS; refine za Q38 Q5x hS ?_; intro vp1 w1 css1 hls1 hv1 hS; have hS := hS.ns; refine Q2 rfl ?_; refine zst hS ?_; intro w1 hS; have hS := hS.ns; refine zn ?_; refine Q1 ?_; refine zm ?_; refine zad ?_; refine zm ?_; refine zn ?_; exact ⟨⟨_, j + 1, _, _, us ++ [y], zh, zh, hL0, (by omega), by simp [hus], Qpi hd hx3 (by rw [hg, ← hy, hg]; rfl), by assumption, by assumption, hS.sp⟩, Qr (by omega)⟩)
    · skip
      all_goals (refine zex ?_; refine Q0 ?_; refine Q1 ?_; refine zv hS ?_; refine zsn hS ?_; intro w1 hS; have hS := hS.ns; refine zm ?_; refine zn ?_; refine zr ?_; refine Q1f vw (Qj (n := 3) (by kernel_rfl) (by kernel_rfl) (hS.blkAt fd) (by rfl) (by rfl)) vw ?_; (first | (rw [QgY (by omega)]; exact ⟨_, rfl, _, _, rfl, hle, Q1N (Rep.SR.nil _ _ _), hS.sp⟩) | (rw [QaT (by omega) hx1 (by omega)]; exact ⟨_, rfl, _, _, rfl, hle, Q1N (Rep.SR.nil _ _ _), hS.sp⟩) | (rw [hr, Q9e hd hx3 hg]; exact ⟨_, rfl, _, _, rfl, hle, Q1N (Rep.SR.nil _ _ _), hS.sp⟩) | (rw [hr, Qtc hd (by omega)]; obtain ⟨c3, hle3, hS, hl3⟩ := St.freezeL (r := tyR) (l := us) (T := 112) (es := 3) (v := u) (css := css) (L := L) hS.sp hls rfl (by omega); exact ⟨_, rfl, c3, _, rfl, hle.trans hle3, Q1N hl3, hS⟩)))
end Go.Proofs.YtanlkfeogoganaaGreat
namespace Go.Lir
set_option linter.unusedVariables false
abbrev Flt := Int × Int
/-- The first fault. -/
def orF (a b : Flt) : Flt := if a.1 = 0 ∧ b.1 ≠ 0 then b else a
def mkF (c at' : Int) : Flt := if c = 0 then (0, 0) else (c, at')
theorem Q3N (a b c : Flt) : orF (orF a b) c = orF a (orF b c) := by
  unfold orF
  by_cases h1 : a.1 = 0 <;> by_cases h2 : b.1 = 0 <;> by_cases h3 : c.1 = 0 <;> simp [h1, h2, h3]
theorem Q5y {a b : Flt} (h : a.1 ≠ 0) : orF a b = a := by unfold orF; rw [if_neg (fun h' => h h'.1)]
theorem QtG {a b : Flt} (h : b.1 = 0) : orF a b = a := by unfold orF; rw [if_neg (fun h' => h'.2 h)]
theorem Q28 {b : Flt} (h : b.1 = 0 → b = (0, 0)) : orF (0, 0) b = b := by
  unfold orF
  by_cases hb : b.1 = 0
  · rw [h hb]; rfl
  · rw [if_pos ⟨rfl, hb⟩]
theorem Q2g (at' : Int) : mkF 0 at' = (0, 0) := rfl
theorem Q9k {c at' : Int} (h : c ≠ 0) : mkF c at' = (c, at') := if_neg h
theorem Q2h (c at' : Int) : (mkF c at').1 = c := by unfold mkF; split <;> simp_all
theorem Qh2 (c at' : Int) : (mkF c at').1 = 0 → mkF c at' = (0, 0) := by rw [Q2h]; rintro rfl; rfl
theorem Qpm {a b : Flt} (ha : a.1 = 0 → a = (0, 0)) (hb : b.1 = 0 → b = (0, 0)) : (orF a b).1 = 0 → orF a b = (0, 0) := by
  unfold orF
  split
  · exact hb
  · exact ha
/-- Two codes at one place: the first that is not 0. -/
def orC (a b : Int) : Int := if a ≠ 0 then a else b
theorem Q30 {g : Flt} {a b at' : Int} : orF (orF g (mkF a at')) (mkF b at') = orF g (mkF (orC a b) at') := by
  rw [Q3N]
  congr 1
  unfold orC orF
  by_cases h : a = 0
  · subst h
    by_cases hb : b = 0
    · subst hb; rfl
    · simp [mkF, hb]
  · simp [mkF, h]

/-! which fields an instruction has -/
def fA (op : Int) : Bool := decide (op = 2 ∨ op = 4 ∨ op = 5 ∨ op = 6 ∨ op = 7 ∨ op = 8 ∨ op = 9 ∨ op = 10 ∨ op = 11 ∨ op = 13)
def fB (op : Int) : Bool := decide (op = 2 ∨ op = 7 ∨ op = 8 ∨ op = 9 ∨ op = 10)
def fC (op : Int) : Bool := decide (op = 10)
def fK (op : Int) : Bool := decide (op = 2 ∨ op = 6 ∨ op = 7 ∨ op = 14)
def fN (op : Int) : Bool := decide (op = 1)
def fG (op : Int) : Bool := decide (op = 14)
def fR (op : Int) : Bool := decide (op = 5 ∨ op = 14)
/-- A field that the kind has not is not 0. -/
def Ins.odd (x : Ins) : Prop := (fA x.op = false ∧ x.a ≠ 0) ∨ (fB x.op = false ∧ x.b ≠ 0) ∨ (fC x.op = false ∧ x.c ≠ 0) ∨ (fK x.op = false ∧ x.k ≠ 0) ∨ (fN x.op = false ∧ x.n ≠ 0) ∨ (fG x.op = false ∧ 0 < x.regs.length) ∨ (fR x.op = false ∧ 0 < x.args.length)
instance (x : Ins) : Decidable x.odd := by unfold Ins.odd; infer_instance
/-- What stands behind the form, kind by kind. -/
def Q1R (n : Nat) (x : Ins) : Int :=
  if x.op = 2 then (if x.k < 1 ∨ 9 < x.k then 1 else 0)
  else if x.op = 5 then (if 8 < x.args.length then 2 else 0)
  else if x.op = 6 ∨ x.op = 7 then (if x.k < 0 ∨ 8 ≤ x.k then 1 else 0)
  else if x.op = 14 then (if x.k < 0 ∨ (n : Int) ≤ x.k then 1 else if 6 < x.regs.length ∨ 8 < x.args.length then 2 else 0)
  else 0
def QF (n : Nat) (x : Ins) : Int := if x.op < 1 ∨ 14 < x.op then 3 else if x.odd then 4 else Q1R n x
def Q27 (n : Nat) (t : To) (is : Bool) : Int :=
  if is = false then (if t.block ≠ 0 ∨ 0 < t.regs.length ∨ 0 < t.args.length then 4 else 0)
  else if t.block < 0 ∨ (n : Int) ≤ t.block then 1 else if 16 < t.regs.length ∨ 8 < t.args.length then 2 else 0
def Q1K (n : Nat) (e : Tail) : Int :=
  if e.op < 1 ∨ 3 < e.op then 3
  else if e.op ≠ 2 ∧ e.a ≠ 0 ∨ e.op ≠ 3 ∧ 0 < e.args.length then 4
  else if 8 < e.args.length then 2
  else orC (Q27 n e.yes (decide (e.op ≠ 3))) (Q27 n e.no (decide (e.op = 2)))
def Q2G (regs : Int) : List Ty → Int
  | [] => 0
  | t :: l => orC (t.fault regs) (Q2G regs l)
def Qu (l : List Ty) (regs : Int) : Int := if 8 < l.length then 2 else Q2G regs l
def Q3e (f : Nat) : Int := f * 10000 + 9999
def Q3h (f b : Nat) : Int := f * 10000 + b * 100 + 90
def Qf7 (f b : Nat) : Int := f * 10000 + b * 100 + 91
def Qcm (f b i : Nat) : Int := f * 10000 + b * 100 + i
/-- The instructions from the i-th on. -/
def Q17 (n f b : Nat) : Nat → List Ins → Flt
  | _, [] => (0, 0)
  | i, x :: l => orF (mkF (QF n x) (Qcm f b i)) (Q17 n f b (i + 1) l)
def Qy (x : Fun) (b : Nat) (y : Block) : Int :=
  if y.regs < x.regs ∨ 16 < y.regs then 1
  else if Qu y.params y.regs ≠ 0 then Qu y.params y.regs
  else if b = 0 ∧ (y.regs ≠ x.regs ∨ y.params ≠ x.params) then 9
  else if 40 < y.code.length then 2 else 0
def QR (n f : Nat) (x : Fun) (b : Nat) (y : Block) : Flt := orF (mkF (Qy x b y) (Q3h f b)) (orF (Q17 n f b 0 y.code) (mkF (Q1K x.blocks.length y.fin) (Qf7 f b)))
def QV (n f : Nat) (x : Fun) : Nat → List Block → Flt
  | _, [] => (0, 0)
  | b, y :: l => orF (QR n f x b y) (QV n f x (b + 1) l)
def QC (f : Nat) (x : Fun) : Int :=
  if x.regs < 0 ∨ 6 < x.regs then 1
  else if Qu x.params x.regs ≠ 0 then Qu x.params x.regs
  else if Qu x.results x.regs ≠ 0 then Qu x.results x.regs
  else if x.blocks.length < 1 ∨ 12 < x.blocks.length then 2
  else if f = 0 ∧ (0 < x.regs ∨ 0 < x.params.length ∨ ∃ t ∈ x.results, t.kind ≠ 1) then 18 else 0
def Q25 (n f : Nat) (x : Fun) : Flt := orF (mkF (QC f x) (Q3e f)) (QV n f x 0 x.blocks)
def Q1l (n : Nat) : Nat → List Fun → Flt
  | _, [] => (0, 0)
  | f, x :: l => orF (Q25 n f x) (Q1l n (f + 1) l)
def Module.fault (m : Module) : Flt := orF (mkF (if m.funcs.length < 1 ∨ 8 < m.funcs.length then 2 else 0) (-1)) (Q1l m.funcs.length 0 m.funcs)
theorem Q98 {n f b : Nat} : ∀ {l : List Ins} {i : Nat}, (Q17 n f b i l).1 = 0 → Q17 n f b i l = (0, 0)
  | [], _ => fun _ => rfl
  | _ :: _, _ => Qpm (Qh2 _ _) Q98
theorem Qex {n f : Nat} {x : Fun} {b : Nat} {y : Block} : (QR n f x b y).1 = 0 → QR n f x b y = (0, 0) := Qpm (Qh2 _ _) (Qpm Q98 (Qh2 _ _))
theorem Q3b {n f : Nat} {x : Fun} : ∀ {l : List Block} {b : Nat}, (QV n f x b l).1 = 0 → QV n f x b l = (0, 0)
  | [], _ => fun _ => rfl
  | _ :: _, _ => Qpm Qex Q3b
theorem Qs {n : Nat} : ∀ {l : List Fun} {f : Nat}, (Q1l n f l).1 = 0 → Q1l n f l = (0, 0)
  | [], _ => fun _ => rfl
  | _ :: _, _ => Qpm (Qpm (Qh2 _ _) Q3b) Qs
theorem Module.fault_z {m : Module} : m.fault.1 = 0 → m.fault = (0, 0) := Qpm (Qh2 _ _) Qs

theorem Q1T {n f b : Nat} {x : Fun} {y : Block} {c : Int} (h : Qy x b y = c) (hc : c ≠ 0) : QR n f x b y = (c, Q3h f b) := by
  unfold QR; rw [h, Q5y (by rw [Q2h]; exact hc), Q9k hc]
theorem QsA {n f b : Nat} {x : Fun} {y : Block} {F : Flt} (h : Qy x b y = 0) (hc : Q17 n f b 0 y.code = F) (hF : F.1 ≠ 0) : QR n f x b y = F := by
  unfold QR; rw [h, Q2g, hc, Q5y hF, Q28 (fun h => absurd h hF)]
theorem bf_end {n f b : Nat} {x : Fun} {y : Block} (h : Qy x b y = 0) (hc : Q17 n f b 0 y.code = (0, 0)) : QR n f x b y = mkF (Q1K x.blocks.length y.fin) (Qf7 f b) := by
  unfold QR; rw [h, Q2g, hc, Q28 (Qh2 _ _), Q28 (Qh2 _ _)]
theorem QkB {n f b i : Nat} {x : Ins} {l : List Ins} (h : QF n x = 0) : Q17 n f b i (x :: l) = Q17 n f b (i + 1) l := by
  rw [Q17, h, Q2g, Q28 Q98]
theorem Q4s {n f b i : Nat} {x : Ins} {l : List Ins} (h : QF n x ≠ 0) : Q17 n f b i (x :: l) = (QF n x, Qcm f b i) := by
  rw [Q17, Q5y (by rw [Q2h]; exact h), Q9k h]
theorem Q16 {n f : Nat} {x : Fun} {c : Int} (h : QC f x = c) (hc : c ≠ 0) : Q25 n f x = (c, Q3e f) := by
  unfold Q25; rw [h, Q5y (by rw [Q2h]; exact hc), Q9k hc]
theorem Qhs {n f : Nat} {x : Fun} (h : QC f x = 0) : Q25 n f x = QV n f x 0 x.blocks := by
  unfold Q25; rw [h, Q2g, Q28 Q3b]
theorem Qf6 {n f b : Nat} {x : Fun} {y : Block} {l : List Block} (h : (QR n f x b y).1 = 0) : QV n f x b (y :: l) = QV n f x (b + 1) l := by
  rw [QV, Qex h, Q28 Q3b]
theorem Q5s {n f b : Nat} {x : Fun} {y : Block} {l : List Block} (h : (QR n f x b y).1 ≠ 0) : QV n f x b (y :: l) = QR n f x b y := by
  rw [QV, Q5y h]
theorem QtQ {n f : Nat} {x : Fun} : (Q25 n f x).1 = 0 → Q25 n f x = (0, 0) := Qpm (Qh2 _ _) Q3b
theorem Qkl {n f : Nat} {x : Fun} {l : List Fun} (h : (Q25 n f x).1 = 0) : Q1l n f (x :: l) = Q1l n (f + 1) l := by
  rw [Q1l, QtQ h, Q28 Qs]
theorem Qm {n f : Nat} {x : Fun} {l : List Fun} (h : (Q25 n f x).1 ≠ 0) : Q1l n f (x :: l) = Q25 n f x := by
  rw [Q1l, Q5y h]

/-! has -/
def hasTab : List ByteArray := [⟨#[]⟩, ⟨#[110]⟩, ⟨#[97, 98, 107]⟩, ⟨#[]⟩, ⟨#[97]⟩, ⟨#[97, 114]⟩, ⟨#[97, 107]⟩, ⟨#[97, 98, 107]⟩, ⟨#[97, 98]⟩, ⟨#[97, 98]⟩, ⟨#[97, 98, 99]⟩, ⟨#[97]⟩, ⟨#[]⟩, ⟨#[97]⟩, ⟨#[107, 103, 114]⟩]
def hasF (op : Int) : ByteArray := if op < 1 ∨ 14 < op then ⟨#[]⟩ else hasTab.getD op.toNat ⟨#[]⟩
def Q1D (s : ByteArray) (c : Nat) : Bool := s.data.toList.any fun b => decide (b.toNat = c)
theorem op_cases {op : Int} (h1 : ¬ op < 1) (h2 : ¬ 14 < op) : op = 1 ∨ op = 2 ∨ op = 3 ∨ op = 4 ∨ op = 5 ∨ op = 6 ∨ op = 7 ∨ op = 8 ∨ op = 9 ∨ op = 10 ∨ op = 11 ∨ op = 12 ∨ op = 13 ∨ op = 14 := by omega
theorem with_all (op : Int) (h : ¬ (op < 1 ∨ 14 < op)) : Q1D (hasF op) 97 = fA op ∧ Q1D (hasF op) 98 = fB op ∧ Q1D (hasF op) 99 = fC op ∧ Q1D (hasF op) 107 = fK op ∧ Q1D (hasF op) 110 = fN op ∧ Q1D (hasF op) 103 = fG op ∧ Q1D (hasF op) 114 = fR op := by
  rcases op_cases (op := op) (by omega) (by omega) with rfl | rfl | rfl | rfl | rfl | rfl | rfl | rfl | rfl | rfl | rfl | rfl | rfl | rfl <;> decide
end Go.Lir
namespace Go.Lir
set_option linter.unusedVariables false
/-- Which regions are held, which values there are. -/
structure JS where
  h : List Bool
  l : List Ty
deriving instance DecidableEq for JS
def jval (s : JS) (k : Int) : Except Int Ty := if k < 0 then .error 1 else match s.l[k.toNat]? with
  | none => .error 1
  | some t => .ok t
def ebind {α β : Type} (x : Except Int α) (f : α → Except Int β) : Except Int β := match x with
  | .error e => .error e
  | .ok a => f a
theorem Qt {α β : Type} {x : Except Int α} {f : α → Except Int β} {e : Int} (h : x = .error e) : ebind x f = .error e := by rw [h]; rfl
theorem Q9 {α β : Type} {x : Except Int α} {f : α → Except Int β} {a : α} (h : x = .ok a) : ebind x f = f a := by rw [h]; rfl
theorem Qh {α β : Type} {x : Except Int α} {f : α → Except Int β} {b : β} (h : ebind x f = .ok b) : ∃ a, x = .ok a ∧ f a = .ok b := by
  cases x with
  | error e => cases h
  | ok a => exact ⟨a, rfl, h⟩
def jkind (s : JS) (k kind : Int) : Except Int Ty := ebind (jval s k) fun t => if t.kind ≠ kind then .error 9 else .ok t
def jat (s : JS) (k kind : Int) : Except Int Ty := ebind (jkind s k kind) fun t => if hasB s.h t.r = false then .error 10 else .ok t
def jput (s : JS) (t : Ty) : Except Int JS := if s.l.length = 80 then .error 2 else .ok ⟨s.h, s.l ++ [t]⟩
def Q2n (s : JS) (regs : List Int) : List Int → List Ty → Except Int Unit
  | k :: l, u :: want => ebind (jval s k) fun t => match u.ren regs with
    | none => .error 9
    | some u' => if t ≠ u' then .error 9 else Q2n s regs l want
  | _, _ => .ok ()
def Q61 (s : JS) (l : List Int) (want : List Ty) (regs : List Int) : Except Int Unit := if l.length ≠ want.length then .error 2 else Q2n s regs l want
def Q35 (t : Ty) (k : Int) : Except Int Ty := match t.l[k.toNat]? with
  | none => .error 9
  | some u => .ok u
/-- The regions that a call hands over: those behind p. -/
def Q2I (h : List Bool) (p : List Int) : List Int → Except Int Unit
  | [] => .ok ()
  | r :: l => if hasB h r = false then .error 10 else if r ∈ p then .error 13 else Q2I h (p ++ [r]) l
def renT (to : List Int) (t : Ty) : Ty := (t.ren to).getD (.mk 0 0 [])
def QeI (m : Module) (s : JS) (x : Ins) : Except Int JS := match m.funcs[x.k.toNat]? with
  | none => .error 1
  | some g => if (x.regs.length : Int) ≠ g.regs then .error 2 else ebind (Q2I s.h [] x.regs) fun _ => ebind (Q61 s x.args g.params x.regs) fun _ =>
    if 80 < s.l.length + g.results.length then .error 2 else .ok ⟨s.h, s.l ++ g.results.map (renT x.regs)⟩
/-- The types of the values of these numbers, behind some. -/
def jfields (s : JS) : List Int → Except Int (List Ty)
  | [] => .ok []
  | k :: l => ebind (jval s k) fun t => ebind (jfields s l) fun ts => .ok (t :: ts)
def number : Ty := .mk 1 0 []
def Q7s (s : JS) (x : Ins) : Except Int JS := ebind (jat s x.a 2) fun t => ebind (jfields s x.args) fun ts =>
  if (Ty.mk 3 t.r ts).fault s.h.length ≠ 0 then .error 19 else jput s (.mk 3 t.r ts)
def jins (m : Module) (f : Fun) (s : JS) (x : Ins) : Except Int JS :=
  if x.op = 1 ∨ x.op = 12 then jput s number
  else if x.op = 2 then ebind (jkind s x.a 1) fun _ => ebind (jkind s x.b 1) fun _ => jput s number
  else if x.op = 3 then (if s.h.length = 16 ∨ s.l.length = 80 then .error 2 else .ok ⟨s.h ++ [true], s.l ++ [.mk 2 s.h.length []]⟩)
  else if x.op = 4 then ebind (jat s x.a 2) fun t => if t.r < f.regs then .error 11 else .ok ⟨s.h.set t.r.toNat false, s.l⟩
  else if x.op = 5 then Q7s s x
  else if x.op = 6 then ebind (jat s x.a 3) fun t => ebind (Q35 t x.k) fun u => jput s u
  else if x.op = 7 then ebind (jat s x.a 3) fun t => ebind (Q35 t x.k) fun u => ebind (jval s x.b) fun v => if u ≠ v then .error 9 else .ok s
  else if x.op = 8 then ebind (jat s x.a 2) fun t => ebind (jkind s x.b 1) fun _ => jput s (.mk 4 t.r [])
  else if x.op = 9 then ebind (jat s x.a 4) fun _ => ebind (jkind s x.b 1) fun _ => jput s number
  else if x.op = 10 then ebind (jat s x.a 4) fun _ => ebind (jkind s x.b 1) fun _ => ebind (jkind s x.c 1) fun _ => .ok s
  else if x.op = 11 then ebind (jat s x.a 4) fun _ => jput s number
  else if x.op = 13 then ebind (jkind s x.a 1) fun _ => .ok s
  else QeI m s x
/-- One instruction: a code, and what is known behind it. -/
def jIns (m : Module) (f : Fun) (s : JS) (x : Ins) : Int × JS := if QF m.funcs.length x ≠ 0 then (QF m.funcs.length x, s) else match jins m f s x with
  | .error c => (c, s)
  | .ok s' => (0, s')
/-- Do the first n numbers of a list stand for themselves? -/
def Q3A (l : List Int) (n : Nat) : Bool := (List.range n).all fun i => decide (l[i]? = some (i : Int))
def jto (f : Fun) (s : JS) (t : To) : Except Int Unit := match f.blocks[t.block.toNat]? with
  | none => .error 1
  | some b => if (t.regs.length : Int) ≠ b.regs then .error 2 else if Q3A t.regs f.regs.toNat = false then .error 11 else
    if Q1o s.h [] t.regs ≠ 0 then .error (Q1o s.h [] t.regs) else Q61 s t.args b.params t.regs
def upTo (n : Nat) : List Int := (List.range n).map Int.ofNat
def jend (f : Fun) (s : JS) (e : Tail) : Except Int Unit :=
  if e.op = 1 then jto f s e.yes
  else if e.op = 2 then ebind (jkind s e.a 1) fun _ => ebind (jto f s e.yes) fun _ => jto f s e.no
  else ebind (Q61 s e.args f.results (upTo f.regs.toNat)) fun _ => if f.regs < (Q1W s.h).length then .error 12 else .ok ()
def jEnd (f : Fun) (s : JS) (e : Tail) : Int := if Q1K f.blocks.length e ≠ 0 then Q1K f.blocks.length e else match jend f s e with
  | .error c => c
  | .ok _ => 0
/-- At the beginning of a block. -/
def Q62 (y : Block) : JS := ⟨List.replicate (min y.regs 16).toNat true, y.params⟩

/-! ### What is true of it -/
theorem QrQ {s : JS} {k : Int} {t : Ty} (h : jval s k = .ok t) : 0 ≤ k ∧ s.l[k.toNat]? = some t := by
  unfold jval at h
  split at h
  · cases h
  · rename_i h0
    split at h
    · cases h
    · rename_i u hu; cases h; exact ⟨by omega, hu⟩
theorem Q5R {s : JS} {k : Int} (h : k < 0 ∨ (s.l.length : Int) ≤ k) : jval s k = .error 1 := by
  unfold jval
  by_cases h0 : k < 0
  · rw [if_pos h0]
  · rw [if_neg h0, List.getElem?_eq_none (by omega)]
theorem Q44 {s : JS} {k : Int} {t : Ty} (h0 : 0 ≤ k) (h : s.l[k.toNat]? = some t) : jval s k = .ok t := by
  unfold jval
  rw [if_neg (by omega), h]
theorem jkind_ok {s : JS} {k kind : Int} {t : Ty} (h : jkind s k kind = .ok t) : 0 ≤ k ∧ s.l[k.toNat]? = some t ∧ t.kind = kind := by
  obtain ⟨u, h1, h2⟩ := Qh h
  split at h2
  · cases h2
  · rename_i hk; cases h2; have := QrQ h1; exact ⟨this.1, this.2, Classical.not_not.1 hk⟩
theorem Qer {s : JS} {k kind : Int} {t : Ty} (h : jat s k kind = .ok t) : 0 ≤ k ∧ s.l[k.toNat]? = some t ∧ t.kind = kind ∧ hasB s.h t.r = true := by
  obtain ⟨u, h1, h2⟩ := Qh h
  split at h2
  · cases h2
  · rename_i hk; cases h2; have := jkind_ok h1; exact ⟨this.1, this.2.1, this.2.2, by simpa using hk⟩
theorem QrT {s s' : JS} {t : Ty} (h : jput s t = .ok s') : s.l.length ≠ 80 ∧ s'.h = s.h ∧ s'.l = s.l ++ [t] := by
  unfold jput at h
  split at h
  · cases h
  · rename_i hk; cases h; exact ⟨hk, rfl, rfl⟩
/-- How an instruction that is let by changes what is known. -/
structure JStep (x : Ins) (s s' : JS) : Prop where
  len : s.l.length ≤ 80 → s'.l.length ≤ 80
  pre : ∃ more, s'.l = s.l ++ more ∧ (x.op ≠ 14 → more.length ≤ 1) ∧ (x.op = 3 → more.length = 1) ∧ (x.op = 4 → more = [])
  new : x.op = 3 → s'.h = s.h ++ [true] ∧ s.h.length ≠ 16
  free : x.op = 4 → ∃ t, 0 ≤ x.a ∧ s.l[x.a.toNat]? = some t ∧ t.kind = 2 ∧ hasB s.h t.r = true ∧ s'.h = s.h.set t.r.toNat false
  else_ : x.op ≠ 3 → x.op ≠ 4 → s'.h = s.h
theorem Q3S {x : Ins} {s s' : JS} {t : Ty} (h : jput s t = .ok s') (h3 : x.op ≠ 3) (h4 : x.op ≠ 4) : JStep x s s' := by
  obtain ⟨h1, h2, h5⟩ := QrT h
  refine ⟨fun hl => by rw [h5, List.length_append]; simp only [List.length_cons, List.length_nil]; omega, ⟨[t], h5, fun _ => by simp, fun h => absurd h h3, fun h => absurd h h4⟩, fun h => absurd h h3, fun h => absurd h h4, fun _ _ => h2⟩
theorem Qbn {x : Ins} {s : JS} (h3 : x.op ≠ 3) (h4 : x.op ≠ 4) : JStep x s s :=
  ⟨fun hl => hl, ⟨[], by simp, fun _ => by simp, fun h => absurd h h3, fun h => absurd h h4⟩, fun h => absurd h h3, fun h => absurd h h4, fun _ _ => rfl⟩
theorem Qv7 {m : Module} {f : Fun} {s s' : JS} {x : Ins} (hop : 1 ≤ x.op ∧ x.op ≤ 14) (h : jins m f s x = .ok s') : JStep x s s' := by
  unfold jins at h
  by_cases h1 : x.op = 1 ∨ x.op = 12
  · rw [if_pos h1] at h; exact Q3S h (by omega) (by omega)
  rw [if_neg h1] at h
  by_cases h2 : x.op = 2
  · rw [if_pos h2] at h; obtain ⟨_, _, h⟩ := Qh h; obtain ⟨_, _, h⟩ := Qh h; exact Q3S h (by omega) (by omega)
  rw [if_neg h2] at h
  by_cases hc : x.op = 3
  · rw [if_pos hc] at h
    by_cases hn : s.h.length = 16 ∨ s.l.length = 80
    · rw [if_pos hn] at h; cases h
    · rw [if_neg hn] at h
      cases h
      exact ⟨fun hl => by simp only [List.length_append, List.length_cons, List.length_nil]; omega, ⟨[_], rfl, fun _ => by simp, fun _ => rfl, fun h => by omega⟩, fun _ => ⟨rfl, by omega⟩, fun h => by omega, fun h => absurd hc h⟩
  rw [if_neg hc] at h
  by_cases hc4 : x.op = 4
  · rw [if_pos hc4] at h
    obtain ⟨t, h1, h⟩ := Qh h
    by_cases hk : t.r < f.regs
    · rw [if_pos hk] at h; cases h
    · rw [if_neg hk] at h
      cases h
      obtain ⟨a1, a2, a3, a4⟩ := Qer h1
      exact ⟨fun hl => hl, ⟨[], by simp, fun _ => by simp, fun h => by omega, fun _ => rfl⟩, fun h => by omega, fun _ => ⟨t, a1, a2, a3, a4, rfl⟩, fun _ h => absurd hc4 h⟩
  rw [if_neg hc4] at h
  by_cases h5 : x.op = 5
  · rw [if_pos h5] at h
    unfold Q7s at h
    obtain ⟨t, _, h⟩ := Qh h; obtain ⟨ts, _, h⟩ := Qh h
    by_cases hk : (Ty.mk 3 t.r ts).fault s.h.length ≠ 0
    · rw [if_pos hk] at h; cases h
    · rw [if_neg hk] at h; exact Q3S h (by omega) (by omega)
  rw [if_neg h5] at h
  by_cases h6 : x.op = 6
  · rw [if_pos h6] at h; obtain ⟨_, _, h⟩ := Qh h; obtain ⟨_, _, h⟩ := Qh h; exact Q3S h (by omega) (by omega)
  rw [if_neg h6] at h
  by_cases h7 : x.op = 7
  · rw [if_pos h7] at h
    obtain ⟨_, _, h⟩ := Qh h; obtain ⟨u, _, h⟩ := Qh h; obtain ⟨v, _, h⟩ := Qh h
    by_cases hk : u ≠ v
    · rw [if_pos hk] at h; cases h
    · rw [if_neg hk] at h; cases h; exact Qbn (by omega) (by omega)
  rw [if_neg h7] at h
  by_cases h8 : x.op = 8
  · rw [if_pos h8] at h; obtain ⟨_, _, h⟩ := Qh h; obtain ⟨_, _, h⟩ := Qh h; exact Q3S h (by omega) (by omega)
  rw [if_neg h8] at h
  by_cases h9 : x.op = 9
  · rw [if_pos h9] at h; obtain ⟨_, _, h⟩ := Qh h; obtain ⟨_, _, h⟩ := Qh h; exact Q3S h (by omega) (by omega)
  rw [if_neg h9] at h
  by_cases h10 : x.op = 10
  · rw [if_pos h10] at h; obtain ⟨_, _, h⟩ := Qh h; obtain ⟨_, _, h⟩ := Qh h; obtain ⟨_, _, h⟩ := Qh h; cases h; exact Qbn (by omega) (by omega)
  rw [if_neg h10] at h
  by_cases h11 : x.op = 11
  · rw [if_pos h11] at h; obtain ⟨_, _, h⟩ := Qh h; exact Q3S h (by omega) (by omega)
  rw [if_neg h11] at h
  by_cases h13 : x.op = 13
  · rw [if_pos h13] at h; obtain ⟨_, _, h⟩ := Qh h; cases h; exact Qbn (by omega) (by omega)
  rw [if_neg h13] at h
  unfold QeI at h
  split at h
  · cases h
  · rename_i g hg
    by_cases hr : (x.regs.length : Int) ≠ g.regs
    · rw [if_pos hr] at h; cases h
    · rw [if_neg hr] at h
      obtain ⟨_, _, h⟩ := Qh h; obtain ⟨_, _, h⟩ := Qh h
      by_cases hn : 80 < s.l.length + g.results.length
      · rw [if_pos hn] at h; cases h
      · rw [if_neg hn] at h
        cases h
        exact ⟨fun hl => by rw [List.length_append, List.length_map]; omega, ⟨_, rfl, fun h => by omega, fun h => by omega, fun h => by omega⟩, fun h => by omega, fun h => by omega, fun _ _ => rfl⟩
theorem Q4D {n : Nat} {x : Ins} (h : QF n x = 0) : 1 ≤ x.op ∧ x.op ≤ 14 := by
  unfold QF at h
  split at h
  · cases h
  · omega
section
variable {s : JS} {regs l : List Int} {want : List Ty} {k : Nat} {x c : Int} {u u' t : Ty}
theorem Qn2 (hx : l[k]? = some x) (hu : want[k]? = some u) (h : jval s x = .error c) : Q2n s regs (l.drop k) (want.drop k) = .error c := by
  rw [Q7 hx, Q7 hu, Q2n, Qt h]
theorem Qhk (hx : l[k]? = some x) (hu : want[k]? = some u) (h : jval s x = .ok t) (hn : u.ren regs = none) : Q2n s regs (l.drop k) (want.drop k) = .error 9 := by
  rw [Q7 hx, Q7 hu, Q2n, Q9 h, hn]
theorem Qhl (hx : l[k]? = some x) (hu : want[k]? = some u) (h : jval s x = .ok t) (hn : u.ren regs = some u') (hd : t ≠ u') : Q2n s regs (l.drop k) (want.drop k) = .error 9 := by
  rw [Q7 hx, Q7 hu, Q2n, Q9 h, hn]; exact if_pos hd
theorem Qvc (hx : l[k]? = some x) (hu : want[k]? = some u) (h : jval s x = .ok t) (hn : u.ren regs = some u') (hd : t = u') : Q2n s regs (l.drop k) (want.drop k) = Q2n s regs (l.drop (k + 1)) (want.drop (k + 1)) := by
  rw [Q7 hx, Q7 hu, Q2n, Q9 h, hn]; exact if_neg (fun h => h hd)
theorem Qvb (h : l.length ≤ k) : Q2n s regs (l.drop k) (want.drop k) = .ok () := by
  rw [List.drop_of_length_le h, Q2n]
  intro k l u w h; cases h
end
section
variable {m : Module} {f : Fun} {s : JS} {x : Ins}
theorem Qeq (h : x.op = 1 ∨ x.op = 12) : jins m f s x = (jput s number) := by
  unfold jins; rw [if_pos (by omega)]
theorem Qhf (h : x.op = 2) : jins m f s x = (ebind (jkind s x.a 1) fun _ => ebind (jkind s x.b 1) fun _ => jput s number) := by
  unfold jins; rw [if_neg (by omega), if_pos (by omega)]
theorem QpV (h : x.op = 3) : jins m f s x = (if s.h.length = 16 ∨ s.l.length = 80 then .error 2 else .ok ⟨s.h ++ [true], s.l ++ [.mk 2 s.h.length []]⟩) := by
  unfold jins; rw [if_neg (by omega), if_neg (by omega), if_pos (by omega)]
theorem Qmh (h : x.op = 4) : jins m f s x = (ebind (jat s x.a 2) fun t => if t.r < f.regs then .error 11 else .ok ⟨s.h.set t.r.toNat false, s.l⟩) := by
  unfold jins; rw [if_neg (by omega), if_neg (by omega), if_neg (by omega), if_pos (by omega)]
theorem QpU (h : x.op = 5) : jins m f s x = (Q7s s x) := by
  unfold jins; rw [if_neg (by omega), if_neg (by omega), if_neg (by omega), if_neg (by omega), if_pos (by omega)]
theorem Qhe (h : x.op = 6) : jins m f s x = (ebind (jat s x.a 3) fun t => ebind (Q35 t x.k) fun u => jput s u) := by
  unfold jins; rw [if_neg (by omega), if_neg (by omega), if_neg (by omega), if_neg (by omega), if_neg (by omega), if_pos (by omega)]
theorem Q3c (h : x.op = 7) : jins m f s x = (ebind (jat s x.a 3) fun t => ebind (Q35 t x.k) fun u => ebind (jval s x.b) fun v => if u ≠ v then .error 9 else .ok s) := by
  unfold jins; rw [if_neg (by omega), if_neg (by omega), if_neg (by omega), if_neg (by omega), if_neg (by omega), if_neg (by omega), if_pos (by omega)]
theorem Qhd (h : x.op = 8) : jins m f s x = (ebind (jat s x.a 2) fun t => ebind (jkind s x.b 1) fun _ => jput s (.mk 4 t.r [])) := by
  unfold jins; rw [if_neg (by omega), if_neg (by omega), if_neg (by omega), if_neg (by omega), if_neg (by omega), if_neg (by omega), if_neg (by omega), if_pos (by omega)]
theorem Qhc (h : x.op = 9) : jins m f s x = (ebind (jat s x.a 4) fun _ => ebind (jkind s x.b 1) fun _ => jput s number) := by
  unfold jins; rw [if_neg (by omega), if_neg (by omega), if_neg (by omega), if_neg (by omega), if_neg (by omega), if_neg (by omega), if_neg (by omega), if_neg (by omega), if_pos (by omega)]
theorem Q8P (h : x.op = 10) : jins m f s x = (ebind (jat s x.a 4) fun _ => ebind (jkind s x.b 1) fun _ => ebind (jkind s x.c 1) fun _ => .ok s) := by
  unfold jins; rw [if_neg (by omega), if_neg (by omega), if_neg (by omega), if_neg (by omega), if_neg (by omega), if_neg (by omega), if_neg (by omega), if_neg (by omega), if_neg (by omega), if_pos (by omega)]
theorem Qbo (h : x.op = 11) : jins m f s x = (ebind (jat s x.a 4) fun _ => jput s number) := by
  unfold jins; rw [if_neg (by omega), if_neg (by omega), if_neg (by omega), if_neg (by omega), if_neg (by omega), if_neg (by omega), if_neg (by omega), if_neg (by omega), if_neg (by omega), if_neg (by omega), if_pos (by omega)]
theorem Qhh (h : x.op = 13) : jins m f s x = (ebind (jkind s x.a 1) fun _ => .ok s) := by
  unfold jins; rw [if_neg (by omega), if_neg (by omega), if_neg (by omega), if_neg (by omega), if_neg (by omega), if_neg (by omega), if_neg (by omega), if_neg (by omega), if_neg (by omega), if_neg (by omega), if_neg (by omega), if_pos (by omega)]
theorem Qhg (h : x.op = 14) : jins m f s x = (QeI m s x) := by
  unfold jins; rw [if_neg (by omega), if_neg (by omega), if_neg (by omega), if_neg (by omega), if_neg (by omega), if_neg (by omega), if_neg (by omega), if_neg (by omega), if_neg (by omega), if_neg (by omega), if_neg (by omega), if_neg (by omega)]
theorem Q5b {t : Ty} (h : s.l.length ≠ 80) : jput s t = .ok ⟨s.h, s.l ++ [t]⟩ := if_neg h
theorem Q8O {t : Ty} (h : s.l.length = 80) : jput s t = .error 2 := if_pos h
theorem QpY {q : Nat} {k c : Int} {ts : List Ty} (hx : x.args[q]? = some k) (hd : jfields s x.args = ebind (jfields s (x.args.drop q)) fun l => .ok (ts ++ l)) (h : jval s k = .error c) : jfields s x.args = .error c := by
  rw [hd, Q7 hx, jfields, Qt h]; rfl
theorem QpX {q : Nat} {k : Int} {t : Ty} {ts : List Ty} (hx : x.args[q]? = some k) (hd : jfields s x.args = ebind (jfields s (x.args.drop q)) fun l => .ok (ts ++ l)) (h : jval s k = .ok t) : jfields s x.args = ebind (jfields s (x.args.drop (q + 1))) fun l => .ok ((ts ++ [t]) ++ l) := by
  rw [hd, Q7 hx, jfields, Q9 h]
  cases jfields s (x.args.drop (q + 1)) with
  | error c => rfl
  | ok l => simp [ebind]
theorem QpW {q : Nat} {ts : List Ty} (hd : jfields s x.args = ebind (jfields s (x.args.drop q)) fun l => .ok (ts ++ l)) (h : x.args.length ≤ q) : jfields s x.args = .ok ts := by
  rw [hd, List.drop_of_length_le h, jfields]; simp [ebind]
end
theorem kept_s (l : List Int) (n : Nat) : Q3A l (n + 1) = (Q3A l n && decide (l[n]? = some (n : Int))) := by
  unfold Q3A; rw [List.range_succ, List.all_append]; simp
theorem QmT {l : List Int} {n q : Nat} (hq : q < n) (h : l[q]? ≠ some (q : Int)) : Q3A l n = false := by
  unfold Q3A
  rw [List.all_eq_false]
  exact ⟨q, List.mem_range.2 hq, by simpa using h⟩
theorem Qt6 (n : Nat) : upTo (n + 1) = upTo n ++ [(n : Int)] := by unfold upTo; rw [List.range_succ, List.map_append]; rfl
section
variable {f : Fun} {s : JS} {t : To} {b : Block} {e : Tail}
theorem Qv2 (hb : f.blocks[t.block.toNat]? = some b) (h : (t.regs.length : Int) ≠ b.regs) : jto f s t = .error 2 := by unfold jto; rw [hb]; exact if_pos h
theorem Qtj (hb : f.blocks[t.block.toNat]? = some b) (h : ¬ (t.regs.length : Int) ≠ b.regs) (h2 : Q3A t.regs f.regs.toNat = false) : jto f s t = .error 11 := by unfold jto; rw [hb]; simp only; rw [if_neg h, if_pos h2]
theorem jto_p (hb : f.blocks[t.block.toNat]? = some b) (h : ¬ (t.regs.length : Int) ≠ b.regs) (h2 : Q3A t.regs f.regs.toNat = true) (h3 : Q1o s.h [] t.regs ≠ 0) : jto f s t = .error (Q1o s.h [] t.regs) := by unfold jto; rw [hb]; simp only; rw [if_neg h, if_neg (by rw [h2]; decide), if_pos h3]
theorem jto_a (hb : f.blocks[t.block.toNat]? = some b) (h : ¬ (t.regs.length : Int) ≠ b.regs) (h2 : Q3A t.regs f.regs.toNat = true) (h3 : Q1o s.h [] t.regs = 0) : jto f s t = Q61 s t.args b.params t.regs := by unfold jto; rw [hb]; simp only; rw [if_neg h, if_neg (by rw [h2]; decide), if_neg (fun h => h h3)]
theorem Qva (h : e.op = 1) : jend f s e = jto f s e.yes := by unfold jend; rw [if_pos h]
theorem Qhi (h : e.op = 2) : jend f s e = ebind (jkind s e.a 1) fun _ => ebind (jto f s e.yes) fun _ => jto f s e.no := by unfold jend; rw [if_neg (by omega), if_pos h]
theorem Qmj (h : e.op = 3) : jend f s e = ebind (Q61 s e.args f.results (upTo f.regs.toNat)) fun _ => if f.regs < (Q1W s.h).length then .error 12 else .ok () := by unfold jend; rw [if_neg (by omega), if_neg (by omega)]
theorem Qg7 {n : Nat} (h : Q27 n t true = 0) : 0 ≤ t.block ∧ t.block < n := by
  unfold Q27 at h
  simp at h; omega
theorem Qmn {n : Nat} (h : Q1K n e = 0) : 1 ≤ e.op ∧ e.op ≤ 3 ∧ Q27 n e.yes (decide (e.op ≠ 3)) = 0 ∧ Q27 n e.no (decide (e.op = 2)) = 0 := by
  unfold Q1K at h
  split at h
  · cases h
  · split at h
    · cases h
    · split at h
      · cases h
      · unfold orC at h
        split at h
        · rename_i h1; exact absurd h h1
        · rename_i h1; exact ⟨by omega, by omega, Classical.not_not.1 h1, h⟩
end
/-! ### A code that is told is not 0 -/
def NZ {α : Type} (x : Except Int α) : Prop := ∀ c, x = .error c → c ≠ 0
theorem NZ.e {α : Type} {c : Int} (h : c ≠ 0) : NZ (.error c : Except Int α) := fun _ h' => by cases h'; exact h
theorem NZ.o {α : Type} (a : α) : NZ (.ok a : Except Int α) := fun _ h' => by cases h'
theorem NZ.bind {α β : Type} {x : Except Int α} {f : α → Except Int β} (h1 : NZ x) (h2 : ∀ a, x = .ok a → NZ (f a)) : NZ (ebind x f) := by
  cases x with
  | error e => exact fun c h => by cases h; exact h1 _ rfl
  | ok a => exact h2 a rfl
theorem NZ.ite {α : Type} {p : Prop} [Decidable p] {a b : Except Int α} (h1 : NZ a) (h2 : NZ b) : NZ (if p then a else b) := by
  split
  · exact h1
  · exact h2
theorem Qh5 (s : JS) (k : Int) : NZ (jval s k) := by
  unfold jval
  split
  · exact .e (by decide)
  · split
    · exact .e (by decide)
    · exact .o _
theorem Q3j (s : JS) (k kind : Int) : NZ (jkind s k kind) := by
  refine .bind (Qh5 s k) fun t _ => ?_
  split
  · exact .e (by decide)
  · exact .o _
theorem Qhj (s : JS) (k kind : Int) : NZ (jat s k kind) := by
  refine .bind (Q3j s k kind) fun t _ => ?_
  split
  · exact .e (by decide)
  · exact .o _
theorem jput_nz (s : JS) (t : Ty) : NZ (jput s t) := by
  unfold jput
  split
  · exact .e (by decide)
  · exact .o _
theorem Qq1 (s : JS) (regs : List Int) : ∀ (l : List Int) (want : List Ty), NZ (Q2n s regs l want)
  | [], [] => by unfold Q2n; exact .o _
  | [], _ :: _ => by unfold Q2n; exact .o _
  | _ :: _, [] => by unfold Q2n; exact .o _
  | k :: l, u :: want => by
    unfold Q2n
    refine .bind (Qh5 s k) fun t _ => ?_
    split
    · exact .e (by decide)
    · split
      · exact .e (by decide)
      · exact Qq1 s regs l want
theorem Qa6 (s : JS) (l : List Int) (want : List Ty) (regs : List Int) : NZ (Q61 s l want regs) := by
  unfold Q61
  split
  · exact .e (by decide)
  · exact Qq1 s regs l want
theorem Qq0 (t : Ty) (k : Int) : NZ (Q35 t k) := by
  unfold Q35
  split
  · exact .e (by decide)
  · exact .o _
theorem Qn1 (h : List Bool) : ∀ (l p : List Int), NZ (Q2I h p l)
  | [], _ => by unfold Q2I; exact .o _
  | r :: l, p => by
    unfold Q2I
    split
    · exact .e (by decide)
    · split
      · exact .e (by decide)
      · exact Qn1 h l _
theorem Qbp (s : JS) : ∀ (l : List Int), NZ (jfields s l)
  | [] => by unfold jfields; exact .o _
  | k :: l => by
    unfold jfields
    exact .bind (Qh5 s k) fun _ _ => .bind (Qbp s l) fun _ _ => .o _
theorem jcall_nz (m : Module) (s : JS) (x : Ins) : NZ (QeI m s x) := by
  unfold QeI
  split
  · exact .e (by decide)
  · split
    · exact .e (by decide)
    · refine .bind (Qn1 _ _ _) fun _ _ => .bind (Qa6 _ _ _ _) fun _ _ => ?_
      split
      · exact .e (by decide)
      · exact .o _
theorem jins_nz (m : Module) (f : Fun) (s : JS) (x : Ins) : NZ (jins m f s x) := by
  unfold jins Q7s
  repeat' (first | exact jput_nz _ _ | exact jcall_nz _ _ _ | exact .o _ | exact .e (by decide) | refine .bind (Q3j _ _ _) fun _ _ => ?_ | refine .bind (Qhj _ _ _) fun _ _ => ?_ | refine .bind (Qq0 _ _) fun _ _ => ?_ | refine .bind (Qh5 _ _) fun _ _ => ?_ | refine .bind (Qbp _ _) fun _ _ => ?_ | refine .ite ?_ ?_)
theorem jIns_ok {m : Module} {f : Fun} {s : JS} {x : Ins} (h : (jIns m f s x).1 = 0) : QF m.funcs.length x = 0 ∧ jins m f s x = .ok (jIns m f s x).2 := by
  unfold jIns at h ⊢
  split at h
  · rename_i hf; exact absurd h hf
  · rename_i hf
    rw [if_neg hf]
    refine ⟨Classical.not_not.1 hf, ?_⟩
    cases hj : jins m f s x with
    | error c => rw [hj] at h; exact absurd h (jins_nz m f s x c hj)
    | ok s' => rfl
theorem jIns_no {m : Module} {f : Fun} {s : JS} {x : Ins} (h : (jIns m f s x).1 ≠ 0) : (jIns m f s x).2 = s := by
  unfold jIns at h ⊢
  split
  · rfl
  · rename_i hf
    rw [if_neg hf] at h
    cases hj : jins m f s x with
    | error c => rfl
    | ok s' => rw [hj] at h; exact absurd rfl h
end Go.Lir
namespace Go.Proofs.YtanlkfeogoganaaGreat
open Go.Lir
set_option maxHeartbeats 1000000
attribute [local irreducible] LC.wp Q5 Q11 Q1c retQ Q2b LO.wp QD Calls
set_option linter.unusedSimpArgs false
set_option linter.unusedVariables false
theorem rints_c {l m : List Int} {cx : Cx} {w : World} {L : List Res} {v v2 : Value} (hl : intR.sl cx v l) (hm : intR.sl cx v2 m) (hS : St cx w L) : Rets Tryz.prog Q3G [v, v2] w fun u w' => u = .bool (decide (l = m)) ∧ St cx w' L := by
  have hlen := hl.len
  all_goals refine Qo6 ?_
  all_goals (unfold R_SameInts_lc; refine Q0 ?_; refine Q1 ?_; refine zm ?_; refine zn ?_; refine Q0 ?_; refine Q0 ?_; refine Q1 ?_; refine zm ?_; refine zL ?_; refine zm ?_; refine zL ?_)
  all_goals (first | (refine QZ ?_) | (refine Q10 ?_) | (refine Qp rfl rfl (fun hc => ?_) (fun hc => ?_)))
  all_goals (refine zn ?_)
  all_goals
    first
    | (refine Q3 rfl ?_ -- Q3G c0
       all_goals (refine Q0 ?_; refine Q1 ?_; refine zm ?_; refine zn ?_; refine zr ?_; refine zf ?_)
       all_goals (refine ⟨_, rfl, ?_, hS.sp⟩; rw [decide_eq_false]; exact fun e => absurd (congrArg List.length e) (by omega); done))
    | (refine Q4 rfl ?_ -- Q3G c0
       all_goals refine zsk ?_)
  all_goals (refine Q0 ?_; refine Q0 ?_; refine Q1 ?_; refine zm ?_; refine zn ?_; refine Qa ?_)
  refine zoL hS [0, 1] (fun A LL ρ' w' => ∃ (j : Nat), Has ρ' A ∧ Has ρ' [(5, .int .i64 j)] ∧ (j ≤ l.length) ∧ (l.length = m.length) ∧ (l = m ↔ l.drop j = m.drop j) ∧ St cx w' (LL)) (fun ρ' _ => (l.length - iv (ρ' 5)).toNat) ?_ ?_
  · exact ⟨0, zh, zh, (by omega), (by omega), by simp, hS.sp⟩
  rintro ρ w1 ⟨j, hA, hρ, hj, hlm, hd, hS⟩; obtain ⟨ρ, rfl⟩ := env2 hA hρ
  unfold QaI
  all_goals (refine Q0 ?_; refine Q0 ?_; refine Q1 ?_; refine zm ?_; refine zm ?_; refine zL ?_; refine Qx rfl rfl ?_; refine zn ?_)
  refine Qo rfl (fun hc => ?_) (fun hc => ?_)
  · skip
    all_goals (refine zsk ?_; refine Q0 ?_; refine Qa ?_; refine Q0 ?_; refine zD [(0, none), (1, none), (2, none), (3, none), (4, none), (5, none), (6, none), (7, none), (8, some none)] ?_; have hS := hS.drew; refine zm ?_; refine zm ?_; refine zi ?_; intro b1 o1 cs1 x1 hat1 hx1 he1; obtain rfl := QJ he1; (first | (refine zl hS ?_) | (refine zlk hS ?_)); refine zm ?_; refine zm ?_; refine zi ?_; intro b2 o2 cs2 x2 hat2 hx2 he2; obtain rfl := QJ he2; (first | (refine zl hS ?_) | (refine zlk hS ?_)))
    all_goals (first | (refine QZ ?_) | (refine Q10 ?_) | (refine Qp rfl rfl (fun hc => ?_) (fun hc => ?_)))
    all_goals (refine zn ?_)
    all_goals
      first
      | (refine Q3 rfl ?_ -- Q3G c2
         all_goals (refine Q0 ?_; refine Q1 ?_; refine zm ?_; refine zn ?_; refine zr ?_; refine zf ?_)
         all_goals (first | (refine ⟨_, rfl, ?_, hS.sp⟩; rw [decide_eq_false]; exact fun e => absurd (congrArg List.length e) (by omega); done) | (refine ⟨_, rfl, ?_, hS.sp⟩; rw [decide_eq_false]; rw [hd, Q7 hx1, Q7 hx2]; simp [*]; done)))
      | (refine Q4 rfl ?_ -- Q3G c2
         all_goals refine zsk ?_)
    all_goals (refine Q1 ?_; refine zm ?_; refine zad ?_; refine zm ?_; refine zn ?_; exact ⟨⟨j + 1, zh, zh, (by omega), (by omega), by rw [hd, Q7 hx1, Q7 hx2, show x1 = x2 by omega]; simp, hS.sp⟩, Qr (by omega)⟩)
  · skip
    all_goals (refine zex ?_; refine Q0 ?_; refine Q1 ?_; refine zm ?_; refine zn ?_; refine zr ?_; refine zf ?_; (first | (refine ⟨_, rfl, ?_, hS.sp⟩; rw [decide_eq_false]; exact fun e => absurd (congrArg List.length e) (by omega); done) | (refine ⟨_, rfl, ?_, hS.sp⟩; rw [decide_eq_false]; rw [hd, Q7 hx1, Q7 hx2]; simp [*]; done) | (refine ⟨_, rfl, ?_, hS.sp⟩; rw [decide_eq_true]; rw [hd, List.drop_of_length_le (by omega), List.drop_of_length_le (by omega)]; done)))
theorem Q9g {l : List Int} (hb : l.length ≤ 1000000) {cx : Cx} {w : World} {L : List Res} {v : Value} (hl : intR.sl cx v l) (hS : St cx w L) : Rets Tryz.prog Q2y [v] w fun u w' => ∃ c', cx.Le c' ∧ intR.sl c' u l ∧ St c' w' L := by
  obtain ⟨a, c, hv⟩ := Rep.SR.shape hl
  cases a with
  | none =>
    have hl0 := Rep.SR.nil_of hl hv
    subst hl0
    subst hv
    all_goals refine Q2T ?_
    all_goals (unfold slices_Clone_int_int_lc; refine Q0 ?_; refine Q1 ?_; refine zm ?_; refine zn ?_; refine Q0 ?_; refine Q0 ?_; refine Q1 ?_; refine zm ?_; refine QmL (e := 3) (by kernel_rfl) rfl rfl ?_; refine zn ?_)
    all_goals
      first
      | (refine Q3 rfl ?_ -- Q2y c0
         all_goals (refine Q0 ?_; refine Q1 ?_; refine zm ?_; refine zn ?_; refine zr ?_; refine zf ?_)
         all_goals (exact ⟨_, rfl, cx, St.refl hS, Rep.SR.nil _ _ _, hS⟩))
    all_goals (refine Q0 ?_; refine Q1 ?_; fail "no law for buildSlice"; refine zm ?_; refine za Qeu Qrx hS ?_; intro vp1 w1 css1 hls1 hv1 hS; have hS := hS.ns; refine zm ?_; refine zn ?_; refine zr ?_; refine zf ?_; exact ⟨_, rfl, cx, St.refl hS, Rep.SR.nil _ _ _, hS⟩)
  | some a =>
    have hn : intR.ls cx [] [] := Rep.LR.nil _ _ _
    all_goals refine Q2T ?_
    all_goals (unfold slices_Clone_int_int_lc; refine Q0 ?_; refine Q1 ?_; refine zm ?_; refine zn ?_; refine Q0 ?_; refine Q0 ?_; refine Q1 ?_; refine zm ?_; refine QmL (e := 3) (by kernel_rfl) hv rfl ?_; refine zn ?_)
    all_goals refine Q4 rfl ?_
    all_goals (refine zsk ?_; refine Q0 ?_; refine Q1 ?_; refine Qur Qeu ?_; intro v1 w1 hf1 hs1 hz1; have hS := hS.new (r := sl 3 1 v1 []) hs1 hf1 (fun b hb => Nat.le_of_eq hb.symm); refine zm ?_; (first | (refine za Qeu Qrx hS ?_; intro vp1 w1 css1 hls1 hv1 hS; have hS := hS.ns) | (refine zak Qeu Qrx hS ?_; intro vp1 w1 css1 hls1 hv1 hS; have hS := hS.ns)); refine zm ?_; refine zn ?_; refine zr ?_; refine zf ?_; obtain ⟨c3, hle3, hS, hl3⟩ := St.freezeL (r := intR) (l := l) (T := 3) (es := 1) (L := L) hS.sp hls1 rfl (by omega); exact ⟨_, rfl, c3, hle3, hl3, hS⟩)
theorem Qte {x : To} (hb1 : x.regs.length ≤ 1000000) (hb2 : x.args.length ≤ 1000000) {cx : Cx} {w : World} {L : List Res} {cs : List Value} (hx : toR.at cx cs x) (hS : St cx w L) : Rets Tryz.prog Qmp [.agg ⟨cs⟩] w fun u w' => ∃ c' ds, u = .agg ⟨ds⟩ ∧ cx.Le c' ∧ toR.at c' ds x ∧ St c' w' L := by
  obtain ⟨v1, v2, rfl, h1, h2⟩ := Q7x hx
  all_goals refine Qne ?_
  all_goals (unfold code_ownTo_lc; refine Q0 ?_; refine Q1 ?_; refine zb hS ?_; intro p1 w1 hS; refine Qd hS ?_; intro p2 w1 hS; refine zn ?_; refine Q0 ?_; refine zC [(0, none), (1, none), (2, none), (3, none), (5, none), (6, none), (4, some (some [1, 6])), (7, some (some [1])), (8, none), (9, some none)] ?_; have hS := hS.drew; refine s_cq ?_; refine Q2 rfl ?_; refine zt ?_; refine s_cq ?_; refine zl hS ?_; refine zt ?_; refine s_cq ?_; refine Q2 rfl ?_; refine zt ?_; refine s_cq ?_; refine zl hS ?_; refine zt ?_; refine s_cq ?_; refine Q2 rfl ?_; refine zt ?_; refine s_cq ?_; refine zl hS ?_; refine zt ?_; refine QU ?_; refine zR1 (c := Q9g hb1 h1 hS) (h := ?_); rintro v1 w1 ⟨c1, hle, hl1, hS⟩; obtain ⟨a1, n1, rfl⟩ := Rep.SR.shape hl1; have h2 := Rep.SR.up h2 hle; refine zt ?_; refine zy ?_; refine QU ?_; refine zR1 (c := Q9g hb2 h2 hS) (h := ?_); rintro v1 w1 ⟨c2, hle2, hl2, hS⟩; obtain ⟨a2, n2, rfl⟩ := Rep.SR.shape hl2; have hl1 := Rep.SR.up hl1 hle2; refine zt ?_; refine zy ?_; refine s_cq ?_; refine zb3 [_, _, _] ?_; refine zt ?_; refine s_cf ?_; refine zsn hS ?_; intro w1 hS; have hS := hS.ns; refine zt ?_; refine zcn ?_)
  all_goals (refine zr ?_; refine Q1V vw (Qj (n := 3) (by kernel_rfl) (by kernel_rfl) (hS.blkAt fd) (by rfl) (by rfl)) ?_; exact ⟨_, rfl, c2, _, rfl, hle.trans hle2, ⟨_, _, rfl, hl1, hl2⟩, hS.sp⟩)
end Go.Proofs.YtanlkfeogoganaaGreat
namespace Go.Proofs.YtanlkfeogoganaaGreat
open Go.Lir
set_option maxHeartbeats 1000000
attribute [local irreducible] LC.wp Q5 Q11 Q1c retQ Q2b LO.wp QD Calls
set_option linter.unusedSimpArgs false
set_option linter.unusedVariables false
theorem QtP {x : Module} {cx : Cx} {w : World} {L : List Res} {cs : List Value} (hx : modR.at cx cs x) (hS : St cx w L) : Rets Tryz.prog Q1i [.agg ⟨cs⟩] w fun u w' => ∃ b, u = .bool b ∧ (b = false → x.Short) ∧ St cx w' L := by
  obtain ⟨vf, rfl, hl⟩ := Q31 hx
  obtain ⟨l⟩ := x
  have hl : funcR.sl cx vf l := hl
  have hlen := hl.len
  all_goals refine QfU ?_
  all_goals (unfold R_GreatModule_lc; refine Q0 ?_; refine Q1 ?_; refine zb hS ?_; intro p1 w1 hS; refine zm ?_; refine zn ?_; refine Q0 ?_; refine Q0 ?_; refine Q1 ?_; refine Q2 rfl ?_; refine zl hS ?_; refine zL ?_)
  all_goals (first | (refine Q12 ?_) | (refine Q15 ?_) | (refine Qq rfl rfl (fun hc => ?_) (fun hc => ?_)))
  all_goals (refine zn ?_)
  all_goals
    first
    | (refine Q3 rfl ?_ -- Q1i c0
       all_goals (refine Q0 ?_; refine Q1 ?_; refine zm ?_; refine zn ?_; refine zr ?_; refine zf ?_)
       all_goals (exact ⟨_, rfl, true, rfl, fun h => Bool.noConfusion h, hS.sp⟩))
    | (refine Q4 rfl ?_ -- Q1i c0
       all_goals refine zsk ?_)
  all_goals (refine Q0 ?_; refine Q0 ?_; refine Q1 ?_; refine zm ?_; refine zn ?_; refine Qa ?_)
  refine zoL hS [1] (fun A LL ρ' w' => ∃ (j : Nat), Has ρ' A ∧ Has ρ' [(3, .int .i64 j)] ∧ (j ≤ l.length) ∧ (l.length ≤ 20) ∧ (∀ f ∈ l.take j, f.Short) ∧ St cx w' (LL)) (fun ρ' _ => (l.length - iv (ρ' 3)).toNat) ?_ ?_
  · exact ⟨0, zh, zh, (by omega), (by omega), by simp, hS.sp⟩
  rintro ρ w1 ⟨j, hA, hρ, hj, hl20, hd, hS⟩; obtain ⟨ρ, rfl⟩ := env2 hA hρ
  unfold Q5w
  all_goals (refine Q0 ?_; refine Q0 ?_; refine Q1 ?_; refine zm ?_; refine Q2 rfl ?_; refine zl hS ?_; refine zL ?_; refine Qx rfl rfl ?_; refine zn ?_)
  refine Qo rfl (fun hc => ?_) (fun hc => ?_)
  · skip
    all_goals (refine zsk ?_; refine Q0 ?_; refine Qa ?_; refine Q0 ?_; refine Q1 ?_; refine Q2 rfl ?_; refine zl hS ?_; refine zm ?_; refine zi ?_; intro b1 o1 cs1 x1 hat1 hx1 he1; obtain ⟨vp1, vr1, vb1, rfl, hp1, hr1, hb1⟩ := Q1e he1; (first | (refine zv hS ?_) | (refine zvk hS ?_)); refine Qd hS ?_; intro p4 w1 hS; refine zsn hS ?_; intro w1 hS; have hS := hS.ns; refine zn ?_; refine Q0 ?_; refine Q0 ?_; refine Q1 ?_; refine Q2 rfl ?_; refine zl hS ?_; refine zL ?_)
    all_goals (first | (refine Q12 ?_) | (refine Q15 ?_) | (refine Qq rfl rfl (fun hc => ?_) (fun hc => ?_)))
    all_goals (refine zm ?_; (first | refine s_gn rfl rfl ?_ | (refine s_gy rfl ?_; refine Q2 rfl ?_)); (first | refine s_gn rfl rfl ?_ | (refine s_gy rfl ?_; refine zl hS ?_)))
    all_goals ((first | (refine s_gn rfl rfl ?_) | (refine s_gy rfl ?_; refine zR1 (c := Qn5 hp1 hS) (h := ?_); rintro v1 w1 ⟨rfl, hS⟩; cases hg1 : Tys.great x1.params)))
    all_goals ((first | (refine zpt ?_) | (refine zpf ?_)); refine zm ?_; (first | refine s_gn rfl rfl ?_ | (refine s_gy rfl ?_; refine Q2 rfl ?_)); (first | refine s_gn rfl rfl ?_ | (refine s_gy rfl ?_; refine zl hS ?_)))
    all_goals ((first | (refine s_gn rfl rfl ?_) | (refine s_gy rfl ?_; refine zR1 (c := Qn5 hr1 hS) (h := ?_); rintro v1 w1 ⟨rfl, hS⟩; cases hg2 : Tys.great x1.results)))
    all_goals ((first | (refine zpt ?_) | (refine zpf ?_)); refine zn ?_)
    all_goals
      first
      | (refine Q3 rfl ?_ -- Q1i c2
         all_goals (refine Q0 ?_; refine Q1 ?_; refine zm ?_; refine zn ?_; refine zr ?_; refine zf ?_)
         all_goals (exact ⟨_, rfl, true, rfl, fun h => Bool.noConfusion h, hS.sp⟩))
      | (refine Q4 rfl ?_ -- Q1i c2
         all_goals refine zsk ?_)
    all_goals (refine Q0 ?_; have hlb := hb1.len; refine Q1 ?_; refine zm ?_; refine zn ?_; refine Qa ?_)
    refine zoL hS [1, 3, 4] (fun A LL ρ' w' => ∃ (i : Nat), Has ρ' A ∧ Has ρ' [(5, .int .i64 i)] ∧ (i ≤ x1.blocks.length) ∧ (x1.blocks.length ≤ 30) ∧ (Tys.great x1.params = false) ∧ (Tys.great x1.results = false) ∧ (∀ f ∈ x1.blocks.take i, f.Short) ∧ St cx w' (LL)) (fun ρ' _ => (x1.blocks.length - iv (ρ' 5)).toNat) ?_ ?_
    · exact ⟨0, zh, zh, (by omega), (by omega), by assumption, by assumption, by simp, hS.sp⟩
    rintro ρ w1 ⟨i, hA, hρ, hi, hl30, hg1, hg2, hd1, hS⟩; obtain ⟨ρ, rfl⟩ := env2 hA hρ
    unfold Q5v
    all_goals (refine Q0 ?_; refine Q0 ?_; refine Q1 ?_; refine zm ?_; refine Q2 rfl ?_; refine zl hS ?_; refine zL ?_; refine Qx rfl rfl ?_; refine zn ?_)
    refine Qo rfl (fun hc => ?_) (fun hc => ?_)
    · skip
      all_goals (refine zsk ?_; refine Q0 ?_; refine Qa ?_; refine Q0 ?_; refine Q1 ?_; refine Q2 rfl ?_; refine zl hS ?_; refine zm ?_; refine zi ?_; intro b2 o2 cs2 x2 hat2 hx2 he2; obtain ⟨vp2, vc2, ve21, ve22, ve23, ve24, ve25, rfl, hp2, hc2, he21, he22, he23, he24, he25⟩ := Q2N he2; (first | (refine zv hS ?_) | (refine zvk hS ?_)); refine Qd hS ?_; intro p6 w1 hS; refine zsn hS ?_; intro w1 hS; have hS := hS.ns; refine zn ?_; refine Q0 ?_; refine Q0 ?_; refine Q1 ?_; refine Q2 rfl ?_; refine zl hS ?_; refine zL ?_)
      all_goals (first | (refine Q12 ?_) | (refine Q15 ?_) | (refine Qq rfl rfl (fun hc => ?_) (fun hc => ?_)))
      all_goals (refine zm ?_; (first | refine s_gn rfl rfl ?_ | (refine s_gy rfl ?_; refine Q2 rfl ?_)); (first | refine s_gn rfl rfl ?_ | (refine s_gy rfl ?_; refine zl hS ?_)))
      all_goals ((first | (refine s_gn rfl rfl ?_) | (refine s_gy rfl ?_; refine zR1 (c := Qn5 hp2 hS) (h := ?_); rintro v1 w1 ⟨rfl, hS⟩; cases hg3 : Tys.great x2.params)))
      all_goals ((first | (refine zpt ?_) | (refine zpf ?_)); refine zm ?_; (first | refine s_gn rfl rfl ?_ | (refine s_gy rfl ?_; refine Q2 rfl ?_)); (first | refine s_gn rfl rfl ?_ | (refine s_gy rfl ?_; (first | refine Q2 rfl ?_ | refine Q1d rfl ?_))); (first | refine s_gn rfl rfl ?_ | (refine s_gy rfl ?_; refine zl hS ?_)); (first | refine s_gn rfl rfl ?_ | (refine s_gy rfl ?_; refine zL ?_)))
      all_goals (first | refine s_gn rfl rfl ?_ | (refine s_gy rfl ?_; (first | (refine Q12 ?_) | (refine Q15 ?_) | (refine Qq rfl rfl (fun hc => ?_) (fun hc => ?_)))))
      all_goals ((first | (refine zpt ?_) | (refine zpf ?_)); refine zm ?_; (first | refine s_gn rfl rfl ?_ | (refine s_gy rfl ?_; refine Q2 rfl ?_)); (first | refine s_gn rfl rfl ?_ | (refine s_gy rfl ?_; (first | refine Q2 rfl ?_ | refine Q1d rfl ?_))); (first | refine s_gn rfl rfl ?_ | (refine s_gy rfl ?_; (first | refine Q2 rfl ?_ | refine Q1d rfl ?_))); (first | refine s_gn rfl rfl ?_ | (refine s_gy rfl ?_; refine zl hS ?_)); (first | refine s_gn rfl rfl ?_ | (refine s_gy rfl ?_; refine zL ?_)))
      all_goals (first | refine s_gn rfl rfl ?_ | (refine s_gy rfl ?_; (first | (refine Q12 ?_) | (refine Q15 ?_) | (refine Qq rfl rfl (fun hc => ?_) (fun hc => ?_)))))
      all_goals ((first | (refine zpt ?_) | (refine zpf ?_)); refine zm ?_; (first | refine s_gn rfl rfl ?_ | (refine s_gy rfl ?_; refine Q2 rfl ?_)); (first | refine s_gn rfl rfl ?_ | (refine s_gy rfl ?_; (first | refine Q2 rfl ?_ | refine Q1d rfl ?_))); (first | refine s_gn rfl rfl ?_ | (refine s_gy rfl ?_; (first | refine Q2 rfl ?_ | refine Q1d rfl ?_))); (first | refine s_gn rfl rfl ?_ | (refine s_gy rfl ?_; refine zl hS ?_)); (first | refine s_gn rfl rfl ?_ | (refine s_gy rfl ?_; refine zL ?_)))
      all_goals (first | refine s_gn rfl rfl ?_ | (refine s_gy rfl ?_; (first | (refine Q12 ?_) | (refine Q15 ?_) | (refine Qq rfl rfl (fun hc => ?_) (fun hc => ?_)))))
      all_goals ((first | (refine zpt ?_) | (refine zpf ?_)); refine zm ?_; (first | refine s_gn rfl rfl ?_ | (refine s_gy rfl ?_; refine Q2 rfl ?_)); (first | refine s_gn rfl rfl ?_ | (refine s_gy rfl ?_; (first | refine Q2 rfl ?_ | refine Q1d rfl ?_))); (first | refine s_gn rfl rfl ?_ | (refine s_gy rfl ?_; (first | refine Q2 rfl ?_ | refine Q1d rfl ?_))); (first | refine s_gn rfl rfl ?_ | (refine s_gy rfl ?_; refine zl hS ?_)); (first | refine s_gn rfl rfl ?_ | (refine s_gy rfl ?_; refine zL ?_)))
      all_goals (first | refine s_gn rfl rfl ?_ | (refine s_gy rfl ?_; (first | (refine Q12 ?_) | (refine Q15 ?_) | (refine Qq rfl rfl (fun hc => ?_) (fun hc => ?_)))))
      all_goals ((first | (refine zpt ?_) | (refine zpf ?_)); refine zm ?_; (first | refine s_gn rfl rfl ?_ | (refine s_gy rfl ?_; refine Q2 rfl ?_)); (first | refine s_gn rfl rfl ?_ | (refine s_gy rfl ?_; (first | refine Q2 rfl ?_ | refine Q1d rfl ?_))); (first | refine s_gn rfl rfl ?_ | (refine s_gy rfl ?_; (first | refine Q2 rfl ?_ | refine Q1d rfl ?_))); (first | refine s_gn rfl rfl ?_ | (refine s_gy rfl ?_; refine zl hS ?_)); (first | refine s_gn rfl rfl ?_ | (refine s_gy rfl ?_; refine zL ?_)))
      all_goals (first | refine s_gn rfl rfl ?_ | (refine s_gy rfl ?_; (first | (refine Q12 ?_) | (refine Q15 ?_) | (refine Qq rfl rfl (fun hc => ?_) (fun hc => ?_)))))
      all_goals ((first | (refine zpt ?_) | (refine zpf ?_)); refine zn ?_)
      all_goals
        first
        | (refine Q3 rfl ?_ -- Q1i c4
           all_goals (refine Q0 ?_; refine Q1 ?_; refine zm ?_; refine zn ?_; refine zr ?_; refine zf ?_)
           all_goals (exact ⟨_, rfl, true, rfl, fun h => Bool.noConfusion h, hS.sp⟩))
        | (refine Q4 rfl ?_ -- Q1i c4
           all_goals refine zsk ?_)
      all_goals (refine Q0 ?_; have hlc := hc2.len; refine Q1 ?_; refine zm ?_; refine zn ?_; refine Qa ?_)
      refine zoL hS [1, 3, 4, 5, 6] (fun A LL ρ' w' => ∃ (k : Nat), Has ρ' A ∧ Has ρ' [(7, .int .i64 k)] ∧ (k ≤ x2.code.length) ∧ (x2.code.length ≤ 200) ∧ (Tys.great x2.params = false) ∧ (x2.fin.Short) ∧ (∀ f ∈ x2.code.take k, f.Short) ∧ St cx w' (LL)) (fun ρ' _ => (x2.code.length - iv (ρ' 7)).toNat) ?_ ?_
      · exact ⟨0, zh, zh, (by omega), (by omega), by assumption, ⟨⟨by omega, by omega⟩, ⟨by omega, by omega⟩, by omega⟩, by simp, hS.sp⟩
      rintro ρ w1 ⟨k, hA, hρ, hk, hl200, hg3, hfin, hd2, hS⟩; obtain ⟨ρ, rfl⟩ := env2 hA hρ
      unfold Q4N
      all_goals (refine Q0 ?_; refine Q0 ?_; refine Q1 ?_; refine zm ?_; refine Q2 rfl ?_; refine zl hS ?_; refine zL ?_; refine Qx rfl rfl ?_; refine zn ?_)
      refine Qo rfl (fun hc => ?_) (fun hc => ?_)
      · skip
        all_goals (refine zsk ?_; refine Q0 ?_; refine Qa ?_; refine Q0 ?_; refine Q1 ?_; refine Q2 rfl ?_; refine zl hS ?_; refine zm ?_; refine zi ?_; intro b3 o3 cs3 x3 hat3 hx3 he3; obtain ⟨vr3, va3, rfl, hr3, ha3⟩ := Q1J he3; (first | refine Q2 rfl ?_ | refine Q1d rfl ?_); (first | (refine zl hS ?_) | (refine zlk hS ?_) | (refine zlj hS ?_)); refine zL ?_)
        all_goals (first | (refine Q12 ?_) | (refine Q15 ?_) | (refine Qq rfl rfl (fun hc => ?_) (fun hc => ?_)))
        all_goals (refine zm ?_; (first | refine s_gn rfl rfl ?_ | (refine s_gy rfl ?_; refine Q2 rfl ?_)); (first | refine s_gn rfl rfl ?_ | (refine s_gy rfl ?_; refine zl hS ?_)); (first | refine s_gn rfl rfl ?_ | (refine s_gy rfl ?_; refine zm ?_)); (first | (refine s_gn rfl rfl ?_) | (refine s_gy rfl ?_; refine Q56 vw rfl (by assumption) rfl (by omega) ?_; intro b4 o4 cs4 x4 hat4 hx4 he4; rw [hx3] at hx4; obtain rfl : x3 = x4 := Option.some.inj hx4; obtain ⟨vr4, va4, rfl, hr4, ha4⟩ := Q1J he4)); (first | refine s_gn rfl rfl ?_ | (refine s_gy rfl ?_; (first | refine Q2 rfl ?_ | refine Q1d rfl ?_))); (first | refine s_gn rfl rfl ?_ | (refine s_gy rfl ?_; (first | (refine zl hS ?_) | (refine zlk hS ?_) | (refine zlj hS ?_)))); (first | refine s_gn rfl rfl ?_ | (refine s_gy rfl ?_; refine zL ?_)))
        all_goals (first | refine s_gn rfl rfl ?_ | (refine s_gy rfl ?_; (first | (refine Q12 ?_) | (refine Q15 ?_) | (refine Qq rfl rfl (fun hc => ?_) (fun hc => ?_)))))
        all_goals ((first | (refine zpt ?_) | (refine zpf ?_)); refine zn ?_)
        all_goals
          first
          | (refine Q3 rfl ?_ -- Q1i c6
             all_goals (refine Q0 ?_; refine Q1 ?_; refine zm ?_; refine zn ?_; refine zr ?_; refine zf ?_)
             all_goals (exact ⟨_, rfl, true, rfl, fun h => Bool.noConfusion h, hS.sp⟩))
          | (refine Q4 rfl ?_ -- Q1i c6
             all_goals refine zsk ?_)
        all_goals (refine Q1 ?_; refine zm ?_; refine zad ?_; refine zm ?_; refine zn ?_; exact ⟨⟨k + 1, zh, zh, (by omega), (by omega), by assumption, by assumption, Q5k hd2 hx3 ⟨by omega, by omega⟩, hS.sp⟩, Qr (by omega)⟩)
      · skip
        all_goals (refine zex ?_; refine Q1 ?_; refine zm ?_; refine zad ?_; refine zm ?_; refine zn ?_; exact ⟨⟨i + 1, zh, zh, (by omega), (by omega), by assumption, by assumption, Q5k hd1 hx2 ⟨Tys.Short.of_great hg3, by omega, QaF hd2 (by omega), hfin⟩, hS.sp⟩, Qr (by omega)⟩)
    · skip
      all_goals (refine zex ?_; refine Q1 ?_; refine zm ?_; refine zad ?_; refine zm ?_; refine zn ?_; exact ⟨⟨j + 1, zh, zh, (by omega), (by omega), Q5k hd hx1 ⟨Tys.Short.of_great hg1, Tys.Short.of_great hg2, by omega, QaF hd1 (by omega)⟩, hS.sp⟩, Qr (by omega)⟩)
  · skip
    all_goals (refine zex ?_; refine Q0 ?_; refine Q1 ?_; refine zm ?_; refine zn ?_; refine zr ?_; refine zf ?_)
    all_goals (first | (exact ⟨_, rfl, true, rfl, fun h => Bool.noConfusion h, hS.sp⟩) | (have h1 : l.length ≤ 100000 := (by omega); exact ⟨_, rfl, false, rfl, fun _ => ⟨h1, QaF (l := l) hd (by omega)⟩, hS.sp⟩))
end Go.Proofs.YtanlkfeogoganaaGreat
