/- Lemmas of the proof, part 3: what the functions of the program do (contracts), and what follows. -/
import Derived.Test.YtanlkfeogoganaaGreatZ2
import Derived.Test.YtanlkfeogoganaaGreatProg
import Derived.Test.YtanlkfeogoganaaGreatZ1
namespace Go.Proofs.YtanlkfeogoganaaGreat
open Go.Lir
set_option maxHeartbeats 1000000
attribute [local irreducible] LC.wp Q5 Q11 Q1f retQ Q2h LO.wp QD Calls
set_option linter.unusedSimpArgs false
set_option linter.unusedVariables false
attribute [local irreducible] hasB Q21 Q1N Q1Q
variable {cx : Cx} {w : World} {L : List Res}
def QoO (hp : Nat) (h : List Bool) : Res := Res.ex fun v => star (blk hp 124 [v]) (sl 4 1 v (h.map QL))
theorem Q4L {hp : Nat} {h : List Bool} (hS : St cx w (QoO hp h :: L)) : ∃ v, St cx w (blk hp 124 [v] :: sl 4 1 v (h.map QL) :: L) := by
  obtain ⟨v, hS⟩ := St.ex hS
  exact ⟨v, hS.star⟩
theorem Q40 {hp : Nat} {h : List Bool} {v : Value} (hS : St cx w (blk hp 124 [v] :: sl 4 1 v (h.map QL) :: L)) : St cx w (QoO hp h :: L) := St.ex' v hS.star'
theorem has_u {hp : Nat} {h : List Bool} {v : Value} {r : Int} (hS : St cx w (blk hp 124 [v] :: sl 4 1 v (h.map QL) :: L)) :
    Rets Tryz.prog Q5l [.pointer (some ⟨hp, 0, none⟩), .int .i64 r] w fun u w' => u = .bool (hasB h r) ∧ St cx w' (blk hp 124 [v] :: sl 4 1 v (h.map QL) :: L) := by
  have hlen : (h.map QL).length = h.length := List.length_map _
  all_goals refine Qf7 ?_
  all_goals (unfold held_Held_Has_lc; refine Q0 ?_; refine Q2 ?_; refine zm ?_; refine zn ?_; refine Q0 ?_; refine Q2 ?_; refine zm ?_)
  all_goals (first | (refine Q3t ?_) | (refine Q3u ?_) | (refine Q1F rfl rfl (fun hc => ?_) (fun hc => ?_)))
  all_goals (refine zm ?_; (first | refine s_gn rfl rfl ?_ | (refine s_gy rfl ?_; refine zm ?_)); (first | refine s_gn rfl rfl ?_ | (refine s_gy rfl ?_; refine zm ?_)); (first | refine s_gn rfl rfl ?_ | (refine s_gy rfl ?_; refine Qk rfl ?_)); (first | refine s_gn rfl rfl ?_ | (refine s_gy rfl ?_; refine Q1 rfl ?_)); (first | refine s_gn rfl rfl ?_ | (refine s_gy rfl ?_; (first | (refine Q29 hS hel1 rfl nth1 (Q2i QL h false (by omega)) rfl ?_) | (refine zl hS ?_)))); (first | refine s_gn rfl rfl ?_ | (refine s_gy rfl ?_; (first | (refine zL ?_) | (refine zLe hS ?_)))))
  all_goals (first | refine s_gn rfl rfl ?_ | (refine s_gy rfl ?_; (first | (refine Q1V ?_) | (refine Q1W ?_) | (refine QG rfl rfl (fun hc => ?_) (fun hc => ?_)))))
  all_goals ((first | (refine zpt ?_) | (refine zpf ?_)); refine zm ?_; (first | refine s_gn rfl rfl ?_ | (refine s_gy rfl ?_; refine zm ?_)); (first | refine s_gn rfl rfl ?_ | (refine s_gy rfl ?_; refine Qk rfl ?_)); (first | refine s_gn rfl rfl ?_ | (refine s_gy rfl ?_; refine Q1 rfl ?_)); (first | refine s_gn rfl rfl ?_ | (refine s_gy rfl ?_; (first | (refine Q29 hS hel1 rfl nth1 (Q2i QL h false (by omega)) rfl ?_) | (refine zl hS ?_)))); (first | refine s_gn rfl rfl ?_ | (refine s_gy rfl ?_; refine zm ?_)); (first | refine s_gn rfl rfl ?_ | (refine s_gy rfl ?_; (first | ((first | refine zi ?_ | refine zj ?_); intro b1 o1 cs1 x1 hat1 hx1 he1; obtain rfl := QJ he1) | (refine zie hS ?_; intro b1 o1 hel1) | (refine zij hS ?_; intro b1 o1 hel1)))); (first | refine s_gn rfl rfl ?_ | (refine s_gy rfl ?_; (first | (refine Q29 hS hel1 rfl nth1 (Q2i QL h false (by omega)) rfl ?_) | (refine zl hS ?_) | (refine zlk hS ?_) | (refine zlj hS ?_) | (refine zli hS ?_) | (refine zlb hS ?_)))); (first | (refine zpt ?_) | (refine zpf ?_)); refine zm ?_; refine zn ?_; refine zr ?_; refine zf ?_; (first | (refine ⟨_, rfl, ?_, hS.sp⟩; unfold hasB; simp [*]; omega; done) | (refine ⟨_, rfl, ?_, hS.sp⟩; unfold hasB; simp [*]; done)))
theorem len_u {hp : Nat} {h : List Bool} {v : Value} (hS : St cx w (blk hp 124 [v] :: sl 4 1 v (h.map QL) :: L)) :
    Rets Tryz.prog Q5k [.pointer (some ⟨hp, 0, none⟩)] w fun u w' => u = .int .i64 h.length ∧ St cx w' (blk hp 124 [v] :: sl 4 1 v (h.map QL) :: L) := by
  have hlen : (h.map QL).length = h.length := List.length_map _
  all_goals refine Qf4 ?_
  all_goals (unfold held_Held_Len_lc; refine Q0 ?_; refine Q2 ?_; refine zm ?_; refine zn ?_; refine Q0 ?_; refine Q2 ?_; refine zm ?_; refine Qk rfl ?_; refine Q1 rfl ?_; refine zl hS ?_; (first | (refine zL ?_) | (refine zLe hS ?_)); refine zm ?_; refine zn ?_; refine zr ?_; refine zf ?_; refine ⟨_, rfl, ?_, hS.sp⟩; (rfl); done)
theorem list_u {hp : Nat} {h : List Bool} {v : Value} (hl : h.length ≤ 16) (hS : St cx w (blk hp 124 [v] :: sl 4 1 v (h.map QL) :: L)) :
    Rets Tryz.prog Q4z [.pointer (some ⟨hp, 0, none⟩)] w fun u w' => ∃ c', cx.Le c' ∧ intR.sl c' u (Q21 h) ∧ St c' w' (blk hp 124 [v] :: sl 4 1 v (h.map QL) :: L) := by
  have hlen : (h.map QL).length = h.length := List.length_map _
  all_goals refine Qcq ?_
  all_goals (unfold held_Held_List_lc; refine Q0 ?_; refine Q2 ?_; refine zm ?_; refine zn ?_; refine Q0 ?_; refine Q2 ?_; refine zm ?_; refine zn ?_; refine Q0 ?_; refine Q0 ?_; refine Q2 ?_; refine zm ?_; refine Qk rfl ?_; refine Q1 rfl ?_; (first | (refine Q29 hS (by assumption) rfl nth2 (Q2i QL h false (by omega)) rfl ?_) | (refine zl hS ?_)); (first | (refine zL ?_) | (refine zLe hS ?_)); refine zm ?_; refine zn ?_; refine Qa ?_; have hS := St.nil (T := 3) (es := 1) hS)
  refine zo [9, 10] (fun A ρ' w' => ∃ (j : Nat) (vo : Value) (co : List (List Value)), Has ρ' A ∧ Has ρ' [(11, .int .i64 j), (3, vo)] ∧ (j ≤ h.length) ∧ (intR.ls cx co (Q1Q h j)) ∧ St cx w' (sl 3 1 vo co :: blk hp 124 [v] :: sl 4 1 v (h.map QL) :: L)) (fun ρ' _ => (h.length - iv (ρ' 11)).toNat) ?_ ?_
  · exact ⟨0, _, [], zh, zh, (by omega), by unfold Q1Q; exact Rep.LR.nil _ _ _, hS.sp⟩
  rintro ρ w1 ⟨j, vo, co, hA, hρ, hj, hls, hS⟩; obtain ⟨ρ, rfl⟩ := env2 hA hρ; have hll := Qct h j; have hsu := Q5m h j
  unfold Q4N
  all_goals (refine Q0 ?_; refine Q2 ?_; refine Qr rfl rfl ?_; refine zn ?_; refine Q0 ?_)
  refine Qn rfl (fun hc => ?_) (fun hc => ?_)
  · skip
    all_goals (refine zsk ?_; refine Q0 ?_; refine Qa ?_; refine Q0 ?_; refine Q2 ?_; refine zm ?_; (first | ((first | refine zi ?_ | refine zj ?_); intro b1 o1 cs1 x1 hat1 hx1 he1; obtain rfl := QJ he1) | (refine zie hS ?_; intro b1 o1 hel1)); (first | (refine Q29 hS (by assumption) rfl nth2 (Q2i QL h false (by omega)) rfl ?_) | (refine zl hS ?_) | (refine zlk hS ?_) | (refine zlj hS ?_) | (refine zli hS ?_) | (refine zlb hS ?_)); refine zm ?_; refine zm ?_; refine zn ?_; refine Q0 ?_; refine Q2 ?_; refine zm ?_; refine zn ?_)
    refine Qhw rfl (fun hc => ?_) (fun hc => ?_)
    · skip
      all_goals (refine Q2 ?_; refine zm ?_; refine zm ?_; refine zB1 hS [_] ?_; intro b1 w1 hS; refine za Q7D Qoj hS ?_; intro vp1 w1 css1 hls1 hv1 hS; have hS := hS.ns; refine zm ?_; refine zn ?_; refine Q2 ?_; refine zad ?_; refine zm ?_; refine zn ?_; exact ⟨⟨j + 1, _, _, zh, zh, (by omega), by rw [hsu, if_pos (by assumption)]; exact hls1, hS.sp⟩, Qo (by omega)⟩)
    · skip
      all_goals (refine zsk ?_; refine Q2 ?_; refine zad ?_; refine zm ?_; refine zn ?_; (first | (exact ⟨⟨j + 1, _, _, zh, zh, (by omega), by rw [hsu, if_pos (by assumption)]; exact hls1, hS.sp⟩, Qo (by omega)⟩) | (exact ⟨⟨j + 1, _, _, zh, zh, (by omega), by rw [hsu, if_neg (by rw [hc]; decide), List.append_nil]; exact hls, hS.sp⟩, Qo (by omega)⟩)))
  · skip
    all_goals (refine zex ?_; refine Q0 ?_; refine Q2 ?_; refine zm ?_; refine zm ?_; refine zn ?_; refine zr ?_; refine zf ?_; refine ⟨_, rfl, ?_⟩; obtain ⟨c', hle, hS', hk⟩ := St.freezeL (r := intR) hS hls rfl (by omega); refine ⟨c', hle, ?_, hS'⟩; rw [show j = h.length by omega] at hk; unfold Q21; exact hk)
theorem open_u {hp : Nat} {h : List Bool} {v : Value} (hl : h.length < 16) (hS : St cx w (blk hp 124 [v] :: sl 4 1 v (h.map QL) :: L)) :
    Rets Tryz.prog Q4y [.pointer (some ⟨hp, 0, none⟩)] w fun u w' => u = .int .i64 h.length ∧ ∃ v', St cx w' (blk hp 124 [v'] :: sl 4 1 v' ((h ++ [true]).map QL) :: L) := by
  have hlen : (h.map QL).length = h.length := List.length_map _
  all_goals refine Qcg ?_
  all_goals (unfold held_Held_Open_lc; refine Q0 ?_; refine Q2 ?_; refine zm ?_; refine zn ?_; refine Q0 ?_; refine Q0 ?_; refine Q2 ?_; refine zm ?_; refine Qk rfl ?_; refine Q1 rfl ?_; refine zl hS ?_; (first | (refine zL ?_) | (refine zLe hS ?_)))
  all_goals (first | (refine Qw ?_) | (refine Qy ?_))
  all_goals (refine zn ?_)
  all_goals refine Q4 rfl ?_
  all_goals (refine zsk ?_; refine Q0 ?_; refine Q2 ?_; refine zm ?_; refine zm ?_; refine Qk rfl ?_; refine Q1 rfl ?_; refine zl hS ?_; refine zB1 hS [_] ?_; intro b1 w1 hS; refine QnY QrW (.inl u_T70) hS vw vw fd (hS.srcB1 fd rfl) (by simp; omega) ?_; intro vp w2 hS; have hS := hS.ns; rw [show h.map QL ++ [[Value.bool true]] = (h ++ [true]).map QL by simp [QL]] at hS; refine Qk rfl ?_; refine Q1 rfl ?_; refine zst hS ?_; intro w1 hS; have hS := hS.ns; refine zn ?_; refine Q0 ?_; have hlen1 : (h ++ [true]).length = h.length + 1 := (by simp); refine Q2 ?_; refine zm ?_; refine Qk rfl ?_; refine Q1 rfl ?_; refine zl hS ?_; (first | (refine zL ?_) | (refine zLe hS ?_)); refine zsu ?_)
  all_goals (refine zm ?_; refine zn ?_; refine zr ?_; refine zf ?_; exact ⟨_, rfl, (by congr 1; omega), _, hS.sp⟩)
theorem shut_u {hp : Nat} {h : List Bool} {v : Value} {r : Int} (hr : hasB h r = true) (hS : St cx w (blk hp 124 [v] :: sl 4 1 v (h.map QL) :: L)) :
    Rets Tryz.prog Q4x [.pointer (some ⟨hp, 0, none⟩), .int .i64 r] w fun u w' => u = .bool true ∧ St cx w' (blk hp 124 [v] :: sl 4 1 v ((h.set r.toNat false).map QL) :: L) := by
  have hlen : (h.map QL).length = h.length := List.length_map _
  have hr' := Q6H hr
  all_goals refine QbZ ?_
  all_goals (unfold held_Held_Shut_lc; refine Q0 ?_; refine Q2 ?_; refine zm ?_; refine zn ?_; refine Q0 ?_; refine Q2 ?_; refine zm ?_; refine zm ?_; refine Qeu rfl (has_u hS) ?_; rintro v1 w1 ⟨rfl, hS⟩; rw [hr]; refine zm ?_; refine zn ?_; refine Q0 ?_; refine Q0 ?_; refine Q2 ?_; refine zm ?_; refine zn ?_)
  all_goals refine Q3 rfl ?_
  all_goals (refine Q2 ?_; refine zm ?_; refine Qk rfl ?_; refine Q1 rfl ?_; refine zl hS ?_; refine zm ?_; (first | ((first | refine zi ?_ | refine zj ?_); intro b1 o1 cs1 x1 hat1 hx1 he1; obtain rfl := QJ he1) | (refine zie hS ?_; intro b1 o1 hel1) | (refine zij hS ?_; intro b1 o1 hel1)); (first | (refine Qgm hS hel1 rfl vw nth1 (Q2i QL h false (by omega)) rfl rfl ?_; intro w2 hS; have hS := hS.ns; rw [show (QL (h.getD r.toNat false)).set 0 (Value.bool false) = QL false from rfl, map_set] at hS) | (refine zst hS ?_; intro w1 hS; have hS := hS.ns) | (refine zsi hS ?_; intro w1 hS; have hS := hS.ns) | (refine zsb hS ?_; intro w1 hS; have hS := hS.ns)); refine zn ?_; refine Q0 ?_; refine Q2 ?_; refine zm ?_; refine zm ?_; refine zn ?_; refine zr ?_; refine zf ?_; refine ⟨_, rfl, ?_, hS.sp⟩; (rfl); done)
theorem pass_u {hp : Nat} {h : List Bool} {v v2 : Value} {xs : List Int} (hl : h.length ≤ 16) (hx : intR.sl cx v2 xs) (hS : St cx w (blk hp 124 [v] :: sl 4 1 v (h.map QL) :: L)) :
    Rets Tryz.prog Q2H [.pointer (some ⟨hp, 0, none⟩), v2] w fun u w' => u = .int .i64 (Q1N h [] xs) ∧ ∃ c', cx.Le c' ∧ St c' w' (blk hp 124 [v] :: sl 4 1 v (h.map QL) :: L) := by
  have hlen : (h.map QL).length = h.length := List.length_map _
  have hxl := hx.len
  all_goals refine Qca ?_
  all_goals (unfold held_Held_Pass_lc; refine Q0 ?_; refine Q2 ?_; refine zm ?_; refine zn ?_; refine Q0 ?_; refine Q2 ?_; refine zm ?_; refine Qk rfl ?_; refine Q1 rfl ?_; (first | (refine Q29 hS hel2 rfl fd hgetS rfl ?_) | (refine zl hS ?_)); (first | (refine zL ?_) | (refine zLe hS ?_)); refine s_makeE QrW hS rfl rfl (by omega) (by omega) ?_; intro v5 w1 hS; rw [Int.toNat_natCast] at hS; refine zm ?_; refine zn ?_; refine Q0 ?_; refine Q0 ?_; have hS : St cx _ (sl 4 1 v5 ((Q7M h []).map QL) :: blk hp 124 [v] :: sl 4 1 v (h.map QL) :: L) := (by rw [Qwt, List.map_replicate]; exact hS); refine Q2 ?_; refine zm ?_; refine zL ?_; refine zm ?_; refine zn ?_; refine Qa ?_)
  refine zo [0, 1, 5, 14, 15] (fun A ρ' w' => ∃ (j : Nat), Has ρ' A ∧ Has ρ' [(16, .int .i64 j)] ∧ (j ≤ xs.length) ∧ (Q1N h [] xs = Q1N h (xs.take j) (xs.drop j)) ∧ St cx w' (sl 4 1 v5 ((Q7M h (xs.take j)).map QL) :: blk hp 124 [v] :: sl 4 1 v (h.map QL) :: L)) (fun ρ' _ => (xs.length - iv (ρ' 16)).toNat) ?_ ?_
  · exact ⟨0, zh, zh, (by omega), by rfl, hS.sp⟩
  rintro ρ w1 ⟨j, hA, hρ, hj, hgo, hS⟩; obtain ⟨ρ, rfl⟩ := env2 hA hρ; have hln := Qwu h (xs.take j); have hlm : ((Q7M h (xs.take j)).map QL).length = h.length := (by rw [List.length_map, hln])
  unfold Q4M
  all_goals (refine Q0 ?_; refine Q2 ?_; refine Qr rfl rfl ?_; refine zn ?_; refine Q0 ?_)
  refine Qn rfl (fun hc => ?_) (fun hc => ?_)
  · skip
    all_goals (refine zsk ?_; refine Q0 ?_; refine Qa ?_; refine Q0 ?_; refine Q2 ?_; refine zi ?_; intro b1 o1 cs1 x1 hat1 hx1 he1; obtain rfl := QJ he1; (first | (refine Q29 hS hel2 rfl fd hgetS rfl ?_) | (refine zl hS ?_) | (refine zlk hS ?_)); refine zm ?_; refine zn ?_; refine Q0 ?_; refine Q0 ?_; rw [Q7 hx1, Q1N] at hgo; refine Q2 ?_; refine zm ?_; refine zm ?_; refine Qeu rfl (has_u (L := sl 4 1 v5 ((Q7M h (xs.take j)).map QL) :: L) hS.sp) ?_; rintro v1 w1 ⟨rfl, hS⟩; refine Q1o rfl ?_; refine zn ?_)
    refine Qhw rfl (fun hc => ?_) (fun hc => ?_)
    · skip
      all_goals (refine Q0 ?_; refine Q2 ?_; refine zm ?_; refine zn ?_; refine zr ?_; refine zf ?_; exact ⟨_, rfl, (by rw [hgo, if_neg (by simpa using hc)]), cx, St.refl hS, hS.sp⟩)
    · skip
      all_goals (have hc1 : hasB h x1 = true := (by simpa using hc); have hr := Q6H hc1; rw [if_pos hc1] at hgo; have hsg : (Q7M h (xs.take j)).getD x1.toNat false = decide (x1 ∈ xs.take j) := Qwv (by omega) (by omega); have hgetS := Q2i QL (Q7M h (xs.take j)) false (m := x1.toNat) (by omega); refine zsk ?_; refine Q0 ?_; refine Q0 ?_; refine Q2 ?_; refine zm ?_; refine zm ?_; (first | ((first | refine zi ?_ | refine zj ?_); intro b2 o2 cs2 x2 hat2 hx2 he2; obtain rfl := QJ he2) | (refine zie hS ?_; intro b2 o2 hel2) | (refine zij hS ?_; intro b2 o2 hel2)); (first | (refine Q29 hS hel2 rfl fd hgetS rfl ?_) | (refine zl hS ?_) | (refine zlk hS ?_) | (refine zlj hS ?_) | (refine zli hS ?_) | (refine zlb hS ?_)); refine zn ?_)
      refine Qhw rfl (fun hc => ?_) (fun hc => ?_)
      · skip
        all_goals (have hc2 : x1 ∈ xs.take j := (by rw [hsg] at hc; exact of_decide_eq_true hc); rw [if_pos hc2] at hgo; refine Q0 ?_; refine Q2 ?_; refine zm ?_; refine zn ?_; refine zr ?_; refine zf ?_; (first | (exact ⟨_, rfl, (by rw [hgo, if_neg (by simpa using hc)]), cx, St.refl hS, hS.sp⟩) | (exact ⟨_, rfl, hgo ▸ rfl, cx, St.refl hS, hS.sp⟩)))
      · skip
        all_goals (have hc2 : x1 ∉ xs.take j := (by rw [hsg] at hc; exact of_decide_eq_false hc); rw [if_neg hc2] at hgo; refine zsk ?_; refine Q2 ?_; refine zm ?_; refine zm ?_; (first | ((first | refine zi ?_ | refine zj ?_); intro b3 o3 cs3 x3 hat3 hx3 he3; obtain rfl := QJ he3) | (refine zie hS ?_; intro b3 o3 hel3) | (refine zij hS ?_; intro b3 o3 hel3)); (first | (refine zst hS ?_; intro w1 hS; have hS := hS.ns) | (refine zsi hS ?_; intro w1 hS; have hS := hS.ns) | (refine zsb hS ?_; intro w1 hS; have hS := hS.ns)); refine zn ?_; refine Q2 ?_; refine zad ?_; refine zm ?_; refine zn ?_; exact ⟨⟨j + 1, zh, zh, (by omega), by rw [hgo, Q1m hx1], by rw [Q1m hx1, ← Qws hr.1]; exact hS.sp⟩, Qo (by omega)⟩)
  · skip
    all_goals (refine zex ?_; refine Q0 ?_; refine Q0 ?_; have hie : j = xs.length := (by omega); subst hie; rw [List.take_length, List.drop_length, Q1N] at hgo; refine Q2 ?_; refine zm ?_; refine zL ?_; refine zm ?_; refine Qeu rfl (list_u (L := L) hl hS.sp) ?_; rintro v5 w5 ⟨c5, hle5, hk5, hS⟩; refine zL ?_)
    all_goals (first | (refine Q1V ?_) | (refine Q1W ?_) | (refine QG rfl rfl (fun hc => ?_) (fun hc => ?_)))
    all_goals (refine zn ?_)
    all_goals
      first
      | (refine Q3 rfl ?_ -- Q2H c3
         all_goals (refine Q0 ?_; refine Q2 ?_; refine zm ?_; refine zn ?_; refine zr ?_; refine zf ?_)
         all_goals (first | (exact ⟨_, rfl, (by rw [hgo, if_neg (by simpa using hc)]), cx, St.refl hS, hS.sp⟩) | (exact ⟨_, rfl, hgo ▸ rfl, cx, St.refl hS, hS.sp⟩) | (exact ⟨_, rfl, (by rw [hgo, if_pos (by omega)]), c5, hle5, hS.sp⟩)))
      | (refine Q4 rfl ?_ -- Q2H c3
         all_goals refine zsk ?_)
    all_goals (refine Q0 ?_; refine Q2 ?_; refine zm ?_; refine zn ?_; refine zr ?_; refine zf ?_; (first | (exact ⟨_, rfl, (by rw [hgo, if_neg (by simpa using hc)]), cx, St.refl hS, hS.sp⟩) | (exact ⟨_, rfl, hgo ▸ rfl, cx, St.refl hS, hS.sp⟩) | (exact ⟨_, rfl, (by rw [hgo, if_pos (by omega)]), c5, hle5, hS.sp⟩) | (exact ⟨_, rfl, (by rw [hgo, if_neg (by omega)]), c5, hle5, hS.sp⟩)))
theorem new_u {n : Int} (hS : St cx w L) : Rets Tryz.prog Qvo [.int .i64 n] w fun u w' => ∃ hp v, u = .pointer (some ⟨hp, 0, none⟩) ∧ St cx w' (blk hp 124 [v] :: sl 4 1 v ((List.replicate (min n 16).toNat true).map QL) :: L) := by
  all_goals refine QtY ?_
  all_goals (unfold held_New_lc; refine Q0 ?_; refine Q2 ?_; refine zm ?_; refine zn ?_; refine Q0 ?_; refine Q2 ?_; refine zb0 [_] ?_; refine zb hS ?_; intro p5 w1 hS; refine zm ?_; refine zn ?_; refine Q0 ?_; refine Q0 ?_; refine Q2 ?_; refine zm ?_; refine s_min rfl rfl ?_; refine zm ?_; refine zn ?_; refine Qa ?_; have hS := St.nil (T := 4) (es := 1) hS)
  refine zo [3, 7] (fun A ρ' w' => ∃ (j : Nat) (v : Value), Has ρ' A ∧ Has ρ' [(8, .int .i64 j)] ∧ (j ≤ (min n 16).toNat) ∧ St cx w' (sl 4 1 v ((List.replicate j true).map QL) :: blk p5 124 [v] :: L)) (fun ρ' _ => (min n 16 - iv (ρ' 8)).toNat) ?_ ?_
  · exact ⟨0, _, zh, zh, (by omega), hS.sp⟩
  rintro ρ w1 ⟨j, v, hA, hρ, hj, hS⟩; obtain ⟨ρ, rfl⟩ := env2 hA hρ
  unfold QhZ
  all_goals (refine Q0 ?_; refine Q2 ?_; refine Qr rfl rfl ?_; refine zn ?_; refine Q0 ?_)
  refine Qn rfl (fun hc => ?_) (fun hc => ?_)
  · skip
    all_goals (refine zsk ?_; refine Q0 ?_; refine Qa ?_; refine Q2 ?_; refine zm ?_; refine zm ?_; refine Qk rfl ?_; refine Q1 rfl ?_; refine zl hS ?_; refine zB1 hS [_] ?_; intro b1 w1 hS; refine QnY QrW (.inl u_T70) hS vw vw fd (hS.srcB1 fd rfl) (by simp; omega) ?_; intro vp w2 hS; have hS := hS.ns; rw [show (List.replicate j true).map QL ++ [[Value.bool true]] = (List.replicate (j + 1) true).map QL by rw [List.replicate_succ', List.map_append]; rfl] at hS; refine Qk rfl ?_; refine Q1 rfl ?_; refine zst hS ?_; intro w1 hS; have hS := hS.ns; refine zn ?_; refine Q2 ?_; refine zad ?_; refine zm ?_; refine zn ?_; exact ⟨⟨j + 1, _, zh, zh, (by omega), hS.sp⟩, Qo (by omega)⟩)
  · skip
    all_goals (refine zex ?_; refine Q0 ?_; refine Q2 ?_; refine zm ?_; refine zm ?_; refine zn ?_; refine zr ?_; refine zf ?_; exact ⟨_, rfl, _, v, rfl, (by rw [show (min n 16).toNat = j by omega]; exact hS.sp)⟩)
end Go.Proofs.YtanlkfeogoganaaGreat
namespace Go.Proofs.YtanlkfeogoganaaGreat
open Go.Lir
set_option maxRecDepth 100000

/- 7 -/
def Qgi : List GO := [qb 1 24 0, qk 2 (.bool false)]
def Qgh : List GO := [qf 8 1 0, ql 9 8, qL 10 9, qj 11 .gtr 3 10 20]
def Qgg : List GO := [qk 2 (.bool true)]
def Qgf : List GO := [qk 3 (vi 0)]
def Qge : List GO := [qm 12 3, qf 13 1 0, ql 14 13, qL 15 14, qt 16 .lss 3 12 15]
def Qgd : List GO := [qf 19 1 0, ql 20 19, qm 21 3, qi 22 4 20 21, qV 23 4 22, ⟨none, .alloc 4 53 [(vi 0), vn, vn, vn]⟩, qw 4 4 23]
def Qgc : List GO := [qf 24 4 3, ql 25 24, qL 26 25, qj 27 .gtr 3 26 30, qm 28 27, qg 28 false (qf 29 4 1), qg 28 false (ql 30 29), ⟨some (28, false), .call (some 31) 37 [(.tmp 30)]⟩, ⟨none, .pick 32 (.tmp 28) (.const (.bool true)) (.tmp 31)⟩, qm 33 32, qg 33 false (qf 34 4 2), qg 33 false (ql 35 34), ⟨some (33, false), .call (some 36) 37 [(.tmp 35)]⟩, ⟨none, .pick 37 (.tmp 33) (.const (.bool true)) (.tmp 36)⟩]
def Qgb : List GO := [qk 2 (.bool true)]
def Qga : List GO := [qk 5 (vi 0)]
def Qg9 : List GO := [qm 38 5, qf 39 4 3, ql 40 39, qL 41 40, qt 42 .lss 3 38 41]
def Qer : List GO := [qf 45 4 3, ql 46 45, qm 47 5, qi 48 12 46 47, qV 49 12 48, ⟨none, .alloc 6 79 [(vi 0), vn, vn, (vi 0), (vi 0), (vi 0), vn, vn, (vi 0), vn, vn, vn]⟩, qw 12 6 49]
def Qeq : List GO := [qf 50 6 2, ql 51 50, qL 52 51, qj 53 .gtr 3 52 200, qm 54 53, qg 54 false (qf 55 6 1), qg 54 false (ql 56 55), ⟨some (54, false), .call (some 57) 37 [(.tmp 56)]⟩, ⟨none, .pick 58 (.tmp 54) (.const (.bool true)) (.tmp 57)⟩, qm 59 58, qg 59 false (qf 60 6 3), qg 59 false (qf 61 60 8), qg 59 false (ql 62 61), qg 59 false (qL 63 62), qg 59 false (qj 64 .gtr 3 63 300), ⟨none, .pick 65 (.tmp 59) (.const (.bool true)) (.tmp 64)⟩, qm 66 65, qg 66 false (qf 67 6 3), qg 66 false (qf 68 67 2), qg 66 false (qf 69 68 1), qg 66 false (ql 70 69), qg 66 false (qL 71 70), qg 66 false (qj 72 .gtr 3 71 300), ⟨none, .pick 73 (.tmp 66) (.const (.bool true)) (.tmp 72)⟩, qm 74 73, qg 74 false (qf 75 6 3), qg 74 false (qf 76 75 2), qg 74 false (qf 77 76 2), qg 74 false (ql 78 77), qg 74 false (qL 79 78), qg 74 false (qj 80 .gtr 3 79 300), ⟨none, .pick 81 (.tmp 74) (.const (.bool true)) (.tmp 80)⟩, qm 82 81, qg 82 false (qf 83 6 3), qg 82 false (qf 84 83 5), qg 82 false (qf 85 84 1), qg 82 false (ql 86 85), qg 82 false (qL 87 86), qg 82 false (qj 88 .gtr 3 87 300), ⟨none, .pick 89 (.tmp 82) (.const (.bool true)) (.tmp 88)⟩, qm 90 89, qg 90 false (qf 91 6 3), qg 90 false (qf 92 91 5), qg 90 false (qf 93 92 2), qg 90 false (ql 94 93), qg 90 false (qL 95 94), qg 90 false (qj 96 .gtr 3 95 300), ⟨none, .pick 97 (.tmp 90) (.const (.bool true)) (.tmp 96)⟩]
def Qep : List GO := [qk 2 (.bool true)]
def Qeo : List GO := [qk 7 (vi 0)]
def Qen : List GO := [qm 98 7, qf 99 6 2, ql 100 99, qL 101 100, qt 102 .lss 3 98 101]
def Qem : List GO := [qf 105 6 2, ql 106 105, qm 107 7, qi 108 8 106 107, qf 109 108 6, ql 110 109, qL 111 110, qj 112 .gtr 3 111 300, qm 113 112, qg 113 false (qf 114 6 2), qg 113 false (ql 115 114), qg 113 false (qm 116 7), qg 113 false (qi 117 8 115 116), qg 113 false (qf 118 117 7), qg 113 false (ql 119 118), qg 113 false (qL 120 119), qg 113 false (qj 121 .gtr 3 120 300), ⟨none, .pick 122 (.tmp 113) (.const (.bool true)) (.tmp 121)⟩]
def Qel : List GO := [qk 2 (.bool true)]
def Qek : List GO := [qm 103 7, qj 104 .add 3 103 1, qm 7 104]
def Q4V : LC := (.seq (.seq (.ops Qen) (.cond (.tmp 102) .skip (.exit 4))) (.seq (.block 5 (.seq (.ops Qem) (.cond (.tmp 122) (.seq (.ops Qel) .ret) .skip))) (.ops Qek)))
def Qej : List GO := [qm 43 5, qj 44 .add 3 43 1, qm 5 44]
def Q5F : LC := (.seq (.seq (.ops Qg9) (.cond (.tmp 42) .skip (.exit 2))) (.seq (.block 3 (.seq (.ops Qer) (.seq (.seq (.ops Qeq) (.cond (.tmp 97) (.seq (.ops Qep) .ret) .skip)) (.seq (.ops Qeo) (.block 4 (.loop Q4V)))))) (.ops Qej)))
def Qei : List GO := [qm 17 3, qj 18 .add 3 17 1, qm 3 18]
def Q5G : LC := (.seq (.seq (.ops Qge) (.cond (.tmp 16) .skip (.exit 0))) (.seq (.block 1 (.seq (.ops Qgd) (.seq (.seq (.ops Qgc) (.cond (.tmp 37) (.seq (.ops Qgb) .ret) .skip)) (.seq (.ops Qga) (.block 2 (.loop Q5F)))))) (.ops Qei)))
def Qeh : List GO := [qk 2 (.bool false)]
def R_GreatModule_lc : LC := (.seq (.ops Qgi) (.seq (.seq (.ops Qgh) (.cond (.tmp 11) (.seq (.ops Qgg) .ret) .skip)) (.seq (.seq (.ops Qgf) (.block 0 (.loop Q5G))) (.seq (.ops Qeh) .ret))))
@[reducible] def Q1l : FuncId := 7
theorem Qes : lowF Tryz.prog Tryz.f7 = some R_GreatModule_lc := by kernel_rfl
theorem Qgj {a0 : Value} {w : World} {R : Ending → World → Prop} (h : R_GreatModule_lc.wp Tryz.prog (retQ Tryz.prog [.tmp 2] R) (Qh [a0]) w) : Calls Tryz.prog Q1l ⟨[a0]⟩ w R :=
  Q6 Tryz.func7 Qes (by kernel_rfl) (by kernel_rfl) h

/- 68 -/
def Qul : List GO := [qb 2 24 0, qb 3 57 1, qk 4 (vi 0)]
def Quk : List GO := [qV 6 1 2, ⟨none, .build 7 [vn, (vi 0), (vi 0), (vi 0)] [(0, (1, (.tmp 6)))]⟩, qb 8 134 7, qm 5 8]
def Quj : List GO := [qm 9 5, qV 10 8 3, ⟨none, .call (some 11) 117 [(.tmp 9), (.tmp 10)]⟩]
def Qui : List GO := [qm 12 5, qn 13 12, qf 14 13 1, qf 15 14 0, ql 16 15, qm 4 16]
def code_Ins_lc : LC := (.seq (.ops Qul) (.seq (.ops Quk) (.seq (.ops Quj) (.seq (.ops Qui) .ret))))
@[reducible] def Qvw : FuncId := 68
theorem Qsh : lowF Tryz.prog Tryz.f68 = some code_Ins_lc := by kernel_rfl
theorem Qum {a0 a1 : Value} {w : World} {R : Ending → World → Prop} (h : code_Ins_lc.wp Tryz.prog (retQ Tryz.prog [.tmp 4] R) (Qh [a0, a1]) w) : Calls Tryz.prog Qvw ⟨[a0, a1]⟩ w R :=
  Q6 Tryz.func68 Qsh (by kernel_rfl) (by kernel_rfl) h

/- 72 -/
def Qt0 : List GO := [qb 2 24 0, qb 3 57 1, qk 4 (vi 0)]
def QsZ : List GO := [qf 8 3 0, ql 9 8, ⟨none, .call (some 10) 99 [(.tmp 9)]⟩, qm 7 10, qx 11 7 0, qx 12 7 1, ⟨none, .alloc 5 144 [(.bool false), (.bool false), (.bool false), (.bool false), (.bool false), (.bool false), (.bool false)]⟩, qw 7 5 11, qm 6 12]
def QsY : List GO := [qm 13 6, ⟨none, .un 14 .not (.tmp 13)⟩]
def QsX : List GO := [qk 4 (vi 3)]
def QsW : List GO := [qf 15 5 0, ql 16 15, ⟨none, .un 17 .not (.tmp 16)⟩, qm 18 17, qg 18 true (qf 19 3 1), qg 18 true (ql 20 19), qg 18 true (qj 21 .neq 3 20 0), ⟨none, .pick 22 (.tmp 18) (.tmp 21) (.const (.bool false))⟩, qm 23 22, qg 23 false (qf 24 5 1), qg 23 false (ql 25 24), ⟨some (23, false), .un 26 .not (.tmp 25)⟩, qg 23 false (qm 27 26), qg 27 true (qf 28 3 2), qg 27 true (ql 29 28), qg 27 true (qj 30 .neq 3 29 0), ⟨some (23, false), .pick 31 (.tmp 27) (.tmp 30) (.const (.bool false))⟩, ⟨none, .pick 32 (.tmp 23) (.const (.bool true)) (.tmp 31)⟩, qm 33 32, qg 33 false (qf 34 5 2), qg 33 false (ql 35 34), ⟨some (33, false), .un 36 .not (.tmp 35)⟩, qg 33 false (qm 37 36), qg 37 true (qf 38 3 3), qg 37 true (ql 39 38), qg 37 true (qj 40 .neq 3 39 0), ⟨some (33, false), .pick 41 (.tmp 37) (.tmp 40) (.const (.bool false))⟩, ⟨none, .pick 42 (.tmp 33) (.const (.bool true)) (.tmp 41)⟩, qm 43 42, qg 43 false (qf 44 5 3), qg 43 false (ql 45 44), ⟨some (43, false), .un 46 .not (.tmp 45)⟩, qg 43 false (qm 47 46), qg 47 true (qf 48 3 4), qg 47 true (ql 49 48), qg 47 true (qj 50 .neq 3 49 0), ⟨some (43, false), .pick 51 (.tmp 47) (.tmp 50) (.const (.bool false))⟩, ⟨none, .pick 52 (.tmp 43) (.const (.bool true)) (.tmp 51)⟩, qm 53 52, qg 53 false (qf 54 5 4), qg 53 false (ql 55 54), ⟨some (53, false), .un 56 .not (.tmp 55)⟩, qg 53 false (qm 57 56), qg 57 true (qf 58 3 5), qg 57 true (ql 59 58), qg 57 true (qj 60 .neq 2 59 0), ⟨some (53, false), .pick 61 (.tmp 57) (.tmp 60) (.const (.bool false))⟩, ⟨none, .pick 62 (.tmp 53) (.const (.bool true)) (.tmp 61)⟩, qm 63 62, qg 63 false (qf 64 5 5), qg 63 false (ql 65 64), ⟨some (63, false), .un 66 .not (.tmp 65)⟩, qg 63 false (qm 67 66), qg 67 true (qf 68 3 6), qg 67 true (ql 69 68), qg 67 true (qL 70 69), qg 67 true (qj 71 .gtr 3 70 0), ⟨some (63, false), .pick 72 (.tmp 67) (.tmp 71) (.const (.bool false))⟩, ⟨none, .pick 73 (.tmp 63) (.const (.bool true)) (.tmp 72)⟩, qm 74 73, qg 74 false (qf 75 5 6), qg 74 false (ql 76 75), ⟨some (74, false), .un 77 .not (.tmp 76)⟩, qg 74 false (qm 78 77), qg 78 true (qf 79 3 7), qg 78 true (ql 80 79), qg 78 true (qL 81 80), qg 78 true (qj 82 .gtr 3 81 0), ⟨some (74, false), .pick 83 (.tmp 78) (.tmp 82) (.const (.bool false))⟩, ⟨none, .pick 84 (.tmp 74) (.const (.bool true)) (.tmp 83)⟩]
def QsV : List GO := [qk 4 (vi 4)]
def QsU : List GO := [qf 85 3 0, ql 86 85]
def QsT : List GO := [qj 88 .eql 3 86 2, qm 87 88]
def QsS : List GO := [qf 89 3 4, ql 90 89, qj 91 .lss 3 90 1, qm 92 91, qg 92 false (qf 93 3 4), qg 92 false (ql 94 93), qg 92 false (qj 95 .gtr 3 94 9), ⟨none, .pick 96 (.tmp 92) (.const (.bool true)) (.tmp 95)⟩]
def QsR : List GO := [qk 4 (vi 1)]
def QqS : List GO := [qj 98 .eql 3 86 5, qm 97 98]
def QqR : List GO := [qf 99 3 7, ql 100 99, qL 101 100, qj 102 .gtr 3 101 8]
def QqQ : List GO := [qk 4 (vi 2)]
def QqP : List GO := [qj 104 .eql 3 86 6, qm 103 104]
def QqO : List GO := [qj 105 .eql 3 86 7, qm 103 105]
def QqN : List GO := [qf 106 3 4, ql 107 106, qj 108 .lss 3 107 0, qm 109 108, qg 109 false (qf 110 3 4), qg 109 false (ql 111 110), qg 109 false (qj 112 .gtr 3 111 7), ⟨none, .pick 113 (.tmp 109) (.const (.bool true)) (.tmp 112)⟩]
def QqM : List GO := [qk 4 (vi 1)]
def QqL : List GO := [qj 115 .eql 3 86 14, qm 114 115]
def QqK : List GO := [qf 116 3 4, ql 117 116, qj 118 .lss 3 117 0, qm 119 118, qg 119 false (qf 120 3 4), qg 119 false (ql 121 120), qg 119 false (qf 122 2 0), qg 119 false (ql 123 122), qg 119 false (qL 124 123), qg 119 false (qt 125 .geq 3 121 124), ⟨none, .pick 126 (.tmp 119) (.const (.bool true)) (.tmp 125)⟩]
def QqJ : List GO := [qk 4 (vi 1)]
def QqI : List GO := [qf 127 3 6, ql 128 127, qL 129 128, qj 130 .gtr 3 129 6, qm 131 130, qg 131 false (qf 132 3 7), qg 131 false (ql 133 132), qg 131 false (qL 134 133), qg 131 false (qj 135 .gtr 3 134 8), ⟨none, .pick 136 (.tmp 131) (.const (.bool true)) (.tmp 135)⟩]
def QqH : List GO := [qk 4 (vi 2)]
def QqG : List GO := [qk 4 (vi 0)]
def R_InsForm_lc : LC := (.seq (.ops Qt0) (.seq (.ops QsZ) (.seq (.seq (.ops QsY) (.cond (.tmp 14) (.seq (.ops QsX) .ret) .skip)) (.seq (.seq (.ops QsW) (.cond (.tmp 84) (.seq (.ops QsV) .ret) .skip)) (.seq (.seq (.ops QsU) (.block 0 (.seq (.ops QsT) (.cond (.tmp 87) (.seq (.ops QsS) (.cond (.tmp 96) (.seq (.ops QsR) .ret) .skip)) (.seq (.ops QqS) (.cond (.tmp 97) (.seq (.ops QqR) (.cond (.tmp 102) (.seq (.ops QqQ) .ret) .skip)) (.seq (.seq (.ops QqP) (.cond (.tmp 103) .skip (.ops QqO))) (.cond (.tmp 103) (.seq (.ops QqN) (.cond (.tmp 113) (.seq (.ops QqM) .ret) .skip)) (.seq (.ops QqL) (.cond (.tmp 114) (.seq (.seq (.ops QqK) (.cond (.tmp 126) (.seq (.ops QqJ) .ret) .skip)) (.seq (.ops QqI) (.cond (.tmp 136) (.seq (.ops QqH) .ret) .skip))) .skip)))))))))) (.seq (.ops QqG) .ret))))))
@[reducible] def QP : FuncId := 72
theorem QqT : lowF Tryz.prog Tryz.f72 = some R_InsForm_lc := by kernel_rfl
theorem Qt1 {a0 a1 : Value} {w : World} {R : Ending → World → Prop} (h : R_InsForm_lc.wp Tryz.prog (retQ Tryz.prog [.tmp 4] R) (Qh [a0, a1]) w) : Calls Tryz.prog QP ⟨[a0, a1]⟩ w R :=
  Q6 Tryz.func72 QqT (by kernel_rfl) (by kernel_rfl) h

/- 76 -/
def Quq : List GO := [qb 2 53 0, qb 3 45 1, qk 4 (vi 0)]
def Qup : List GO := [⟨none, .build 6 [vn, (vi 0), (vi 0), (vi 0)] []⟩, qb 7 134 6, qm 5 7]
def Quo : List GO := [qm 8 5, qV 9 4 2, qV 10 9 3, ⟨none, .call (some 11) 134 [(.tmp 8), (.tmp 9), (.tmp 10)]⟩]
def Qun : List GO := [qm 12 5, qn 13 12, qf 14 13 1, qf 15 14 0, ql 16 15, qm 4 16]
def code_End_lc : LC := (.seq (.ops Quq) (.seq (.ops Qup) (.seq (.ops Quo) (.seq (.ops Qun) .ret))))
@[reducible] def Qvx : FuncId := 76
theorem Qsi : lowF Tryz.prog Tryz.f76 = some code_End_lc := by kernel_rfl
theorem Qur {a0 a1 : Value} {w : World} {R : Ending → World → Prop} (h : code_End_lc.wp Tryz.prog (retQ Tryz.prog [.tmp 4] R) (Qh [a0, a1]) w) : Calls Tryz.prog Qvx ⟨[a0, a1]⟩ w R :=
  Q6 Tryz.func76 Qsi (by kernel_rfl) (by kernel_rfl) h

/- 79 -/
def Qtb : List GO := [qb 2 53 0, qb 3 45 1, qk 4 (vi 0)]
def Qta : List GO := [qf 6 3 0, ql 7 6, qj 8 .lss 3 7 1, qm 9 8, qg 9 false (qf 10 3 0), qg 9 false (ql 11 10), qg 9 false (qj 12 .gtr 3 11 3), ⟨none, .pick 13 (.tmp 9) (.const (.bool true)) (.tmp 12)⟩]
def Qt9 : List GO := [qk 4 (vi 3)]
def Qt8 : List GO := [qf 14 3 1, ql 15 14, qj 16 .neq 3 15 0, qm 17 16, qg 17 true (qf 18 3 0), qg 17 true (ql 19 18), qg 17 true (qj 20 .neq 3 19 2), ⟨none, .pick 21 (.tmp 17) (.tmp 20) (.const (.bool false))⟩, qm 22 21, qg 22 false (qf 23 3 8), qg 22 false (ql 24 23), qg 22 false (qL 25 24), qg 22 false (qj 26 .gtr 3 25 0), qg 22 false (qm 27 26), qg 27 true (qf 28 3 0), qg 27 true (ql 29 28), qg 27 true (qj 30 .neq 3 29 3), ⟨some (22, false), .pick 31 (.tmp 27) (.tmp 30) (.const (.bool false))⟩, ⟨none, .pick 32 (.tmp 22) (.const (.bool true)) (.tmp 31)⟩]
def Qt7 : List GO := [qk 4 (vi 4)]
def Qt6 : List GO := [qf 33 3 8, ql 34 33, qL 35 34, qj 36 .gtr 3 35 8]
def Qt5 : List GO := [qk 4 (vi 2)]
def Qt4 : List GO := [qV 37 4 2, qf 38 3 2, qV 39 3 38, qf 40 3 0, ql 41 40, qj 42 .neq 3 41 3, ⟨none, .call (some 43) 137 [(.tmp 37), (.tmp 39), (.tmp 42)]⟩, qm 5 43]
def Qt3 : List GO := [qm 44 5, qj 45 .neq 3 44 0]
def Qt2 : List GO := [qm 46 5, qm 4 46]
def Qr4 : List GO := [qV 47 4 2, qf 48 3 5, qV 49 3 48, qf 50 3 0, ql 51 50, qj 52 .eql 3 51 2, ⟨none, .call (some 53) 137 [(.tmp 47), (.tmp 49), (.tmp 52)]⟩, qm 4 53]
def R_EndForm_lc : LC := (.seq (.ops Qtb) (.seq (.seq (.ops Qta) (.cond (.tmp 13) (.seq (.ops Qt9) .ret) .skip)) (.seq (.seq (.ops Qt8) (.cond (.tmp 32) (.seq (.ops Qt7) .ret) .skip)) (.seq (.seq (.ops Qt6) (.cond (.tmp 36) (.seq (.ops Qt5) .ret) .skip)) (.seq (.seq (.ops Qt4) (.seq (.ops Qt3) (.cond (.tmp 45) (.seq (.ops Qt2) .ret) .skip))) (.seq (.ops Qr4) .ret))))))
@[reducible] def Q2J : FuncId := 79
theorem Qr5 : lowF Tryz.prog Tryz.f79 = some R_EndForm_lc := by kernel_rfl
theorem Qtc {a0 a1 : Value} {w : World} {R : Ending → World → Prop} (h : R_EndForm_lc.wp Tryz.prog (retQ Tryz.prog [.tmp 4] R) (Qh [a0, a1]) w) : Calls Tryz.prog Q2J ⟨[a0, a1]⟩ w R :=
  Q6 Tryz.func79 Qr5 (by kernel_rfl) (by kernel_rfl) h

/- 89 -/
def Qlw : List GO := [qk 2 (vi 0)]
def Qlv : List GO := [qm 3 0, qj 4 .mul 3 3 10000, qj 5 .add 3 4 9999, qm 2 5]
def code_FuncAt_lc : LC := (.seq (.ops Qlw) (.seq (.ops Qlv) .ret))
@[reducible] def Qih : FuncId := 89
theorem Qig : lowF Tryz.prog Tryz.f89 = some code_FuncAt_lc := by kernel_rfl
theorem Qlx {a0 : Value} {w : World} {R : Ending → World → Prop} (h : code_FuncAt_lc.wp Tryz.prog (retQ Tryz.prog [.tmp 2] R) (Qh [a0]) w) : Calls Tryz.prog Qih ⟨[a0]⟩ w R :=
  Q6 Tryz.func89 Qig (by kernel_rfl) (by kernel_rfl) h

/- 64 -/
def QuW : List GO := [qk 2 (vi 0)]
def QuV : List GO := [qm 3 0, ⟨none, .bin 4 .mul 3 (.const (vi 10000)) (.tmp 3)⟩, qj 5 .add 3 4 9999, qm 2 5]
def R_AtFunc_lc : LC := (.seq (.ops QuW) (.seq (.ops QuV) .ret))
@[reducible] def QvC : FuncId := 64
theorem Qtf : lowF Tryz.prog Tryz.f64 = some R_AtFunc_lc := by kernel_rfl
theorem QuX {a0 : Value} {w : World} {R : Ending → World → Prop} (h : R_AtFunc_lc.wp Tryz.prog (retQ Tryz.prog [.tmp 2] R) (Qh [a0]) w) : Calls Tryz.prog QvC ⟨[a0]⟩ w R :=
  Q6 Tryz.func64 Qtf (by kernel_rfl) (by kernel_rfl) h

/- 144 -/
def Qim : List GO := [qk 4 (vi 0)]
def Qil : List GO := [qm 5 0, qj 6 .mul 3 5 10000, qm 7 1, qj 8 .mul 3 7 100, qt 9 .add 3 6 8, qj 10 .add 3 9 90, qm 4 10]
def code_BlockAt_lc : LC := (.seq (.ops Qim) (.seq (.ops Qil) .ret))
@[reducible] def QeD : FuncId := 144
theorem Qfo : lowF Tryz.prog Tryz.f144 = some code_BlockAt_lc := by kernel_rfl
theorem Qin {a0 a1 : Value} {w : World} {R : Ending → World → Prop} (h : code_BlockAt_lc.wp Tryz.prog (retQ Tryz.prog [.tmp 4] R) (Qh [a0, a1]) w) : Calls Tryz.prog QeD ⟨[a0, a1]⟩ w R :=
  Q6 Tryz.func144 Qfo (by kernel_rfl) (by kernel_rfl) h

/- 116 -/
def Qth : List GO := [qk 4 (vi 0)]
def Qtg : List GO := [qm 5 0, ⟨none, .bin 6 .mul 3 (.const (vi 10000)) (.tmp 5)⟩, qm 7 1, ⟨none, .bin 8 .mul 3 (.const (vi 100)) (.tmp 7)⟩, qt 9 .add 3 6 8, qj 10 .add 3 9 90, qm 4 10]
def R_AtBlock_lc : LC := (.seq (.ops Qth) (.seq (.ops Qtg) .ret))
@[reducible] def Qtj : FuncId := 116
theorem Qr6 : lowF Tryz.prog Tryz.f116 = some R_AtBlock_lc := by kernel_rfl
theorem Qti {a0 a1 : Value} {w : World} {R : Ending → World → Prop} (h : R_AtBlock_lc.wp Tryz.prog (retQ Tryz.prog [.tmp 4] R) (Qh [a0, a1]) w) : Calls Tryz.prog Qtj ⟨[a0, a1]⟩ w R :=
  Q6 Tryz.func116 Qr6 (by kernel_rfl) (by kernel_rfl) h

/- 140 -/
def Qp4 : List GO := [qk 4 (vi 0)]
def Qp3 : List GO := [qm 5 0, qj 6 .mul 3 5 10000, qm 7 1, qj 8 .mul 3 7 100, qt 9 .add 3 6 8, qj 10 .add 3 9 91, qm 4 10]
def code_EndAt_lc : LC := (.seq (.ops Qp4) (.seq (.ops Qp3) .ret))
@[reducible] def Qob : FuncId := 140
theorem Qly : lowF Tryz.prog Tryz.f140 = some code_EndAt_lc := by kernel_rfl
theorem Qp5 {a0 a1 : Value} {w : World} {R : Ending → World → Prop} (h : code_EndAt_lc.wp Tryz.prog (retQ Tryz.prog [.tmp 4] R) (Qh [a0, a1]) w) : Calls Tryz.prog Qob ⟨[a0, a1]⟩ w R :=
  Q6 Tryz.func140 Qly (by kernel_rfl) (by kernel_rfl) h

/- 85 -/
def Qwk : List GO := [qk 4 (vi 0)]
def Qwj : List GO := [qm 5 0, ⟨none, .bin 6 .mul 3 (.const (vi 10000)) (.tmp 5)⟩, qm 7 1, ⟨none, .bin 8 .mul 3 (.const (vi 100)) (.tmp 7)⟩, qt 9 .add 3 6 8, qj 10 .add 3 9 91, qm 4 10]
def R_AtEnd_lc : LC := (.seq (.ops Qwk) (.seq (.ops Qwj) .ret))
@[reducible] def QxL : FuncId := 85
theorem QuY : lowF Tryz.prog Tryz.f85 = some R_AtEnd_lc := by kernel_rfl
theorem Qwl {a0 a1 : Value} {w : World} {R : Ending → World → Prop} (h : R_AtEnd_lc.wp Tryz.prog (retQ Tryz.prog [.tmp 4] R) (Qh [a0, a1]) w) : Calls Tryz.prog QxL ⟨[a0, a1]⟩ w R :=
  Q6 Tryz.func85 QuY (by kernel_rfl) (by kernel_rfl) h

/- 139 -/
def Qp1 : List GO := [qk 6 (vi 0)]
def Qp0 : List GO := [qm 7 0, qj 8 .mul 3 7 10000, qm 9 1, qj 10 .mul 3 9 100, qt 11 .add 3 8 10, qm 12 2, qt 13 .add 3 11 12, qm 6 13]
def code_InsAt_lc : LC := (.seq (.ops Qp1) (.seq (.ops Qp0) .ret))
@[reducible] def Qoa : FuncId := 139
theorem Qlu : lowF Tryz.prog Tryz.f139 = some code_InsAt_lc := by kernel_rfl
theorem Qp2 {a0 a1 a2 : Value} {w : World} {R : Ending → World → Prop} (h : code_InsAt_lc.wp Tryz.prog (retQ Tryz.prog [.tmp 6] R) (Qh [a0, a1, a2]) w) : Calls Tryz.prog Qoa ⟨[a0, a1, a2]⟩ w R :=
  Q6 Tryz.func139 Qlu (by kernel_rfl) (by kernel_rfl) h

/- 84 -/
def Qwh : List GO := [qk 6 (vi 0)]
def Qwg : List GO := [qm 7 0, ⟨none, .bin 8 .mul 3 (.const (vi 10000)) (.tmp 7)⟩, qm 9 1, ⟨none, .bin 10 .mul 3 (.const (vi 100)) (.tmp 9)⟩, qt 11 .add 3 8 10, qm 12 2, qt 13 .add 3 11 12, qm 6 13]
def R_AtIns_lc : LC := (.seq (.ops Qwh) (.seq (.ops Qwg) .ret))
@[reducible] def QxK : FuncId := 84
theorem QuU : lowF Tryz.prog Tryz.f84 = some R_AtIns_lc := by kernel_rfl
theorem Qwi {a0 a1 a2 : Value} {w : World} {R : Ending → World → Prop} (h : R_AtIns_lc.wp Tryz.prog (retQ Tryz.prog [.tmp 6] R) (Qh [a0, a1, a2]) w) : Calls Tryz.prog QxK ⟨[a0, a1, a2]⟩ w R :=
  Q6 Tryz.func84 QuU (by kernel_rfl) (by kernel_rfl) h

/- 8 -/
def QmP : List GO := [qb 1 24 0, ⟨none, .alloc 2 24 [vn]⟩]
def QmO : List GO := [⟨none, .alloc 3 24 [vn]⟩]
def QmN : List GO := [qk 4 (vi 0)]
def QmM : List GO := [qm 12 4, qf 13 1 0, ql 14 13, qL 15 14, qt 16 .lss 3 12 15]
def QmL : List GO := [qf 19 1 0, ql 20 19, qm 21 4, qi 22 4 20 21, qV 23 4 22, ⟨none, .alloc 5 53 [(vi 0), vn, vn, vn]⟩, qw 4 5 23]
def QmK : List GO := [qf 24 5 0, ql 25 24, qf 26 5 1, ql 27 26, ⟨none, .call (some 28) 38 [(.tmp 27)]⟩, qf 29 5 2, ql 30 29, ⟨none, .call (some 31) 38 [(.tmp 30)]⟩, ⟨none, .build 32 [(vi 0), vn, vn, vn] [(0, (1, (.tmp 25))), (1, (1, (.tmp 28))), (2, (1, (.tmp 31)))]⟩, ⟨none, .alloc 6 53 [(vi 0), vn, vn, vn]⟩, qw 4 6 32]
def QmS : List (List Nat) := [[],[0],[],[2],[3],[],[5],[6,4],[1,4,7],[],[9,8,7,0,1,2,3,4,5,6,7,8,9]]
def QmJ : List GO := [qk 7 (vi 0)]
def QmI : List GO := [qm 33 7, qf 34 5 3, ql 35 34, qL 36 35, qt 37 .lss 3 33 36]
def QmH : List GO := [qf 40 5 3, ql 41 40, qm 42 7, qi 43 12 41 42, qV 44 12 43, ⟨none, .alloc 8 79 [(vi 0), vn, vn, (vi 0), (vi 0), (vi 0), vn, vn, (vi 0), vn, vn, vn]⟩, qw 12 8 44]
def QmG : List GO := [qf 45 8 0, ql 46 45, qf 47 8 1, ql 48 47, ⟨none, .call (some 49) 38 [(.tmp 48)]⟩, ⟨none, .build 50 [(vi 0), vn, vn, (vi 0), (vi 0), (vi 0), vn, vn, (vi 0), vn, vn, vn] [(0, (1, (.tmp 46))), (1, (1, (.tmp 49)))]⟩, ⟨none, .alloc 9 79 [(vi 0), vn, vn, (vi 0), (vi 0), (vi 0), vn, vn, (vi 0), vn, vn, vn]⟩, qw 12 9 50]
def QmR : List (List Nat) := [[],[0],[],[2],[3],[1,4],[],[6,5,4,0,1,2,3,4,5,6]]
def Qjk : List GO := [qk 10 (vi 0)]
def Qjj : List GO := [qm 51 10, qf 52 8 2, ql 53 52, qL 54 53, qt 55 .lss 3 51 54]
def Qji : List GO := [qf 58 8 2, ql 59 58, qm 60 10, qi 61 8 59 60, qV 62 8 61, ⟨none, .alloc 11 57 [(vi 0), (vi 0), (vi 0), (vi 0), (vi 0), (vi 0), vn, vn]⟩, qw 8 11 62]
def Qjh : List GO := [qf 63 11 6, ql 64 63, ⟨none, .call (some 65) 39 [(.tmp 64)]⟩, qf 66 11 7, ql 67 66, ⟨none, .call (some 68) 39 [(.tmp 67)]⟩, qf 69 11 6, qs 69 65, qf 70 11 7, qs 70 68]
def Qjn : List (List Nat) := [[],[0],[1],[],[3],[4,2],[0,1,2,3,4],[6,2,5,0,1,2,3,4],[0,1,2,3,4,5,6,7],[8,5,7,0,1,2,3,4,5,6,7]]
def Qjg : List GO := [qf 71 9 2, ql 72 71, qV 73 8 11, ⟨none, .buildS 74 57 1 [(vi 0), (vi 0), (vi 0), (vi 0), (vi 0), (vi 0), vn, vn] [(0, (8, (.tmp 73)))]⟩, ⟨none, .raw ⟨(some 75), (.call ⟨(.builtin .append), #[(.tmp 72), (.tmp 74)], #[40, 40]⟩), 40, "", #[], none⟩⟩, qf 76 9 2, qs 76 75]
def Qjf : List GO := [qm 56 10, qj 57 .add 3 56 1, qm 10 57]
def Q6p : LC := (.seq (.seq (.ops Qjj) (.cond (.tmp 55) .skip (.exit 4))) (.seq (.block 5 (.seq (.ops Qji) (.seq (.draw Qjh Qjn) (.ops Qjg)))) (.ops Qjf)))
def Qje : List GO := [qf 77 8 3, qf 78 77 0, ql 79 78, qf 80 8 3, qf 81 80 1, ql 82 81, qf 83 8 3, qf 84 83 2, qV 85 3 84, ⟨none, .call (some 86) 40 [(.tmp 85)]⟩, qf 87 8 3, qf 88 87 5, qV 89 3 88, ⟨none, .call (some 90) 40 [(.tmp 89)]⟩, qf 91 8 3, qf 92 91 8, ql 93 92, ⟨none, .call (some 94) 39 [(.tmp 93)]⟩, ⟨none, .build 95 [(vi 0), (vi 0), (vi 0), vn, vn, (vi 0), vn, vn, vn] [(0, (1, (.tmp 79))), (1, (1, (.tmp 82))), (2, (3, (.tmp 86))), (5, (3, (.tmp 90))), (8, (1, (.tmp 94)))]⟩, qf 96 9 3, qw 9 96 95]
def Qjm : List (List Nat) := [[],[0],[1],[],[3],[4],[],[6],[7],[8],[],[10],[11],[12,9],[],[14],[15],[16,13],[2,5,9,13,17],[0,1,2,3,4,5,6,7,8,9,10,11,12,13,14,15,16,17,18],[19,18,17,0,1,2,3,4,5,6,7,8,9,10,11,12,13,14,15,16,17,18]]
def Qjd : List GO := [qf 97 6 3, ql 98 97, qV 99 12 9, ⟨none, .buildS 100 79 1 [(vi 0), vn, vn, (vi 0), (vi 0), (vi 0), vn, vn, (vi 0), vn, vn, vn] [(0, (12, (.tmp 99)))]⟩, ⟨none, .raw ⟨(some 101), (.call ⟨(.builtin .append), #[(.tmp 98), (.tmp 100)], #[51, 51]⟩), 51, "", #[], none⟩⟩, qf 102 6 3, qs 102 101]
def Qjc : List GO := [qm 38 7, qj 39 .add 3 38 1, qm 7 39]
def Q7J : LC := (.seq (.seq (.ops QmI) (.cond (.tmp 37) .skip (.exit 2))) (.seq (.block 3 (.seq (.ops QmH) (.seq (.draw QmG QmR) (.seq (.seq (.ops Qjk) (.block 4 (.loop Q6p))) (.seq (.draw Qje Qjm) (.ops Qjd)))))) (.ops Qjc)))
def Qjb : List GO := [qf 103 3 0, ql 104 103, qV 105 4 6, ⟨none, .buildS 106 53 1 [(vi 0), vn, vn, vn] [(0, (4, (.tmp 105)))]⟩, ⟨none, .raw ⟨(some 107), (.call ⟨(.builtin .append), #[(.tmp 104), (.tmp 106)], #[22, 22]⟩), 22, "", #[], none⟩⟩, qf 108 3 0, qs 108 107]
def Qja : List GO := [qm 17 4, qj 18 .add 3 17 1, qm 4 18]
def Q7K : LC := (.seq (.seq (.ops QmM) (.cond (.tmp 16) .skip (.exit 0))) (.seq (.block 1 (.seq (.ops QmL) (.seq (.draw QmK QmS) (.seq (.seq (.ops QmJ) (.block 2 (.loop Q7J))) (.ops Qjb))))) (.ops Qja)))
def Qj9 : List GO := [qV 109 1 3, qw 1 2 109]
def R_OwnModule_lc : LC := (.seq (.ops QmP) (.seq (.ops QmO) (.seq (.seq (.ops QmN) (.block 0 (.loop Q7K))) (.seq (.ops Qj9) .ret))))
@[reducible] def Qjo : FuncId := 8
theorem Qjl : lowF Tryz.prog Tryz.f8 = some R_OwnModule_lc := by kernel_rfl
theorem QmQ {a0 : Value} {w : World} {R : Ending → World → Prop} (h : R_OwnModule_lc.wp Tryz.prog (retQ Tryz.prog [.cell 2 24] R) (Qh [a0]) w) : Calls Tryz.prog Qjo ⟨[a0]⟩ w R :=
  Q6 Tryz.func8 Qjl (by kernel_rfl) (by kernel_rfl) h

/- 41 -/
def Qpf : List GO := [qb 1 24 0, ⟨none, .alloc 2 30 [(vi 0), (vi 0)]⟩]
def Qpe : List GO := [qV 7 1 1, ⟨none, .build 8 [vn, (vi 0), (vi 0), (vi 0)] [(0, (1, (.tmp 7))), (3, (1, (.const (vi (-1)))))]⟩, qb 9 134 8, qm 3 9]
def Qpd : List GO := [qm 10 3, qf 11 1 0, ql 12 11, qL 13 12, qj 14 .eql 3 13 0, qm 15 14, qg 15 false (qf 16 1 0), qg 15 false (ql 17 16), qg 15 false (qL 18 17), qg 15 false (qj 19 .gtr 3 18 8), ⟨none, .pick 20 (.tmp 15) (.const (.bool true)) (.tmp 19)⟩, ⟨none, .call (some 21) 88 [(.tmp 10), (.tmp 20), (.const (vi 2))]⟩]
def Qpc : List GO := [qk 4 (vi 0)]
def Qpb : List GO := [qm 22 4, qf 23 1 0, ql 24 23, qL 25 24, qt 26 .lss 3 22 25, qm 27 26, qg 27 true (qm 28 3), qg 27 true (qn 29 28), qg 27 true (qf 30 29 1), qg 27 true (qf 31 30 0), qg 27 true (ql 32 31), qg 27 true (qj 33 .eql 3 32 0), ⟨none, .pick 34 (.tmp 27) (.tmp 33) (.const (.bool false))⟩]
def Qpa : List GO := [qf 37 1 0, ql 38 37, qm 39 4, qi 40 4 38 39, qV 41 4 40, ⟨none, .alloc 5 53 [(vi 0), vn, vn, vn]⟩, qw 4 5 41]
def Qp9 : List GO := [qm 42 3, qm 43 4, ⟨none, .call (some 44) 89 [(.tmp 43)]⟩, qn 45 42, qf 46 45 3, qs 46 44]
def Qp8 : List GO := [qm 47 3, qf 48 5 0, ql 49 48, qj 50 .lss 3 49 0, qm 51 50, qg 51 false (qf 52 5 0), qg 51 false (ql 53 52), qg 51 false (qj 54 .gtr 3 53 6), ⟨none, .pick 55 (.tmp 51) (.const (.bool true)) (.tmp 54)⟩, ⟨none, .call (some 56) 88 [(.tmp 47), (.tmp 55), (.const (vi 1))]⟩]
def Qp7 : List GO := [qm 57 3, qf 58 5 1, ql 59 58, qf 60 5 0, ql 61 60, ⟨none, .call (some 62) 90 [(.tmp 57), (.tmp 59), (.tmp 61)]⟩]
def Qp6 : List GO := [qm 63 3, qf 64 5 2, ql 65 64, qf 66 5 0, ql 67 66, ⟨none, .call (some 68) 90 [(.tmp 63), (.tmp 65), (.tmp 67)]⟩]
def QlG : List GO := [qm 69 3, qf 70 5 3, ql 71 70, qL 72 71, qj 73 .eql 3 72 0, qm 74 73, qg 74 false (qf 75 5 3), qg 74 false (ql 76 75), qg 74 false (qL 77 76), qg 74 false (qj 78 .gtr 3 77 12), ⟨none, .pick 79 (.tmp 74) (.const (.bool true)) (.tmp 78)⟩, ⟨none, .call (some 80) 88 [(.tmp 69), (.tmp 79), (.const (vi 2))]⟩]
def QlF : List GO := [qm 81 3, qm 82 4, qj 83 .eql 3 82 0, qm 84 83, qg 84 true (qf 85 5 0), qg 84 true (ql 86 85), qg 84 true (qj 87 .gtr 3 86 0), qg 84 true (qm 88 87), qg 88 false (qf 89 5 1), qg 88 false (ql 90 89), qg 88 false (qL 91 90), qg 88 false (qj 92 .gtr 3 91 0), ⟨some (84, true), .pick 93 (.tmp 88) (.const (.bool true)) (.tmp 92)⟩, qg 84 true (qm 94 93), qg 94 false (qf 95 5 2), qg 94 false (ql 96 95), ⟨some (94, false), .call (some 97) 91 [(.tmp 96), (.func 92)]⟩, ⟨some (84, true), .pick 98 (.tmp 94) (.const (.bool true)) (.tmp 97)⟩, ⟨none, .pick 99 (.tmp 84) (.tmp 98) (.const (.bool false))⟩, ⟨none, .call (some 100) 88 [(.tmp 81), (.tmp 99), (.const (vi 18))]⟩]
def QlE : List GO := [qk 6 (vi 0)]
def QlD : List GO := [qm 101 6, qf 102 5 3, ql 103 102, qL 104 103, qt 105 .lss 3 101 104, qm 106 105, qg 106 true (qm 107 3), qg 106 true (qn 108 107), qg 106 true (qf 109 108 1), qg 106 true (qf 110 109 0), qg 106 true (ql 111 110), qg 106 true (qj 112 .eql 3 111 0), ⟨none, .pick 113 (.tmp 106) (.tmp 112) (.const (.bool false))⟩]
def QlC : List GO := [qm 116 3, qm 117 4, qm 118 6, ⟨none, .call (some 119) 93 [(.tmp 116), (.tmp 117), (.tmp 118)]⟩]
def QlB : List GO := [qm 114 6, qj 115 .add 3 114 1, qm 6 115]
def Q7F : LC := (.seq (.seq (.ops QlD) (.cond (.tmp 113) .skip (.exit 2))) (.seq (.block 3 (.ops QlC)) (.ops QlB)))
def QlA : List GO := [qm 35 4, qj 36 .add 3 35 1, qm 4 36]
def QaX : LC := (.seq (.seq (.ops Qpb) (.cond (.tmp 34) .skip (.exit 0))) (.seq (.block 1 (.seq (.ops Qpa) (.seq (.ops Qp9) (.seq (.ops Qp8) (.seq (.ops Qp7) (.seq (.ops Qp6) (.seq (.ops QlG) (.seq (.ops QlF) (.seq (.ops QlE) (.block 2 (.loop Q7F))))))))))) (.ops QlA)))
def Qlz : List GO := [qm 120 3, qn 121 120, qf 122 121 1, qV 123 2 122, qw 2 2 123]
def code_Check_lc : LC := (.seq (.ops Qpf) (.seq (.ops Qpe) (.seq (.ops Qpd) (.seq (.seq (.ops Qpc) (.block 0 (.loop QaX))) (.seq (.ops Qlz) .ret)))))
@[reducible] def Q3G : FuncId := 41
theorem QlH : lowF Tryz.prog Tryz.f41 = some code_Check_lc := by kernel_rfl
theorem Qpg {a0 : Value} {w : World} {R : Ending → World → Prop} (h : code_Check_lc.wp Tryz.prog (retQ Tryz.prog [.cell 2 30] R) (Qh [a0]) w) : Calls Tryz.prog Q3G ⟨[a0]⟩ w R :=
  Q6 Tryz.func41 QlH (by kernel_rfl) (by kernel_rfl) h

/- 19 -/
def QnS : List GO := [qb 1 24 0, ⟨none, .alloc 2 30 [(vi 0), (vi 0)]⟩]
def QnR : List GO := [qf 11 1 0, ql 12 11, qL 13 12, qj 14 .lss 3 13 1, qm 15 14, qg 15 false (qf 16 1 0), qg 15 false (ql 17 16), qg 15 false (qL 18 17), qg 15 false (qj 19 .gtr 3 18 8), ⟨none, .pick 20 (.tmp 15) (.const (.bool true)) (.tmp 19)⟩]
def QnQ : List GO := [⟨none, .call (some 21) 51 [(.const (vi 2)), (.const (vi (-1)))]⟩, qw 2 2 21]
def QnP : List GO := [qk 3 (vi 0)]
def QnO : List GO := [qm 22 3, qf 23 1 0, ql 24 23, qL 25 24, qt 26 .lss 3 22 25]
def QnN : List GO := [qf 29 1 0, ql 30 29, qm 31 3, qi 32 4 30 31, qV 33 4 32, ⟨none, .alloc 4 53 [(vi 0), vn, vn, vn]⟩, qw 4 4 33]
def QnM : List GO := [qf 34 4 0, ql 35 34, qj 36 .lss 3 35 0, qm 37 36, qg 37 false (qf 38 4 0), qg 37 false (ql 39 38), qg 37 false (qj 40 .gtr 3 39 6), ⟨none, .pick 41 (.tmp 37) (.const (.bool true)) (.tmp 40)⟩]
def QnL : List GO := [qm 42 3, ⟨none, .call (some 43) 64 [(.tmp 42)]⟩, ⟨none, .call (some 44) 51 [(.const (vi 1)), (.tmp 43)]⟩, qw 2 2 44]
def QnK : List GO := [qf 45 4 1, ql 46 45, qf 47 4 0, ql 48 47, ⟨none, .call (some 49) 65 [(.tmp 46), (.tmp 48)]⟩, qm 5 49]
def QnJ : List GO := [qm 50 5, qj 51 .neq 3 50 0]
def Ql1 : List GO := [qm 52 5, qm 53 3, ⟨none, .call (some 54) 64 [(.tmp 53)]⟩, ⟨none, .call (some 55) 51 [(.tmp 52), (.tmp 54)]⟩, qw 2 2 55]
def Ql0 : List GO := [qf 56 4 2, ql 57 56, qf 58 4 0, ql 59 58, ⟨none, .call (some 60) 65 [(.tmp 57), (.tmp 59)]⟩, qm 6 60]
def QkZ : List GO := [qm 61 6, qj 62 .neq 3 61 0]
def QkY : List GO := [qm 63 6, qm 64 3, ⟨none, .call (some 65) 64 [(.tmp 64)]⟩, ⟨none, .call (some 66) 51 [(.tmp 63), (.tmp 65)]⟩, qw 2 2 66]
def QkX : List GO := [qf 67 4 3, ql 68 67, qL 69 68, qj 70 .lss 3 69 1, qm 71 70, qg 71 false (qf 72 4 3), qg 71 false (ql 73 72), qg 71 false (qL 74 73), qg 71 false (qj 75 .gtr 3 74 12), ⟨none, .pick 76 (.tmp 71) (.const (.bool true)) (.tmp 75)⟩]
def QkW : List GO := [qm 77 3, ⟨none, .call (some 78) 64 [(.tmp 77)]⟩, ⟨none, .call (some 79) 51 [(.const (vi 2)), (.tmp 78)]⟩, qw 2 2 79]
def QkV : List GO := [qm 80 3, qj 81 .eql 3 80 0]
def QkU : List GO := [qf 82 4 0, ql 83 82, qj 84 .eql 3 83 0, qm 85 84, qg 85 true (qf 86 4 1), qg 85 true (ql 87 86), qg 85 true (qL 88 87), qg 85 true (qj 89 .eql 3 88 0), ⟨none, .pick 90 (.tmp 85) (.tmp 89) (.const (.bool false))⟩, qm 7 90]
def QkT : List GO := [qk 8 (vi 0)]
def QkS : List GO := [qm 91 8, qf 92 4 2, ql 93 92, qL 94 93, qt 95 .lss 3 91 94]
def QkR : List GO := [qm 98 7, qm 99 98, qg 99 true (qf 100 4 2), qg 99 true (ql 101 100), qg 99 true (qm 102 8), qg 99 true (qi 103 3 101 102), qg 99 true (qf 104 103 0), qg 99 true (ql 105 104), qg 99 true (qj 106 .eql 3 105 1), ⟨none, .pick 107 (.tmp 99) (.tmp 106) (.const (.bool false))⟩, qm 7 107]
def QkQ : List GO := [qm 96 8, qj 97 .add 3 96 1, qm 8 97]
def Q6y : LC := (.seq (.seq (.ops QkS) (.cond (.tmp 95) .skip (.exit 2))) (.seq (.block 3 (.ops QkR)) (.ops QkQ)))
def QkP : List GO := [qm 108 7, ⟨none, .un 109 .not (.tmp 108)⟩]
def QkO : List GO := [qm 110 3, ⟨none, .call (some 111) 64 [(.tmp 110)]⟩, ⟨none, .call (some 112) 51 [(.const (vi 18)), (.tmp 111)]⟩, qw 2 2 112]
def QkN : List GO := [qk 9 (vi 0)]
def QkM : List GO := [qm 113 9, qf 114 4 3, ql 115 114, qL 116 115, qt 117 .lss 3 113 116]
def QkL : List GO := [qV 120 1 1, qm 121 3, qm 122 9, ⟨none, .call (some 123) 66 [(.tmp 120), (.tmp 121), (.tmp 122)]⟩, ⟨none, .alloc 10 30 [(vi 0), (vi 0)]⟩, qw 2 10 123]
def QkK : List GO := [qf 124 10 0, ql 125 124, qj 126 .neq 3 125 0]
def QkJ : List GO := [qV 127 2 10, qw 2 2 127]
def QkI : List GO := [qm 118 9, qj 119 .add 3 118 1, qm 9 119]
def Q6x : LC := (.seq (.seq (.ops QkM) (.cond (.tmp 117) .skip (.exit 4))) (.seq (.block 5 (.seq (.ops QkL) (.seq (.ops QkK) (.cond (.tmp 126) (.seq (.ops QkJ) .ret) .skip)))) (.ops QkI)))
def QkH : List GO := [qm 27 3, qj 28 .add 3 27 1, qm 3 28]
def Q7L : LC := (.seq (.seq (.ops QnO) (.cond (.tmp 26) .skip (.exit 0))) (.seq (.block 1 (.seq (.ops QnN) (.seq (.seq (.ops QnM) (.cond (.tmp 41) (.seq (.ops QnL) .ret) .skip)) (.seq (.seq (.ops QnK) (.seq (.ops QnJ) (.cond (.tmp 51) (.seq (.ops Ql1) .ret) .skip))) (.seq (.seq (.ops Ql0) (.seq (.ops QkZ) (.cond (.tmp 62) (.seq (.ops QkY) .ret) .skip))) (.seq (.seq (.ops QkX) (.cond (.tmp 76) (.seq (.ops QkW) .ret) .skip)) (.seq (.seq (.ops QkV) (.cond (.tmp 81) (.seq (.ops QkU) (.seq (.seq (.ops QkT) (.block 2 (.loop Q6y))) (.seq (.ops QkP) (.cond (.tmp 109) (.seq (.ops QkO) .ret) .skip)))) .skip)) (.seq (.ops QkN) (.block 4 (.loop Q6x)))))))))) (.ops QkH)))
def QkG : List GO := [⟨none, .build 128 [(vi 0), (vi 0)] []⟩, qw 2 2 128]
def R_CodeFault_lc : LC := (.seq (.ops QnS) (.seq (.seq (.ops QnR) (.cond (.tmp 20) (.seq (.ops QnQ) .ret) .skip)) (.seq (.seq (.ops QnP) (.block 0 (.loop Q7L))) (.seq (.ops QkG) .ret))))
@[reducible] def QY : FuncId := 19
theorem Ql2 : lowF Tryz.prog Tryz.f19 = some R_CodeFault_lc := by kernel_rfl
theorem QnT {a0 : Value} {w : World} {R : Ending → World → Prop} (h : R_CodeFault_lc.wp Tryz.prog (retQ Tryz.prog [.cell 2 30] R) (Qh [a0]) w) : Calls Tryz.prog QY ⟨[a0]⟩ w R :=
  Q6 Tryz.func19 Ql2 (by kernel_rfl) (by kernel_rfl) h

/- 12 -/
def Qj5 : List GO := [qb 2 24 0, qb 3 24 1, qk 4 (.bool false)]
def Qj4 : List GO := [qf 9 2 0, ql 10 9, qL 11 10, qf 12 3 0, ql 13 12, qL 14 13, qt 15 .neq 3 11 14]
def Qj3 : List GO := [qk 4 (.bool false)]
def Qj2 : List GO := [qk 5 (vi 0)]
def Qj1 : List GO := [qm 16 5, qf 17 2 0, ql 18 17, qL 19 18, qt 20 .lss 3 16 19]
def Qj0 : List GO := [qf 23 2 0, ql 24 23, qm 25 5, qi 26 4 24 25, qV 27 4 26, qf 28 3 0, ql 29 28, qm 30 5, qi 31 4 29 30, qV 32 4 31, ⟨none, .alloc 6 53 [(vi 0), vn, vn, vn]⟩, ⟨none, .alloc 7 53 [(vi 0), vn, vn, vn]⟩, qw 4 6 27, qw 4 7 32]
def Qj7 : List (List Nat) := [[],[0],[],[1,2],[3],[],[5],[],[6,7],[8],[],[],[10,4,0,1,2,3,4,10,11],[11,9,12,0,1,2,3,4,5,6,7,8,9,10,11,12]]
def QiZ : List GO := [qf 33 6 0, ql 34 33, qf 35 7 0, ql 36 35, qt 37 .neq 3 34 36, qm 38 37, qg 38 false (qf 39 6 1), qg 38 false (ql 40 39), qg 38 false (qf 41 7 1), qg 38 false (ql 42 41), ⟨some (38, false), .call (some 43) 23 [(.tmp 40), (.tmp 42)]⟩, ⟨some (38, false), .un 44 .not (.tmp 43)⟩, ⟨none, .pick 45 (.tmp 38) (.const (.bool true)) (.tmp 44)⟩, qm 46 45, qg 46 false (qf 47 6 2), qg 46 false (ql 48 47), qg 46 false (qf 49 7 2), qg 46 false (ql 50 49), ⟨some (46, false), .call (some 51) 23 [(.tmp 48), (.tmp 50)]⟩, ⟨some (46, false), .un 52 .not (.tmp 51)⟩, ⟨none, .pick 53 (.tmp 46) (.const (.bool true)) (.tmp 52)⟩, qm 54 53, qg 54 false (qf 55 6 3), qg 54 false (ql 56 55), qg 54 false (qL 57 56), qg 54 false (qf 58 7 3), qg 54 false (ql 59 58), qg 54 false (qL 60 59), qg 54 false (qt 61 .neq 3 57 60), ⟨none, .pick 62 (.tmp 54) (.const (.bool true)) (.tmp 61)⟩]
def QiY : List GO := [qk 4 (.bool false)]
def QiX : List GO := [qk 8 (vi 0)]
def QiW : List GO := [qm 63 8, qf 64 6 3, ql 65 64, qL 66 65, qt 67 .lss 3 63 66]
def QfJ : List GO := [qf 70 6 3, ql 71 70, qm 72 8, qi 73 12 71 72, qV 74 12 73, qf 75 7 3, ql 76 75, qm 77 8, qi 78 12 76 77, qV 79 12 78, ⟨none, .call (some 80) 52 [(.tmp 74), (.tmp 79)]⟩, ⟨none, .un 81 .not (.tmp 80)⟩]
def QfL : List (List Nat) := [[],[0],[],[1,2],[3],[],[5],[],[6,7],[8],[4,9],[10]]
def QfI : List GO := [qk 4 (.bool false)]
def QfH : List GO := [qm 68 8, qj 69 .add 3 68 1, qm 8 69]
def Q42 : LC := (.seq (.seq (.ops QiW) (.cond (.tmp 67) .skip (.exit 2))) (.seq (.block 3 (.seq (.draw QfJ QfL) (.cond (.tmp 81) (.seq (.ops QfI) .ret) .skip))) (.ops QfH)))
def QfG : List GO := [qm 21 5, qj 22 .add 3 21 1, qm 5 22]
def Q6o : LC := (.seq (.seq (.ops Qj1) (.cond (.tmp 20) .skip (.exit 0))) (.seq (.block 1 (.seq (.draw Qj0 Qj7) (.seq (.seq (.ops QiZ) (.cond (.tmp 62) (.seq (.ops QiY) .ret) .skip)) (.seq (.ops QiX) (.block 2 (.loop Q42)))))) (.ops QfG)))
def QfF : List GO := [qk 4 (.bool true)]
def R_SameModule_lc : LC := (.seq (.ops Qj5) (.seq (.seq (.ops Qj4) (.cond (.tmp 15) (.seq (.ops Qj3) .ret) .skip)) (.seq (.seq (.ops Qj2) (.block 0 (.loop Q6o))) (.seq (.ops QfF) .ret))))
@[reducible] def Q1g : FuncId := 12
theorem QfK : lowF Tryz.prog Tryz.f12 = some R_SameModule_lc := by kernel_rfl
theorem Qj6 {a0 a1 : Value} {w : World} {R : Ending → World → Prop} (h : R_SameModule_lc.wp Tryz.prog (retQ Tryz.prog [.tmp 4] R) (Qh [a0, a1]) w) : Calls Tryz.prog Q1g ⟨[a0, a1]⟩ w R :=
  Q6 Tryz.func12 QfK (by kernel_rfl) (by kernel_rfl) h

/- 61 -/
def Que : List GO := [qb 1 24 0, ⟨none, .alloc 2 24 [vn]⟩]
def Qud : List GO := [⟨none, .alloc 3 24 [vn]⟩]
def Quc : List GO := [qf 12 1 0, ql 13 12, qL 14 13, qk 15 (vi 0)]
def Qub : List GO := [qt 16 .lss 3 15 14]
def Qua : List GO := [qi 17 4 13 15, qV 18 4 17, ⟨none, .alloc 5 53 [(vi 0), vn, vn, vn]⟩, qw 4 5 18]
def Qu9 : List GO := [qf 19 5 0, ql 20 19, qf 21 5 1, ql 22 21, ⟨none, .call (some 23) 112 [(.tmp 22)]⟩, qf 24 5 2, ql 25 24, ⟨none, .call (some 26) 112 [(.tmp 25)]⟩, ⟨none, .build 27 [(vi 0), vn, vn, vn] [(0, (1, (.tmp 20))), (1, (1, (.tmp 23))), (2, (1, (.tmp 26)))]⟩, ⟨none, .alloc 6 53 [(vi 0), vn, vn, vn]⟩, qw 4 6 27]
def Quh : List (List Nat) := [[],[0],[],[2],[3],[],[5],[6,4],[1,4,7],[],[9,8,7,0,1,2,3,4,5,6,7,8,9]]
def Qu8 : List GO := [qf 28 5 3, ql 29 28, qL 30 29, qk 31 (vi 0)]
def Qu7 : List GO := [qt 32 .lss 3 31 30]
def Qu6 : List GO := [qi 33 12 29 31, qV 34 12 33, ⟨none, .alloc 8 79 [(vi 0), vn, vn, (vi 0), (vi 0), (vi 0), vn, vn, (vi 0), vn, vn, vn]⟩, qw 12 8 34]
def Qu5 : List GO := [qf 35 8 0, ql 36 35, qf 37 8 1, ql 38 37, ⟨none, .call (some 39) 112 [(.tmp 38)]⟩, qf 40 8 3, qV 41 9 40, ⟨none, .build 42 [(vi 0), vn, vn, (vi 0), (vi 0), (vi 0), vn, vn, (vi 0), vn, vn, vn] [(0, (1, (.tmp 36))), (1, (1, (.tmp 39))), (3, (9, (.tmp 41)))]⟩, ⟨none, .alloc 9 79 [(vi 0), vn, vn, (vi 0), (vi 0), (vi 0), vn, vn, (vi 0), vn, vn, vn]⟩, qw 12 9 42]
def Qug : List (List Nat) := [[],[0],[],[2],[3],[],[5],[1,4,6],[],[8,7,4,0,1,2,3,4,5,6,7,8]]
def Qsd : List GO := [qf 43 8 3, qf 44 43 2, qV 45 3 44, ⟨none, .call (some 46) 113 [(.tmp 45)]⟩, qf 47 8 3, qf 48 47 5, qV 49 3 48, ⟨none, .call (some 50) 113 [(.tmp 49)]⟩, qf 51 8 3, qf 52 51 8, ql 53 52, ⟨none, .call (some 54) 114 [(.tmp 53)]⟩, qf 55 9 3, qf 56 55 2, qw 3 56 46, qf 57 9 3, qf 58 57 5, qw 3 58 50, qf 59 9 3, qf 60 59 8, qs 60 54]
def Qsg : List (List Nat) := [[],[0],[1],[2],[],[4],[5],[6,3],[],[8],[9],[10,7],[0,1,2,3],[12,0,1,2,3],[13,3,11,0,1,2,3],[0,1,2,3,4,5,6,7,12,13,14],[15,0,1,2,3,4,5,6,7,12,13,14],[16,7,14,0,1,2,3,4,5,6,7,12,13,14],[0,1,2,3,4,5,6,7,8,9,10,11,12,13,14,15,16,17],[18,0,1,2,3,4,5,6,7,8,9,10,11,12,13,14,15,16,17],[19,11,17,0,1,2,3,4,5,6,7,8,9,10,11,12,13,14,15,16,17]]
def Qsc : List GO := [qf 61 8 2, ql 62 61, qL 63 62, qk 64 (vi 0)]
def Qsb : List GO := [qt 65 .lss 3 64 63]
def Qsa : List GO := [qi 66 8 62 64, qV 67 8 66, ⟨none, .alloc 11 57 [(vi 0), (vi 0), (vi 0), (vi 0), (vi 0), (vi 0), vn, vn]⟩, qw 8 11 67]
def Qs9 : List GO := [qf 68 11 6, ql 69 68, ⟨none, .call (some 70) 114 [(.tmp 69)]⟩, qf 71 11 7, ql 72 71, ⟨none, .call (some 73) 114 [(.tmp 72)]⟩, qf 74 11 6, qs 74 70, qf 75 11 7, qs 75 73]
def Qsf : List (List Nat) := [[],[0],[1],[],[3],[4,2],[0,1,2,3,4],[6,2,5,0,1,2,3,4],[0,1,2,3,4,5,6,7],[8,5,7,0,1,2,3,4,5,6,7]]
def Qs8 : List GO := [qf 76 9 2, ql 77 76, qV 78 8 11, ⟨none, .buildS 79 57 1 [(vi 0), (vi 0), (vi 0), (vi 0), (vi 0), (vi 0), vn, vn] [(0, (8, (.tmp 78)))]⟩, ⟨none, .raw ⟨(some 80), (.call ⟨(.builtin .append), #[(.tmp 77), (.tmp 79)], #[40, 40]⟩), 40, "", #[], none⟩⟩, qf 81 9 2, qs 81 80]
def Qs7 : List GO := [qj 82 .add 3 64 1, qm 64 82]
def QeC : LC := (.seq (.ops Qsb) (.seq (.cond (.tmp 65) .skip (.exit 4)) (.seq (.block 5 (.seq (.ops Qsa) (.seq (.draw Qs9 Qsf) (.ops Qs8)))) (.ops Qs7))))
def Qs6 : List GO := [qf 83 6 3, ql 84 83, qV 85 12 9, ⟨none, .buildS 86 79 1 [(vi 0), vn, vn, (vi 0), (vi 0), (vi 0), vn, vn, (vi 0), vn, vn, vn] [(0, (12, (.tmp 85)))]⟩, ⟨none, .raw ⟨(some 87), (.call ⟨(.builtin .append), #[(.tmp 84), (.tmp 86)], #[51, 51]⟩), 51, "", #[], none⟩⟩, qf 88 6 3, qs 88 87]
def Qs5 : List GO := [qj 89 .add 3 31 1, qm 31 89]
def Qie : LC := (.seq (.ops Qu7) (.seq (.cond (.tmp 32) .skip (.exit 2)) (.seq (.block 3 (.seq (.ops Qu6) (.seq (.draw Qu5 Qug) (.seq (.draw Qsd Qsg) (.seq (.seq (.ops Qsc) (.block 4 (.loop QeC))) (.ops Qs6)))))) (.ops Qs5))))
def Qs4 : List GO := [qf 90 3 0, ql 91 90, qV 92 4 6, ⟨none, .buildS 93 53 1 [(vi 0), vn, vn, vn] [(0, (4, (.tmp 92)))]⟩, ⟨none, .raw ⟨(some 94), (.call ⟨(.builtin .append), #[(.tmp 91), (.tmp 93)], #[22, 22]⟩), 22, "", #[], none⟩⟩, qf 95 3 0, qs 95 94]
def Qs3 : List GO := [qj 96 .add 3 15 1, qm 15 96]
def Qif : LC := (.seq (.ops Qub) (.seq (.cond (.tmp 16) .skip (.exit 0)) (.seq (.block 1 (.seq (.ops Qua) (.seq (.draw Qu9 Quh) (.seq (.seq (.ops Qu8) (.block 2 (.loop Qie))) (.ops Qs4))))) (.ops Qs3))))
def Qs2 : List GO := [qV 97 1 3, qw 1 2 97]
def code_Own_lc : LC := (.seq (.ops Que) (.seq (.ops Qud) (.seq (.seq (.ops Quc) (.block 0 (.loop Qif))) (.seq (.ops Qs2) .ret))))
@[reducible] def Qvv : FuncId := 61
theorem Qse : lowF Tryz.prog Tryz.f61 = some code_Own_lc := by kernel_rfl
theorem Quf {a0 : Value} {w : World} {R : Ending → World → Prop} (h : code_Own_lc.wp Tryz.prog (retQ Tryz.prog [.cell 2 24] R) (Qh [a0]) w) : Calls Tryz.prog Qvv ⟨[a0]⟩ w R :=
  Q6 Tryz.func61 Qse (by kernel_rfl) (by kernel_rfl) h

/- 23 -/
def Qmn : List GO := [qk 4 (.bool false)]
def Qmm : List GO := [qm 6 0, qL 7 6, qm 8 1, qL 9 8, qt 10 .neq 3 7 9]
def Qml : List GO := [qk 4 (.bool false)]
def Qmk : List GO := [qk 5 (vi 0)]
def Qmj : List GO := [qm 11 5, qm 12 0, qL 13 12, qt 14 .lss 3 11 13]
def Qmi : List GO := [qm 17 0, qm 18 5, qi 19 3 17 18, qV 20 3 19, qm 21 1, qm 22 5, qi 23 3 21 22, qV 24 3 23, ⟨none, .call (some 25) 74 [(.tmp 20), (.tmp 24)]⟩, ⟨none, .un 26 .not (.tmp 25)⟩]
def Qmp : List (List Nat) := [[],[],[0,1],[2],[],[],[4,5],[6],[3,7],[8]]
def Qmh : List GO := [qk 4 (.bool false)]
def Qmg : List GO := [qm 15 5, qj 16 .add 3 15 1, qm 5 16]
def Q7H : LC := (.seq (.seq (.ops Qmj) (.cond (.tmp 14) .skip (.exit 0))) (.seq (.block 1 (.seq (.draw Qmi Qmp) (.cond (.tmp 26) (.seq (.ops Qmh) .ret) .skip))) (.ops Qmg)))
def Qmf : List GO := [qk 4 (.bool true)]
def R_SameTypes_lc : LC := (.seq (.ops Qmn) (.seq (.seq (.ops Qmm) (.cond (.tmp 10) (.seq (.ops Qml) .ret) .skip)) (.seq (.seq (.ops Qmk) (.block 0 (.loop Q7H))) (.seq (.ops Qmf) .ret))))
@[reducible] def Q2R : FuncId := 23
theorem QiV : lowF Tryz.prog Tryz.f23 = some R_SameTypes_lc := by kernel_rfl
theorem Qmo {a0 a1 : Value} {w : World} {R : Ending → World → Prop} (h : R_SameTypes_lc.wp Tryz.prog (retQ Tryz.prog [.tmp 4] R) (Qh [a0, a1]) w) : Calls Tryz.prog Q2R ⟨[a0, a1]⟩ w R :=
  Q6 Tryz.func23 QiV (by kernel_rfl) (by kernel_rfl) h

/- 25 -/
def QpR : List GO := [qk 4 (.bool false)]
def QpQ : List GO := [qm 6 0, qL 7 6, qm 8 1, qL 9 8, qt 10 .neq 3 7 9]
def QpP : List GO := [qk 4 (.bool false)]
def QpO : List GO := [qk 5 (vi 0)]
def QpN : List GO := [qm 11 5, qm 12 0, qL 13 12, qt 14 .lss 3 11 13]
def QpM : List GO := [qm 17 0, qm 18 5, qi 19 1 17 18, ql 20 19, qm 21 1, qm 22 5, qi 23 1 21 22, ql 24 23, qt 25 .neq 3 20 24]
def QpT : List (List Nat) := [[],[],[0,1],[2],[],[],[4,5],[6],[3,7]]
def QpL : List GO := [qk 4 (.bool false)]
def QpK : List GO := [qm 15 5, qj 16 .add 3 15 1, qm 5 16]
def Qb6 : LC := (.seq (.seq (.ops QpN) (.cond (.tmp 14) .skip (.exit 0))) (.seq (.block 1 (.seq (.draw QpM QpT) (.cond (.tmp 25) (.seq (.ops QpL) .ret) .skip))) (.ops QpK)))
def QpJ : List GO := [qk 4 (.bool true)]
def R_SameInts_lc : LC := (.seq (.ops QpR) (.seq (.seq (.ops QpQ) (.cond (.tmp 10) (.seq (.ops QpP) .ret) .skip)) (.seq (.seq (.ops QpO) (.block 0 (.loop Qb6))) (.seq (.ops QpJ) .ret))))
@[reducible] def Q3I : FuncId := 25
theorem Qmr : lowF Tryz.prog Tryz.f25 = some R_SameInts_lc := by kernel_rfl
theorem QpS {a0 a1 : Value} {w : World} {R : Ending → World → Prop} (h : R_SameInts_lc.wp Tryz.prog (retQ Tryz.prog [.tmp 4] R) (Qh [a0, a1]) w) : Calls Tryz.prog Q3I ⟨[a0, a1]⟩ w R :=
  Q6 Tryz.func25 Qmr (by kernel_rfl) (by kernel_rfl) h

/- 36 -/
def Qtl : List GO := [⟨none, .alloc 0 24 [vn]⟩]
def Qtk : List GO := [⟨none, .build 1 [(vi 0), (vi 0), (vi 0), vn, vn, (vi 0), vn, vn, vn] [(0, (1, (.const (vi 3))))]⟩, ⟨none, .build 2 [(vi 0), vn, vn, (vi 0), (vi 0), (vi 0), vn, vn, (vi 0), vn, vn, vn] [(3, (9, (.tmp 1)))]⟩, ⟨none, .buildS 3 79 1 [(vi 0), vn, vn, (vi 0), (vi 0), (vi 0), vn, vn, (vi 0), vn, vn, vn] [(0, (12, (.tmp 2)))]⟩, ⟨none, .build 4 [(vi 0), vn, vn, vn] [(3, (1, (.tmp 3)))]⟩, ⟨none, .buildS 5 53 1 [(vi 0), vn, vn, vn] [(0, (4, (.tmp 4)))]⟩, ⟨none, .build 6 [vn] [(0, (1, (.tmp 5)))]⟩, qw 1 0 6]
def Law_least_lc : LC := (.seq (.ops Qtl) (.seq (.ops Qtk) .ret))
@[reducible] def Qtn : FuncId := 36
theorem Qr7 : lowF Tryz.prog Tryz.f36 = some Law_least_lc := by kernel_rfl
theorem Qtm {w : World} {R : Ending → World → Prop} (h : Law_least_lc.wp Tryz.prog (retQ Tryz.prog [.cell 0 24] R) (Qh []) w) : Calls Tryz.prog Qtn ⟨[]⟩ w R :=
  Q6 Tryz.func36 Qr7 (by kernel_rfl) (by kernel_rfl) h

/- 37 -/
def QiH : List GO := [qk 2 (.bool false)]
def QiG : List GO := [qm 4 0, qL 5 4, qj 6 .gtr 3 5 200]
def QiF : List GO := [qk 2 (.bool true)]
def QiE : List GO := [qk 3 (vi 0)]
def QiD : List GO := [qm 7 3, qm 8 0, qL 9 8, qt 10 .lss 3 7 9]
def QiC : List GO := [qm 13 0, qm 14 3, qi 15 3 13 14, qV 16 3 15, ⟨none, .call (some 17) 86 [(.tmp 16)]⟩]
def QiB : List GO := [qk 2 (.bool true)]
def QiA : List GO := [qm 11 3, qj 12 .add 3 11 1, qm 3 12]
def Q6n : LC := (.seq (.seq (.ops QiD) (.cond (.tmp 10) .skip (.exit 0))) (.seq (.block 1 (.seq (.ops QiC) (.cond (.tmp 17) (.seq (.ops QiB) .ret) .skip))) (.ops QiA)))
def Qiz : List GO := [qk 2 (.bool false)]
def R_greatTypes_lc : LC := (.seq (.ops QiH) (.seq (.seq (.ops QiG) (.cond (.tmp 6) (.seq (.ops QiF) .ret) .skip)) (.seq (.seq (.ops QiE) (.block 0 (.loop Q6n))) (.seq (.ops Qiz) .ret))))
@[reducible] def Q2U : FuncId := 37
theorem Qfq : lowF Tryz.prog Tryz.f37 = some R_greatTypes_lc := by kernel_rfl
theorem QiI {a0 : Value} {w : World} {R : Ending → World → Prop} (h : R_greatTypes_lc.wp Tryz.prog (retQ Tryz.prog [.tmp 2] R) (Qh [a0]) w) : Calls Tryz.prog Q2U ⟨[a0]⟩ w R :=
  Q6 Tryz.func37 Qfq (by kernel_rfl) (by kernel_rfl) h

/- 117 -/
def QcH : List GO := [qb 3 57 1]
def QcG : List GO := [qm 5 0, qf 6 3 0, ql 7 6, qj 8 .lss 3 7 1, qm 9 8, qg 9 false (qf 10 3 0), qg 9 false (ql 11 10), qg 9 false (qj 12 .gtr 3 11 14), ⟨none, .pick 13 (.tmp 9) (.const (.bool true)) (.tmp 12)⟩, ⟨none, .call (some 14) 88 [(.tmp 5), (.tmp 13), (.const (vi 3))]⟩]
def QcF : List GO := [qf 15 3 0, ql 16 15, ⟨none, .call (some 17) 153 [(.tmp 16)]⟩, qm 4 17]
def QcE : List GO := [qm 18 0, qm 19 4, ⟨none, .call (some 20) 154 [(.tmp 19), (.const (.int .u8 97))]⟩, ⟨none, .un 21 .not (.tmp 20)⟩, qm 22 21, qg 22 true (qf 23 3 1), qg 22 true (ql 24 23), qg 22 true (qj 25 .neq 3 24 0), ⟨none, .pick 26 (.tmp 22) (.tmp 25) (.const (.bool false))⟩, qm 27 26, qg 27 false (qm 28 4), ⟨some (27, false), .call (some 29) 154 [(.tmp 28), (.const (.int .u8 98))]⟩, ⟨some (27, false), .un 30 .not (.tmp 29)⟩, qg 27 false (qm 31 30), qg 31 true (qf 32 3 2), qg 31 true (ql 33 32), qg 31 true (qj 34 .neq 3 33 0), ⟨some (27, false), .pick 35 (.tmp 31) (.tmp 34) (.const (.bool false))⟩, ⟨none, .pick 36 (.tmp 27) (.const (.bool true)) (.tmp 35)⟩, qm 37 36, qg 37 false (qm 38 4), ⟨some (37, false), .call (some 39) 154 [(.tmp 38), (.const (.int .u8 99))]⟩, ⟨some (37, false), .un 40 .not (.tmp 39)⟩, qg 37 false (qm 41 40), qg 41 true (qf 42 3 3), qg 41 true (ql 43 42), qg 41 true (qj 44 .neq 3 43 0), ⟨some (37, false), .pick 45 (.tmp 41) (.tmp 44) (.const (.bool false))⟩, ⟨none, .pick 46 (.tmp 37) (.const (.bool true)) (.tmp 45)⟩, qm 47 46, qg 47 false (qm 48 4), ⟨some (47, false), .call (some 49) 154 [(.tmp 48), (.const (.int .u8 107))]⟩, ⟨some (47, false), .un 50 .not (.tmp 49)⟩, qg 47 false (qm 51 50), qg 51 true (qf 52 3 4), qg 51 true (ql 53 52), qg 51 true (qj 54 .neq 3 53 0), ⟨some (47, false), .pick 55 (.tmp 51) (.tmp 54) (.const (.bool false))⟩, ⟨none, .pick 56 (.tmp 47) (.const (.bool true)) (.tmp 55)⟩, qm 57 56, qg 57 false (qm 58 4), ⟨some (57, false), .call (some 59) 154 [(.tmp 58), (.const (.int .u8 110))]⟩, ⟨some (57, false), .un 60 .not (.tmp 59)⟩, qg 57 false (qm 61 60), qg 61 true (qf 62 3 5), qg 61 true (ql 63 62), qg 61 true (qj 64 .neq 2 63 0), ⟨some (57, false), .pick 65 (.tmp 61) (.tmp 64) (.const (.bool false))⟩, ⟨none, .pick 66 (.tmp 57) (.const (.bool true)) (.tmp 65)⟩, qm 67 66, qg 67 false (qm 68 4), ⟨some (67, false), .call (some 69) 154 [(.tmp 68), (.const (.int .u8 103))]⟩, ⟨some (67, false), .un 70 .not (.tmp 69)⟩, qg 67 false (qm 71 70), qg 71 true (qf 72 3 6), qg 71 true (ql 73 72), qg 71 true (qL 74 73), qg 71 true (qj 75 .gtr 3 74 0), ⟨some (67, false), .pick 76 (.tmp 71) (.tmp 75) (.const (.bool false))⟩, ⟨none, .pick 77 (.tmp 67) (.const (.bool true)) (.tmp 76)⟩, qm 78 77, qg 78 false (qm 79 4), ⟨some (78, false), .call (some 80) 154 [(.tmp 79), (.const (.int .u8 114))]⟩, ⟨some (78, false), .un 81 .not (.tmp 80)⟩, qg 78 false (qm 82 81), qg 82 true (qf 83 3 7), qg 82 true (ql 84 83), qg 82 true (qL 85 84), qg 82 true (qj 86 .gtr 3 85 0), ⟨some (78, false), .pick 87 (.tmp 82) (.tmp 86) (.const (.bool false))⟩, ⟨none, .pick 88 (.tmp 78) (.const (.bool true)) (.tmp 87)⟩, ⟨none, .call (some 89) 88 [(.tmp 18), (.tmp 88), (.const (vi 4))]⟩]
def QcD : List GO := [qf 90 3 0, ql 91 90]
def QcC : List GO := [qj 93 .eql 3 91 2, qm 92 93]
def QcB : List GO := [qm 94 0, qf 95 3 4, ql 96 95, qj 97 .lss 3 96 1, qm 98 97, qg 98 false (qf 99 3 4), qg 98 false (ql 100 99), qg 98 false (qj 101 .gtr 3 100 9), ⟨none, .pick 102 (.tmp 98) (.const (.bool true)) (.tmp 101)⟩, ⟨none, .call (some 103) 88 [(.tmp 94), (.tmp 102), (.const (vi 1))]⟩]
def QcA : List GO := [qj 105 .eql 3 91 5, qm 104 105]
def Qcz : List GO := [qm 106 0, qf 107 3 7, ql 108 107, qL 109 108, qj 110 .gtr 3 109 8, ⟨none, .call (some 111) 88 [(.tmp 106), (.tmp 110), (.const (vi 2))]⟩]
def Qcy : List GO := [qj 113 .eql 3 91 6, qm 112 113]
def QaR : List GO := [qj 114 .eql 3 91 7, qm 112 114]
def QaQ : List GO := [qm 115 0, qf 116 3 4, ql 117 116, qj 118 .lss 3 117 0, qm 119 118, qg 119 false (qf 120 3 4), qg 119 false (ql 121 120), qg 119 false (qj 122 .geq 3 121 8), ⟨none, .pick 123 (.tmp 119) (.const (.bool true)) (.tmp 122)⟩, ⟨none, .call (some 124) 88 [(.tmp 115), (.tmp 123), (.const (vi 1))]⟩]
def QaP : List GO := [qj 126 .eql 3 91 14, qm 125 126]
def QaO : List GO := [qm 127 0, qf 128 3 4, ql 129 128, qj 130 .lss 3 129 0, qm 131 130, qg 131 false (qf 132 3 4), qg 131 false (ql 133 132), qg 131 false (qm 134 0), qg 131 false (qn 135 134), qg 131 false (qf 136 135 0), qg 131 false (qf 137 136 0), qg 131 false (ql 138 137), qg 131 false (qL 139 138), qg 131 false (qt 140 .geq 3 133 139), ⟨none, .pick 141 (.tmp 131) (.const (.bool true)) (.tmp 140)⟩, ⟨none, .call (some 142) 88 [(.tmp 127), (.tmp 141), (.const (vi 1))]⟩]
def QaT : List (List Nat) := [[],[],[1],[2],[3],[4],[5,4],[4],[7,4],[8,4],[9,4],[10,4],[11,4],[6,12,4],[4,13],[0,14,4]]
def QaN : List GO := [qm 143 0, qf 144 3 6, ql 145 144, qL 146 145, qj 147 .gtr 3 146 6, qm 148 147, qg 148 false (qf 149 3 7), qg 148 false (ql 150 149), qg 148 false (qL 151 150), qg 148 false (qj 152 .gtr 3 151 8), ⟨none, .pick 153 (.tmp 148) (.const (.bool true)) (.tmp 152)⟩, ⟨none, .call (some 154) 88 [(.tmp 143), (.tmp 153), (.const (vi 2))]⟩]
def code_judge_ins_lc : LC := (.seq (.ops QcH) (.seq (.ops QcG) (.seq (.ops QcF) (.seq (.ops QcE) (.seq (.ops QcD) (.block 0 (.seq (.ops QcC) (.cond (.tmp 92) (.ops QcB) (.seq (.ops QcA) (.cond (.tmp 104) (.ops Qcz) (.seq (.seq (.ops Qcy) (.cond (.tmp 112) .skip (.ops QaR))) (.cond (.tmp 112) (.ops QaQ) (.seq (.ops QaP) (.cond (.tmp 125) (.seq (.draw QaO QaT) (.ops QaN)) .skip))))))))))))))
@[reducible] def Q10 : FuncId := 117
theorem QaS : lowF Tryz.prog Tryz.f117 = some code_judge_ins_lc := by kernel_rfl
theorem QcI {a0 a1 : Value} {w : World} {R : Ending → World → Prop} (h : code_judge_ins_lc.wp Tryz.prog (retQ Tryz.prog [] R) (Qh [a0, a1]) w) : Calls Tryz.prog Q10 ⟨[a0, a1]⟩ w R :=
  Q6 Tryz.func117 QaS (by kernel_rfl) (by kernel_rfl) h

/- 99 -/
def Qr3 : List GO := [⟨none, .alloc 2 144 [(.bool false), (.bool false), (.bool false), (.bool false), (.bool false), (.bool false), (.bool false)]⟩, qk 3 (.bool false)]
def Qr2 : List GO := [qm 4 0]
def Qr1 : List GO := [qj 6 .eql 3 4 1, qm 5 6]
def Qr0 : List GO := [⟨none, .build 7 [(.bool false), (.bool false), (.bool false), (.bool false), (.bool false), (.bool false), (.bool false)] [(4, (1, (.const (.bool true))))]⟩, qw 7 2 7, qk 3 (.bool true)]
def QqZ : List GO := [qj 9 .eql 3 4 2, qm 8 9]
def QqY : List GO := [qj 10 .eql 3 4 7, qm 8 10]
def QqX : List GO := [⟨none, .build 11 [(.bool false), (.bool false), (.bool false), (.bool false), (.bool false), (.bool false), (.bool false)] [(0, (1, (.const (.bool true)))), (1, (1, (.const (.bool true)))), (3, (1, (.const (.bool true))))]⟩, qw 7 2 11, qk 3 (.bool true)]
def QqW : List GO := [qj 13 .eql 3 4 3, qm 12 13]
def QqV : List GO := [qj 14 .eql 3 4 12, qm 12 14]
def QqU : List GO := [⟨none, .build 15 [(.bool false), (.bool false), (.bool false), (.bool false), (.bool false), (.bool false), (.bool false)] []⟩, qw 7 2 15, qk 3 (.bool true)]
def QnH : List GO := [qj 17 .eql 3 4 4, qm 16 17]
def QnG : List GO := [qj 18 .eql 3 4 11, qm 16 18]
def QnF : List GO := [qj 19 .eql 3 4 13, qm 16 19]
def QnE : List GO := [⟨none, .build 20 [(.bool false), (.bool false), (.bool false), (.bool false), (.bool false), (.bool false), (.bool false)] [(0, (1, (.const (.bool true))))]⟩, qw 7 2 20, qk 3 (.bool true)]
def QnD : List GO := [qj 22 .eql 3 4 5, qm 21 22]
def QnC : List GO := [⟨none, .build 23 [(.bool false), (.bool false), (.bool false), (.bool false), (.bool false), (.bool false), (.bool false)] [(0, (1, (.const (.bool true)))), (6, (1, (.const (.bool true))))]⟩, qw 7 2 23, qk 3 (.bool true)]
def QnB : List GO := [qj 25 .eql 3 4 6, qm 24 25]
def QnA : List GO := [⟨none, .build 26 [(.bool false), (.bool false), (.bool false), (.bool false), (.bool false), (.bool false), (.bool false)] [(0, (1, (.const (.bool true)))), (3, (1, (.const (.bool true))))]⟩, qw 7 2 26, qk 3 (.bool true)]
def Qnz : List GO := [qj 28 .eql 3 4 8, qm 27 28]
def Qny : List GO := [qj 29 .eql 3 4 9, qm 27 29]
def Qnx : List GO := [⟨none, .build 30 [(.bool false), (.bool false), (.bool false), (.bool false), (.bool false), (.bool false), (.bool false)] [(0, (1, (.const (.bool true)))), (1, (1, (.const (.bool true))))]⟩, qw 7 2 30, qk 3 (.bool true)]
def Qnw : List GO := [qj 32 .eql 3 4 10, qm 31 32]
def Qnv : List GO := [⟨none, .build 33 [(.bool false), (.bool false), (.bool false), (.bool false), (.bool false), (.bool false), (.bool false)] [(0, (1, (.const (.bool true)))), (1, (1, (.const (.bool true)))), (2, (1, (.const (.bool true))))]⟩, qw 7 2 33, qk 3 (.bool true)]
def Qnu : List GO := [qj 35 .eql 3 4 14, qm 34 35]
def Qnt : List GO := [⟨none, .build 36 [(.bool false), (.bool false), (.bool false), (.bool false), (.bool false), (.bool false), (.bool false)] [(3, (1, (.const (.bool true)))), (5, (1, (.const (.bool true)))), (6, (1, (.const (.bool true))))]⟩, qw 7 2 36, qk 3 (.bool true)]
def Qns : List GO := [⟨none, .build 37 [(.bool false), (.bool false), (.bool false), (.bool false), (.bool false), (.bool false), (.bool false)] []⟩, qw 7 2 37, qk 3 (.bool false)]
def R_FieldsOf_lc : LC := (.seq (.ops Qr3) (.seq (.seq (.ops Qr2) (.block 0 (.seq (.ops Qr1) (.cond (.tmp 5) (.seq (.ops Qr0) .ret) (.seq (.seq (.ops QqZ) (.cond (.tmp 8) .skip (.ops QqY))) (.cond (.tmp 8) (.seq (.ops QqX) .ret) (.seq (.seq (.ops QqW) (.cond (.tmp 12) .skip (.ops QqV))) (.cond (.tmp 12) (.seq (.ops QqU) .ret) (.seq (.seq (.ops QnH) (.cond (.tmp 16) .skip (.seq (.ops QnG) (.cond (.tmp 16) .skip (.ops QnF))))) (.cond (.tmp 16) (.seq (.ops QnE) .ret) (.seq (.ops QnD) (.cond (.tmp 21) (.seq (.ops QnC) .ret) (.seq (.ops QnB) (.cond (.tmp 24) (.seq (.ops QnA) .ret) (.seq (.seq (.ops Qnz) (.cond (.tmp 27) .skip (.ops Qny))) (.cond (.tmp 27) (.seq (.ops Qnx) .ret) (.seq (.ops Qnw) (.cond (.tmp 31) (.seq (.ops Qnv) .ret) (.seq (.ops Qnu) (.cond (.tmp 34) (.seq (.ops Qnt) .ret) .skip)))))))))))))))))))) (.seq (.ops Qns) .ret)))
@[reducible] def Qe : FuncId := 99
theorem QnI : lowF Tryz.prog Tryz.f99 = some R_FieldsOf_lc := by kernel_rfl
theorem Qbc {a0 : Value} {w : World} {R : Ending → World → Prop} (h : R_FieldsOf_lc.wp Tryz.prog (retQ Tryz.prog [.cell 2 144, .tmp 3] R) (Qh [a0]) w) : Calls Tryz.prog Qe ⟨[a0]⟩ w R :=
  Q6 Tryz.func99 QnI (by kernel_rfl) (by kernel_rfl) h

/- 134 -/
def QcO : List GO := [qb 4 53 1, qb 5 45 2]
def QcN : List GO := [qm 6 0, qf 7 5 0, ql 8 7, qj 9 .lss 3 8 1, qm 10 9, qg 10 false (qf 11 5 0), qg 10 false (ql 12 11), qg 10 false (qj 13 .gtr 3 12 3), ⟨none, .pick 14 (.tmp 10) (.const (.bool true)) (.tmp 13)⟩, ⟨none, .call (some 15) 88 [(.tmp 6), (.tmp 14), (.const (vi 3))]⟩]
def QcM : List GO := [qm 16 0, qf 17 5 0, ql 18 17, qj 19 .neq 3 18 2, qm 20 19, qg 20 true (qf 21 5 1), qg 20 true (ql 22 21), qg 20 true (qj 23 .neq 3 22 0), ⟨none, .pick 24 (.tmp 20) (.tmp 23) (.const (.bool false))⟩, qm 25 24, qg 25 false (qf 26 5 0), qg 25 false (ql 27 26), qg 25 false (qj 28 .neq 3 27 3), qg 25 false (qm 29 28), qg 29 true (qf 30 5 8), qg 29 true (ql 31 30), qg 29 true (qL 32 31), qg 29 true (qj 33 .gtr 3 32 0), ⟨some (25, false), .pick 34 (.tmp 29) (.tmp 33) (.const (.bool false))⟩, ⟨none, .pick 35 (.tmp 25) (.const (.bool true)) (.tmp 34)⟩, ⟨none, .call (some 36) 88 [(.tmp 16), (.tmp 35), (.const (vi 4))]⟩]
def QcL : List GO := [qm 37 0, qf 38 5 8, ql 39 38, qL 40 39, qj 41 .gtr 3 40 8, ⟨none, .call (some 42) 88 [(.tmp 37), (.tmp 41), (.const (vi 2))]⟩]
def QcK : List GO := [qm 43 0, qV 44 4 4, qf 45 5 2, qV 46 3 45, qf 47 5 0, ql 48 47, qj 49 .neq 3 48 3, ⟨none, .call (some 50) 157 [(.tmp 43), (.tmp 44), (.tmp 46), (.tmp 49)]⟩]
def QcJ : List GO := [qm 51 0, qV 52 4 4, qf 53 5 5, qV 54 3 53, qf 55 5 0, ql 56 55, qj 57 .eql 3 56 2, ⟨none, .call (some 58) 157 [(.tmp 51), (.tmp 52), (.tmp 54), (.tmp 57)]⟩]
def code_judge_end_lc : LC := (.seq (.ops QcO) (.seq (.ops QcN) (.seq (.ops QcM) (.seq (.ops QcL) (.seq (.ops QcK) (.ops QcJ))))))
@[reducible] def Q7E : FuncId := 134
theorem QaW : lowF Tryz.prog Tryz.f134 = some code_judge_end_lc := by kernel_rfl
theorem QcP {a0 a1 a2 : Value} {w : World} {R : Ending → World → Prop} (h : code_judge_end_lc.wp Tryz.prog (retQ Tryz.prog [] R) (Qh [a0, a1, a2]) w) : Calls Tryz.prog Q7E ⟨[a0, a1, a2]⟩ w R :=
  Q6 Tryz.func134 QaW (by kernel_rfl) (by kernel_rfl) h

/- 137 -/
def QuD : List GO := [qb 3 53 0, qb 4 43 1, qk 6 (vi 0)]
def QuC : List GO := [qm 7 2, ⟨none, .un 8 .not (.tmp 7)⟩]
def QuB : List GO := [qf 9 4 0, ql 10 9, qj 11 .neq 3 10 0, qm 12 11, qg 12 false (qf 13 4 1), qg 12 false (ql 14 13), qg 12 false (qL 15 14), qg 12 false (qf 16 4 2), qg 12 false (ql 17 16), qg 12 false (qL 18 17), qg 12 false (qt 19 .add 3 15 18), qg 12 false (qj 20 .gtr 3 19 0), ⟨none, .pick 21 (.tmp 12) (.const (.bool true)) (.tmp 20)⟩]
def QuA : List GO := [qk 6 (vi 4)]
def Quz : List GO := [qk 6 (vi 0)]
def Quy : List GO := [qf 22 4 0, ql 23 22, qj 24 .lss 3 23 0, qm 25 24, qg 25 false (qf 26 4 0), qg 25 false (ql 27 26), qg 25 false (qf 28 3 3), qg 25 false (ql 29 28), qg 25 false (qL 30 29), qg 25 false (qt 31 .geq 3 27 30), ⟨none, .pick 32 (.tmp 25) (.const (.bool true)) (.tmp 31)⟩]
def Qux : List GO := [qk 6 (vi 1)]
def Quw : List GO := [qf 33 4 1, ql 34 33, qL 35 34, qj 36 .gtr 3 35 16, qm 37 36, qg 37 false (qf 38 4 2), qg 37 false (ql 39 38), qg 37 false (qL 40 39), qg 37 false (qj 41 .gtr 3 40 8), ⟨none, .pick 42 (.tmp 37) (.const (.bool true)) (.tmp 41)⟩]
def Quv : List GO := [qk 6 (vi 2)]
def Quu : List GO := [qk 6 (vi 0)]
def R_toForm_lc : LC := (.seq (.ops QuD) (.seq (.seq (.ops QuC) (.cond (.tmp 8) (.seq (.seq (.ops QuB) (.cond (.tmp 21) (.seq (.ops QuA) .ret) .skip)) (.seq (.ops Quz) .ret)) .skip)) (.seq (.seq (.ops Quy) (.cond (.tmp 32) (.seq (.ops Qux) .ret) .skip)) (.seq (.seq (.ops Quw) (.cond (.tmp 42) (.seq (.ops Quv) .ret) .skip)) (.seq (.ops Quu) .ret)))))
@[reducible] def Q4h : FuncId := 137
theorem Qsl : lowF Tryz.prog Tryz.f137 = some R_toForm_lc := by kernel_rfl
theorem Qix {a0 a1 a2 : Value} {w : World} {R : Ending → World → Prop} (h : R_toForm_lc.wp Tryz.prog (retQ Tryz.prog [.tmp 6] R) (Qh [a0, a1, a2]) w) : Calls Tryz.prog Q4h ⟨[a0, a1, a2]⟩ w R :=
  Q6 Tryz.func137 Qsl (by kernel_rfl) (by kernel_rfl) h

/- 38 -/
def Qqi : List GO := [qk 2 vn]
def Qqh : List GO := [qk 3 vn]
def Qqg : List GO := [qk 4 (vi 0)]
def Qqf : List GO := [qm 5 4, qm 6 0, qL 7 6, qt 8 .lss 3 5 7]
def Qqe : List GO := [qm 11 3, qm 12 0, qm 13 4, qi 14 3 12 13, qV 15 3 14, ⟨none, .call (some 16) 87 [(.tmp 15)]⟩, ⟨none, .buildS 17 112 1 [(vi 0), (vi 0), vn] [(0, (3, (.tmp 16)))]⟩, ⟨none, .raw ⟨(some 18), (.call ⟨(.builtin .append), #[(.tmp 11), (.tmp 17)], #[50, 50]⟩), 50, "", #[], none⟩⟩, qm 3 18]
def Qqd : List GO := [qm 9 4, qj 10 .add 3 9 1, qm 4 10]
def Q5w : LC := (.seq (.seq (.ops Qqf) (.cond (.tmp 8) .skip (.exit 0))) (.seq (.block 1 (.ops Qqe)) (.ops Qqd)))
def Qqc : List GO := [qm 19 3, qm 2 19]
def R_OwnTypes_lc : LC := (.seq (.ops Qqi) (.seq (.ops Qqh) (.seq (.seq (.ops Qqg) (.block 0 (.loop Q5w))) (.seq (.ops Qqc) .ret))))
@[reducible] def Q6M : FuncId := 38
theorem QmF : lowF Tryz.prog Tryz.f38 = some R_OwnTypes_lc := by kernel_rfl
theorem Qb9 {a0 : Value} {w : World} {R : Ending → World → Prop} (h : R_OwnTypes_lc.wp Tryz.prog (retQ Tryz.prog [.tmp 2] R) (Qh [a0]) w) : Calls Tryz.prog Q6M ⟨[a0]⟩ w R :=
  Q6 Tryz.func38 QmF (by kernel_rfl) (by kernel_rfl) h

/- 39 -/
def Qst : List GO := [qk 2 vn]
def Qss : List GO := [qk 3 vn]
def Qsr : List GO := [qm 4 3, qm 5 0, ⟨none, .raw ⟨(some 6), (.call ⟨(.builtin .append), #[(.tmp 4), (.tmp 5)], #[41, 41]⟩), 41, "", #[], none⟩⟩, qm 2 6]
def R_ownInts_lc : LC := (.seq (.ops Qst) (.seq (.ops Qss) (.seq (.ops Qsr) .ret)))
@[reducible] def Qsv : FuncId := 39
theorem Qpt : lowF Tryz.prog Tryz.f39 = some R_ownInts_lc := by kernel_rfl
theorem Qsu {a0 : Value} {w : World} {R : Ending → World → Prop} (h : R_ownInts_lc.wp Tryz.prog (retQ Tryz.prog [.tmp 2] R) (Qh [a0]) w) : Calls Tryz.prog Qsv ⟨[a0]⟩ w R :=
  Q6 Tryz.func39 Qpt (by kernel_rfl) (by kernel_rfl) h

/- 40 -/
def Qw5 : List GO := [qb 1 43 0, ⟨none, .alloc 2 43 [(vi 0), vn, vn]⟩]
def Qw4 : List GO := [qf 3 1 0, ql 4 3, qf 5 1 1, ql 6 5, ⟨none, .call (some 7) 39 [(.tmp 6)]⟩, qf 8 1 2, ql 9 8, ⟨none, .call (some 10) 39 [(.tmp 9)]⟩, ⟨none, .build 11 [(vi 0), vn, vn] [(0, (1, (.tmp 4))), (1, (1, (.tmp 7))), (2, (1, (.tmp 10)))]⟩, qw 3 2 11]
def Qw7 : List (List Nat) := [[],[0],[],[2],[3],[],[5],[6,4],[1,4,7],[8,7,0,1,2,3,4,5,6,7,8]]
def R_ownTo_lc : LC := (.seq (.ops Qw5) (.seq (.draw Qw4 Qw7) .ret))
@[reducible] def QxI : FuncId := 40
theorem QuH : lowF Tryz.prog Tryz.f40 = some R_ownTo_lc := by kernel_rfl
theorem Qw6 {a0 : Value} {w : World} {R : Ending → World → Prop} (h : R_ownTo_lc.wp Tryz.prog (retQ Tryz.prog [.cell 2 43] R) (Qh [a0]) w) : Calls Tryz.prog QxI ⟨[a0]⟩ w R :=
  Q6 Tryz.func40 QuH (by kernel_rfl) (by kernel_rfl) h

/- 88 -/
def QaV : List GO := [qm 6 1, qm 7 6, qg 7 true (qm 8 0), qg 7 true (qn 9 8), qg 7 true (qf 10 9 1), qg 7 true (qf 11 10 0), qg 7 true (ql 12 11), qg 7 true (qj 13 .eql 3 12 0), ⟨none, .pick 14 (.tmp 7) (.tmp 13) (.const (.bool false))⟩]
def QaU : List GO := [qm 15 0, qm 16 2, qm 17 0, qn 18 17, qf 19 18 3, ql 20 19, ⟨none, .build 21 [(vi 0), (vi 0)] [(0, (1, (.tmp 16))), (1, (1, (.tmp 20)))]⟩, qn 22 15, qf 23 22 1, qw 2 23 21]
def code_judge_fail_lc : LC := (.seq (.ops QaV) (.cond (.tmp 14) (.ops QaU) .skip))
@[reducible] def Q3g : FuncId := 88
theorem Q98 : lowF Tryz.prog Tryz.f88 = some code_judge_fail_lc := by kernel_rfl
theorem Q3f {a0 a1 a2 : Value} {w : World} {R : Ending → World → Prop} (h : code_judge_fail_lc.wp Tryz.prog (retQ Tryz.prog [] R) (Qh [a0, a1, a2]) w) : Calls Tryz.prog Q3g ⟨[a0, a1, a2]⟩ w R :=
  Q6 Tryz.func88 Q98 (by kernel_rfl) (by kernel_rfl) h

/- 90 -/
def QaL : List GO := [qm 9 0, qm 10 1, qL 11 10, qj 12 .gtr 3 11 8, ⟨none, .call (some 13) 88 [(.tmp 9), (.tmp 12), (.const (vi 2))]⟩]
def QaK : List GO := [qm 14 1, qL 15 14, qk 16 (vi 0)]
def QaJ : List GO := [qt 17 .lss 3 16 15]
def QaI : List GO := [qi 18 3 14 16, qV 19 3 18, ⟨none, .alloc 7 112 [(vi 0), (vi 0), vn]⟩, qw 3 7 19]
def QaH : List GO := [qV 20 3 7, qm 21 2, ⟨none, .call (some 22) 142 [(.tmp 20), (.tmp 21)]⟩, qm 8 22]
def QaG : List GO := [qm 23 0, qm 24 8, qj 25 .neq 3 24 0, qm 26 8, ⟨none, .call (some 27) 88 [(.tmp 23), (.tmp 25), (.tmp 26)]⟩]
def QaF : List GO := [qj 28 .add 3 16 1, qm 16 28]
def Q4f : LC := (.seq (.ops QaJ) (.seq (.cond (.tmp 17) .skip (.exit 0)) (.seq (.block 1 (.seq (.ops QaI) (.seq (.ops QaH) (.ops QaG)))) (.ops QaF))))
def code_judge_list_lc : LC := (.seq (.ops QaL) (.seq (.ops QaK) (.block 0 (.loop Q4f))))
@[reducible] def Q6h : FuncId := 90
theorem Q97 : lowF Tryz.prog Tryz.f90 = some code_judge_list_lc := by kernel_rfl
theorem QaM {a0 a1 a2 : Value} {w : World} {R : Ending → World → Prop} (h : code_judge_list_lc.wp Tryz.prog (retQ Tryz.prog [] R) (Qh [a0, a1, a2]) w) : Calls Tryz.prog Q6h ⟨[a0, a1, a2]⟩ w R :=
  Q6 Tryz.func90 Q97 (by kernel_rfl) (by kernel_rfl) h

/- 91 -/
def Q2k : List GO := [qk 4 (.bool false)]
def Q2j : List GO := [qm 5 0, qm 6 1, ⟨none, .call (some 7) 143 [(.tmp 5), (.tmp 6)]⟩, qj 8 .geq 3 7 0, qm 4 8]
def slices_ContainsFunc_api_Type_api_Type_lc : LC := (.seq (.ops Q2k) (.seq (.ops Q2j) .ret))
@[reducible] def Q1L : FuncId := 91
theorem Q2g : lowF Tryz.prog Tryz.f91 = some slices_ContainsFunc_api_Type_api_Type_lc := by kernel_rfl
theorem Q2l {a0 a1 : Value} {w : World} {R : Ending → World → Prop} (h : slices_ContainsFunc_api_Type_api_Type_lc.wp Tryz.prog (retQ Tryz.prog [.tmp 4] R) (Qh [a0, a1]) w) : Calls Tryz.prog Q1L ⟨[a0, a1]⟩ w R :=
  Q6 Tryz.func91 Q2g (by kernel_rfl) (by kernel_rfl) h

/- 92 -/
def Qij : List GO := [qb 1 112 0, qk 2 (.bool false)]
def Qii : List GO := [qf 3 1 0, ql 4 3, qj 5 .neq 3 4 1, qm 2 5]
def code_Check_1_lc : LC := (.seq (.ops Qij) (.seq (.ops Qii) .ret))
@[reducible] def Q4g : FuncId := 92
theorem Qfn : lowF Tryz.prog Tryz.f92 = some code_Check_1_lc := by kernel_rfl
theorem Qik {a0 : Value} {w : World} {R : Ending → World → Prop} (h : code_Check_1_lc.wp Tryz.prog (retQ Tryz.prog [.tmp 2] R) (Qh [a0]) w) : Calls Tryz.prog Q4g ⟨[a0]⟩ w R :=
  Q6 Tryz.func92 Qfn (by kernel_rfl) (by kernel_rfl) h

/- 93 -/
def Q9i : List GO := [qm 9 0, qn 10 9, qf 11 10 0, qf 12 11 0, ql 13 12, qm 14 1, qi 15 4 13 14, qV 16 4 15, ⟨none, .alloc 6 53 [(vi 0), vn, vn, vn]⟩, qw 4 6 16]
def Q9h : List GO := [qf 17 6 3, ql 18 17, qm 19 2, qi 20 12 18 19, qV 21 12 20, ⟨none, .alloc 7 79 [(vi 0), vn, vn, (vi 0), (vi 0), (vi 0), vn, vn, (vi 0), vn, vn, vn]⟩, qw 12 7 21]
def Q9g : List GO := [qm 22 0, qm 23 1, qm 24 2, ⟨none, .call (some 25) 144 [(.tmp 23), (.tmp 24)]⟩, qn 26 22, qf 27 26 3, qs 27 25]
def Q9f : List GO := [qm 28 0, qf 29 7 0, ql 30 29, qf 31 6 0, ql 32 31, qt 33 .lss 3 30 32, qm 34 33, qg 34 false (qf 35 7 0), qg 34 false (ql 36 35), qg 34 false (qj 37 .gtr 3 36 16), ⟨none, .pick 38 (.tmp 34) (.const (.bool true)) (.tmp 37)⟩, ⟨none, .call (some 39) 88 [(.tmp 28), (.tmp 38), (.const (vi 1))]⟩]
def Q9e : List GO := [qm 40 0, qf 41 7 1, ql 42 41, qf 43 7 0, ql 44 43, ⟨none, .call (some 45) 90 [(.tmp 40), (.tmp 42), (.tmp 44)]⟩]
def Q9d : List GO := [qm 46 0, qm 47 2, qj 48 .eql 3 47 0, qm 49 48, qg 49 true (qf 50 7 0), qg 49 true (ql 51 50), qg 49 true (qf 52 6 0), qg 49 true (ql 53 52), qg 49 true (qt 54 .neq 3 51 53), qg 49 true (qm 55 54), qg 55 false (qf 56 7 1), qg 55 false (ql 57 56), qg 55 false (qf 58 6 1), qg 55 false (ql 59 58), ⟨some (55, false), .call (some 60) 145 [(.tmp 57), (.tmp 59), (.func 127)]⟩, ⟨some (55, false), .un 61 .not (.tmp 60)⟩, ⟨some (49, true), .pick 62 (.tmp 55) (.const (.bool true)) (.tmp 61)⟩, ⟨none, .pick 63 (.tmp 49) (.tmp 62) (.const (.bool false))⟩, ⟨none, .call (some 64) 88 [(.tmp 46), (.tmp 63), (.const (vi 9))]⟩]
def Q9c : List GO := [qm 65 0, qf 66 7 2, ql 67 66, qL 68 67, qj 69 .gtr 3 68 40, ⟨none, .call (some 70) 88 [(.tmp 65), (.tmp 69), (.const (vi 2))]⟩]
def Q9b : List GO := [qk 8 (vi 0)]
def Q9a : List GO := [qm 71 8, qf 72 7 2, ql 73 72, qL 74 73, qt 75 .lss 3 71 74, qm 76 75, qg 76 true (qm 77 0), qg 76 true (qn 78 77), qg 76 true (qf 79 78 1), qg 76 true (qf 80 79 0), qg 76 true (ql 81 80), qg 76 true (qj 82 .eql 3 81 0), ⟨none, .pick 83 (.tmp 76) (.tmp 82) (.const (.bool false))⟩]
def Q99 : List GO := [qm 86 0, qm 87 1, qm 88 2, qm 89 8, ⟨none, .call (some 90) 139 [(.tmp 87), (.tmp 88), (.tmp 89)]⟩, qn 91 86, qf 92 91 3, qs 92 90]
def Q7t : List GO := [qm 93 0, qf 94 7 2, ql 95 94, qm 96 8, qi 97 8 95 96, qV 98 8 97, ⟨none, .call (some 99) 117 [(.tmp 93), (.tmp 98)]⟩]
def Q7s : List GO := [qm 84 8, qj 85 .add 3 84 1, qm 8 85]
def Q41 : LC := (.seq (.seq (.ops Q9a) (.cond (.tmp 83) .skip (.exit 0))) (.seq (.block 1 (.seq (.ops Q99) (.ops Q7t))) (.ops Q7s)))
def Q7r : List GO := [qm 100 0, qm 101 1, qm 102 2, ⟨none, .call (some 103) 140 [(.tmp 101), (.tmp 102)]⟩, qn 104 100, qf 105 104 3, qs 105 103]
def Q7q : List GO := [qm 106 0, qV 107 4 6, qf 108 7 3, qV 109 9 108, ⟨none, .call (some 110) 134 [(.tmp 106), (.tmp 107), (.tmp 109)]⟩]
def code_judge_block_lc : LC := (.seq (.ops Q9i) (.seq (.ops Q9h) (.seq (.ops Q9g) (.seq (.ops Q9f) (.seq (.ops Q9e) (.seq (.ops Q9d) (.seq (.ops Q9c) (.seq (.seq (.ops Q9b) (.block 0 (.loop Q41))) (.seq (.ops Q7r) (.ops Q7q))))))))))
@[reducible] def Q2K : FuncId := 93
theorem Q7u : lowF Tryz.prog Tryz.f93 = some code_judge_block_lc := by kernel_rfl
theorem Q9j {a0 a1 a2 : Value} {w : World} {R : Ending → World → Prop} (h : code_judge_block_lc.wp Tryz.prog (retQ Tryz.prog [] R) (Qh [a0, a1, a2]) w) : Calls Tryz.prog Q2K ⟨[a0, a1, a2]⟩ w R :=
  Q6 Tryz.func93 Q7u (by kernel_rfl) (by kernel_rfl) h

/- 51 -/
def R_F_r0 : List GO := [⟨none, .alloc 4 30 [(vi 0), (vi 0)]⟩]
def R_F_r1 : List GO := [qm 5 0, qm 6 1, ⟨none, .build 7 [(vi 0), (vi 0)] [(0, (1, (.tmp 5))), (1, (1, (.tmp 6)))]⟩, qw 2 4 7]
def R_F_lc : LC := (.seq (.ops R_F_r0) (.seq (.ops R_F_r1) .ret))
@[reducible] def R_F : FuncId := 51
theorem R_F_low : lowF Tryz.prog Tryz.f51 = some R_F_lc := by kernel_rfl
theorem R_F_in {a0 a1 : Value} {w : World} {R : Ending → World → Prop} (h : R_F_lc.wp Tryz.prog (retQ Tryz.prog [.cell 4 30] R) (Qh [a0, a1]) w) : Calls Tryz.prog R_F ⟨[a0, a1]⟩ w R :=
  Q6 Tryz.func51 R_F_low (by kernel_rfl) (by kernel_rfl) h

/- 65 -/
def QpD : List GO := [qk 4 (vi 0)]
def QpC : List GO := [qm 7 0, qL 8 7, qj 9 .gtr 3 8 8]
def QpB : List GO := [qk 4 (vi 2)]
def QpA : List GO := [qk 5 (vi 0)]
def Qpz : List GO := [qm 10 5, qm 11 0, qL 12 11, qt 13 .lss 3 10 12]
def Qpy : List GO := [qm 16 0, qm 17 5, qi 18 3 16 17, qV 19 3 18, qm 20 1, ⟨none, .call (some 21) 115 [(.tmp 19), (.tmp 20)]⟩, qm 6 21]
def Qpx : List GO := [qm 22 6, qj 23 .neq 3 22 0]
def Qpw : List GO := [qm 24 6, qm 4 24]
def Qpv : List GO := [qm 14 5, qj 15 .add 3 14 1, qm 5 15]
def Qb5 : LC := (.seq (.seq (.ops Qpz) (.cond (.tmp 13) .skip (.exit 0))) (.seq (.block 1 (.seq (.ops Qpy) (.seq (.ops Qpx) (.cond (.tmp 23) (.seq (.ops Qpw) .ret) .skip)))) (.ops Qpv)))
def Qpu : List GO := [qk 4 (vi 0)]
def R_listForm_lc : LC := (.seq (.ops QpD) (.seq (.seq (.ops QpC) (.cond (.tmp 9) (.seq (.ops QpB) .ret) .skip)) (.seq (.seq (.ops QpA) (.block 0 (.loop Qb5))) (.seq (.ops Qpu) .ret))))
@[reducible] def Q3H : FuncId := 65
theorem Qm9 : lowF Tryz.prog Tryz.f65 = some R_listForm_lc := by kernel_rfl
theorem QpE {a0 a1 : Value} {w : World} {R : Ending → World → Prop} (h : R_listForm_lc.wp Tryz.prog (retQ Tryz.prog [.tmp 4] R) (Qh [a0, a1]) w) : Calls Tryz.prog Q3H ⟨[a0, a1]⟩ w R :=
  Q6 Tryz.func65 Qm9 (by kernel_rfl) (by kernel_rfl) h

/- 66 -/
def QiS : List GO := [qb 3 24 0, ⟨none, .alloc 6 30 [(vi 0), (vi 0)]⟩]
def QiR : List GO := [qf 13 3 0, ql 14 13, qm 15 1, qi 16 4 14 15, qV 17 4 16, ⟨none, .alloc 7 53 [(vi 0), vn, vn, vn]⟩, qw 4 7 17]
def QiQ : List GO := [qf 18 7 3, ql 19 18, qm 20 2, qi 21 12 19 20, qV 22 12 21, ⟨none, .alloc 8 79 [(vi 0), vn, vn, (vi 0), (vi 0), (vi 0), vn, vn, (vi 0), vn, vn, vn]⟩, qw 12 8 22]
def QiP : List GO := [qf 23 8 0, ql 24 23, qf 25 7 0, ql 26 25, qt 27 .lss 3 24 26, qm 28 27, qg 28 false (qf 29 8 0), qg 28 false (ql 30 29), qg 28 false (qj 31 .gtr 3 30 16), ⟨none, .pick 32 (.tmp 28) (.const (.bool true)) (.tmp 31)⟩]
def QiO : List GO := [qm 33 1, qm 34 2, ⟨none, .call (some 35) 116 [(.tmp 33), (.tmp 34)]⟩, ⟨none, .call (some 36) 51 [(.const (vi 1)), (.tmp 35)]⟩, qw 2 6 36]
def QiN : List GO := [qf 37 8 1, ql 38 37, qf 39 8 0, ql 40 39, ⟨none, .call (some 41) 65 [(.tmp 38), (.tmp 40)]⟩, qm 9 41]
def QiM : List GO := [qm 42 9, qj 43 .neq 3 42 0]
def QiL : List GO := [qm 44 9, qm 45 1, qm 46 2, ⟨none, .call (some 47) 116 [(.tmp 45), (.tmp 46)]⟩, ⟨none, .call (some 48) 51 [(.tmp 44), (.tmp 47)]⟩, qw 2 6 48]
def QiK : List GO := [qm 49 2, qj 50 .eql 3 49 0, qm 51 50, qg 51 true (qf 52 8 0), qg 51 true (ql 53 52), qg 51 true (qf 54 7 0), qg 51 true (ql 55 54), qg 51 true (qt 56 .neq 3 53 55), qg 51 true (qm 57 56), qg 57 false (qf 58 8 1), qg 57 false (ql 59 58), qg 57 false (qf 60 7 1), qg 57 false (ql 61 60), ⟨some (57, false), .call (some 62) 23 [(.tmp 59), (.tmp 61)]⟩, ⟨some (57, false), .un 63 .not (.tmp 62)⟩, ⟨some (51, true), .pick 64 (.tmp 57) (.const (.bool true)) (.tmp 63)⟩, ⟨none, .pick 65 (.tmp 51) (.tmp 64) (.const (.bool false))⟩]
def QiJ : List GO := [qm 66 1, qm 67 2, ⟨none, .call (some 68) 116 [(.tmp 66), (.tmp 67)]⟩, ⟨none, .call (some 69) 51 [(.const (vi 9)), (.tmp 68)]⟩, qw 2 6 69]
def QfC : List GO := [qf 70 8 2, ql 71 70, qL 72 71, qj 73 .gtr 3 72 40]
def QfB : List GO := [qm 74 1, qm 75 2, ⟨none, .call (some 76) 116 [(.tmp 74), (.tmp 75)]⟩, ⟨none, .call (some 77) 51 [(.const (vi 2)), (.tmp 76)]⟩, qw 2 6 77]
def QfA : List GO := [qk 10 (vi 0)]
def Qfz : List GO := [qm 78 10, qf 79 8 2, ql 80 79, qL 81 80, qt 82 .lss 3 78 81]
def Qfy : List GO := [qV 85 1 3, qf 86 8 2, ql 87 86, qm 88 10, qi 89 8 87 88, qV 90 8 89, ⟨none, .call (some 91) 72 [(.tmp 85), (.tmp 90)]⟩, qm 11 91]
def QfE : List (List Nat) := [[],[],[1],[],[2,3],[4],[0,5],[6,6,0,1,2,3,4,5,6]]
def Qfx : List GO := [qm 92 11, qj 93 .neq 3 92 0]
def Qfw : List GO := [qm 94 11, qm 95 1, qm 96 2, qm 97 10, ⟨none, .call (some 98) 84 [(.tmp 95), (.tmp 96), (.tmp 97)]⟩, ⟨none, .call (some 99) 51 [(.tmp 94), (.tmp 98)]⟩, qw 2 6 99]
def Qfv : List GO := [qm 83 10, qj 84 .add 3 83 1, qm 10 84]
def Q5D : LC := (.seq (.seq (.ops Qfz) (.cond (.tmp 82) .skip (.exit 0))) (.seq (.block 1 (.seq (.draw Qfy QfE) (.seq (.ops Qfx) (.cond (.tmp 93) (.seq (.ops Qfw) .ret) .skip)))) (.ops Qfv)))
def Qfu : List GO := [qV 100 4 7, qf 101 8 3, qV 102 9 101, ⟨none, .call (some 103) 79 [(.tmp 100), (.tmp 102)]⟩, qm 12 103]
def Qft : List GO := [qm 104 12, qj 105 .neq 3 104 0]
def Qfs : List GO := [qm 106 12, qm 107 1, qm 108 2, ⟨none, .call (some 109) 85 [(.tmp 107), (.tmp 108)]⟩, ⟨none, .call (some 110) 51 [(.tmp 106), (.tmp 109)]⟩, qw 2 6 110]
def Qfr : List GO := [⟨none, .build 111 [(vi 0), (vi 0)] []⟩, qw 2 6 111]
def R_blockFault_lc : LC := (.seq (.ops QiS) (.seq (.ops QiR) (.seq (.ops QiQ) (.seq (.seq (.ops QiP) (.cond (.tmp 32) (.seq (.ops QiO) .ret) .skip)) (.seq (.seq (.ops QiN) (.seq (.ops QiM) (.cond (.tmp 43) (.seq (.ops QiL) .ret) .skip))) (.seq (.seq (.ops QiK) (.cond (.tmp 65) (.seq (.ops QiJ) .ret) .skip)) (.seq (.seq (.ops QfC) (.cond (.tmp 73) (.seq (.ops QfB) .ret) .skip)) (.seq (.seq (.ops QfA) (.block 0 (.loop Q5D))) (.seq (.seq (.ops Qfu) (.seq (.ops Qft) (.cond (.tmp 105) (.seq (.ops Qfs) .ret) .skip))) (.seq (.ops Qfr) .ret))))))))))
@[reducible] def Q14 : FuncId := 66
theorem QfD : lowF Tryz.prog Tryz.f66 = some R_blockFault_lc := by kernel_rfl
theorem QiT {a0 a1 a2 : Value} {w : World} {R : Ending → World → Prop} (h : R_blockFault_lc.wp Tryz.prog (retQ Tryz.prog [.cell 6 30] R) (Qh [a0, a1, a2]) w) : Calls Tryz.prog Q14 ⟨[a0, a1, a2]⟩ w R :=
  Q6 Tryz.func66 QfD (by kernel_rfl) (by kernel_rfl) h

/- 52 -/
def Qm6 : List GO := [qb 2 79 0, qb 3 79 1, qk 4 (.bool false)]
def Qm5 : List GO := [qf 6 2 0, ql 7 6, qf 8 3 0, ql 9 8, qt 10 .neq 3 7 9, qm 11 10, qg 11 false (qf 12 2 1), qg 11 false (ql 13 12), qg 11 false (qf 14 3 1), qg 11 false (ql 15 14), ⟨some (11, false), .call (some 16) 23 [(.tmp 13), (.tmp 15)]⟩, ⟨some (11, false), .un 17 .not (.tmp 16)⟩, ⟨none, .pick 18 (.tmp 11) (.const (.bool true)) (.tmp 17)⟩, qm 19 18, qg 19 false (qf 20 2 2), qg 19 false (ql 21 20), qg 19 false (qL 22 21), qg 19 false (qf 23 3 2), qg 19 false (ql 24 23), qg 19 false (qL 25 24), qg 19 false (qt 26 .neq 3 22 25), ⟨none, .pick 27 (.tmp 19) (.const (.bool true)) (.tmp 26)⟩]
def Qm4 : List GO := [qk 4 (.bool false)]
def Qm3 : List GO := [qk 5 (vi 0)]
def Qm2 : List GO := [qm 28 5, qf 29 2 2, ql 30 29, qL 31 30, qt 32 .lss 3 28 31]
def Qm1 : List GO := [qf 35 2 2, ql 36 35, qm 37 5, qi 38 8 36 37, qV 39 8 38, qf 40 3 2, ql 41 40, qm 42 5, qi 43 8 41 42, qV 44 8 43, ⟨none, .call (some 45) 100 [(.tmp 39), (.tmp 44)]⟩, ⟨none, .un 46 .not (.tmp 45)⟩]
def Qm8 : List (List Nat) := [[],[0],[],[1,2],[3],[],[5],[],[6,7],[8],[4,9],[10]]
def Qm0 : List GO := [qk 4 (.bool false)]
def QlZ : List GO := [qm 33 5, qj 34 .add 3 33 1, qm 5 34]
def Q7G : LC := (.seq (.seq (.ops Qm2) (.cond (.tmp 32) .skip (.exit 0))) (.seq (.block 1 (.seq (.draw Qm1 Qm8) (.cond (.tmp 46) (.seq (.ops Qm0) .ret) .skip))) (.ops QlZ)))
def QlY : List GO := [qf 47 2 3, qf 48 47 0, ql 49 48, qf 50 3 3, qf 51 50 0, ql 52 51, qt 53 .eql 3 49 52, qm 54 53, qg 54 true (qf 55 2 3), qg 54 true (qf 56 55 1), qg 54 true (ql 57 56), qg 54 true (qf 58 3 3), qg 54 true (qf 59 58 1), qg 54 true (ql 60 59), qg 54 true (qt 61 .eql 3 57 60), ⟨none, .pick 62 (.tmp 54) (.tmp 61) (.const (.bool false))⟩, qm 63 62, qg 63 true (qf 64 2 3), qg 63 true (qf 65 64 2), qg 63 true (qV 66 3 65), qg 63 true (qf 67 3 3), qg 63 true (qf 68 67 2), qg 63 true (qV 69 3 68), ⟨some (63, true), .call (some 70) 101 [(.tmp 66), (.tmp 69)]⟩, ⟨none, .pick 71 (.tmp 63) (.tmp 70) (.const (.bool false))⟩, qm 72 71, qg 72 true (qf 73 2 3), qg 72 true (qf 74 73 5), qg 72 true (qV 75 3 74), qg 72 true (qf 76 3 3), qg 72 true (qf 77 76 5), qg 72 true (qV 78 3 77), ⟨some (72, true), .call (some 79) 101 [(.tmp 75), (.tmp 78)]⟩, ⟨none, .pick 80 (.tmp 72) (.tmp 79) (.const (.bool false))⟩, qm 81 80, qg 81 true (qf 82 2 3), qg 81 true (qf 83 82 8), qg 81 true (ql 84 83), qg 81 true (qf 85 3 3), qg 81 true (qf 86 85 8), qg 81 true (ql 87 86), ⟨some (81, true), .call (some 88) 25 [(.tmp 84), (.tmp 87)]⟩, ⟨none, .pick 89 (.tmp 81) (.tmp 88) (.const (.bool false))⟩, qm 4 89]
def R_sameBlock_lc : LC := (.seq (.ops Qm6) (.seq (.seq (.ops Qm5) (.cond (.tmp 27) (.seq (.ops Qm4) .ret) .skip)) (.seq (.seq (.ops Qm3) (.block 0 (.loop Q7G))) (.seq (.ops QlY) .ret))))
@[reducible] def Q3n : FuncId := 52
theorem Qiy : lowF Tryz.prog Tryz.f52 = some R_sameBlock_lc := by kernel_rfl
theorem Qm7 {a0 a1 : Value} {w : World} {R : Ending → World → Prop} (h : R_sameBlock_lc.wp Tryz.prog (retQ Tryz.prog [.tmp 4] R) (Qh [a0, a1]) w) : Calls Tryz.prog Q3n ⟨[a0, a1]⟩ w R :=
  Q6 Tryz.func52 Qiy (by kernel_rfl) (by kernel_rfl) h

/- 112 -/
def Qff : List GO := [qk 2 vn]
def Qfe : List GO := [qk 3 vn]
def Qfd : List GO := [qm 6 0, qL 7 6, qk 8 (vi 0)]
def Qfc : List GO := [qt 9 .lss 3 8 7]
def Qfb : List GO := [qi 10 3 6 8, qV 11 3 10, ⟨none, .alloc 5 112 [(vi 0), (vi 0), vn]⟩, qw 3 5 11]
def Qfa : List GO := [qm 12 3, qV 13 3 5, ⟨none, .call (some 14) 151 [(.tmp 13)]⟩, ⟨none, .buildS 15 112 1 [(vi 0), (vi 0), vn] [(0, (3, (.tmp 14)))]⟩, ⟨none, .raw ⟨(some 16), (.call ⟨(.builtin .append), #[(.tmp 12), (.tmp 15)], #[50, 50]⟩), 50, "", #[], none⟩⟩, qm 3 16]
def Qf9 : List GO := [qj 17 .add 3 8 1, qm 8 17]
def Q5A : LC := (.seq (.ops Qfc) (.seq (.cond (.tmp 9) .skip (.exit 0)) (.seq (.block 1 (.seq (.ops Qfb) (.ops Qfa))) (.ops Qf9))))
def Qf8 : List GO := [qm 18 3, qm 2 18]
def code_ownTypes_lc : LC := (.seq (.ops Qff) (.seq (.ops Qfe) (.seq (.seq (.ops Qfd) (.block 0 (.loop Q5A))) (.seq (.ops Qf8) .ret))))
@[reducible] def Q5s : FuncId := 112
theorem Qcw : lowF Tryz.prog Tryz.f112 = some code_ownTypes_lc := by kernel_rfl
theorem Qfg {a0 : Value} {w : World} {R : Ending → World → Prop} (h : code_ownTypes_lc.wp Tryz.prog (retQ Tryz.prog [.tmp 2] R) (Qh [a0]) w) : Calls Tryz.prog Q5s ⟨[a0]⟩ w R :=
  Q6 Tryz.func112 Qcw (by kernel_rfl) (by kernel_rfl) h

/- 113 -/
def QoX : List GO := [qb 1 43 0, ⟨none, .alloc 2 43 [(vi 0), vn, vn]⟩]
def QoW : List GO := [qf 3 1 0, ql 4 3, qf 5 1 1, ql 6 5, ⟨none, .call (some 7) 114 [(.tmp 6)]⟩, qf 8 1 2, ql 9 8, ⟨none, .call (some 10) 114 [(.tmp 9)]⟩, ⟨none, .build 11 [(vi 0), vn, vn] [(0, (1, (.tmp 4))), (1, (1, (.tmp 7))), (2, (1, (.tmp 10)))]⟩, qw 3 2 11]
def QoZ : List (List Nat) := [[],[0],[],[2],[3],[],[5],[6,4],[1,4,7],[8,7,0,1,2,3,4,5,6,7,8]]
def code_ownTo_lc : LC := (.seq (.ops QoX) (.seq (.draw QoW QoZ) .ret))
@[reducible] def Qo9 : FuncId := 113
theorem Qlt : lowF Tryz.prog Tryz.f113 = some code_ownTo_lc := by kernel_rfl
theorem QoY {a0 : Value} {w : World} {R : Ending → World → Prop} (h : code_ownTo_lc.wp Tryz.prog (retQ Tryz.prog [.cell 2 43] R) (Qh [a0]) w) : Calls Tryz.prog Qo9 ⟨[a0]⟩ w R :=
  Q6 Tryz.func113 Qlt (by kernel_rfl) (by kernel_rfl) h

/- 114 -/
def Q5a : List GO := [qk 2 vn]
def Q59 : List GO := [qm 3 0, ⟨none, .bin 4 .eql 41 (.tmp 3) (.const vn)⟩]
def Q58 : List GO := [qk 2 vn]
def Q57 : List GO := [⟨none, .raw ⟨(some 5), (.buildSlice 41 0 #[]), 41, "", #[], none⟩⟩, qm 6 0, ⟨none, .raw ⟨(some 7), (.call ⟨(.builtin .append), #[(.tmp 5), (.tmp 6)], #[41, 41]⟩), 41, "", #[], none⟩⟩, qm 2 7]
def slices_Clone_int_int_lc : LC := (.seq (.ops Q5a) (.seq (.seq (.ops Q59) (.cond (.tmp 4) (.seq (.ops Q58) .ret) .skip)) (.seq (.ops Q57) .ret)))
@[reducible] def Q2D : FuncId := 114
theorem Q4C : lowF Tryz.prog Tryz.f114 = some slices_Clone_int_int_lc := by kernel_rfl
theorem Q30 {a0 : Value} {w : World} {R : Ending → World → Prop} (h : slices_Clone_int_int_lc.wp Tryz.prog (retQ Tryz.prog [.tmp 2] R) (Qh [a0]) w) : Calls Tryz.prog Q2D ⟨[a0]⟩ w R :=
  Q6 Tryz.func114 Q4C (by kernel_rfl) (by kernel_rfl) h

/- 145 -/
def Q1D : List GO := [qk 6 (.bool false)]
def Q1C : List GO := [qm 10 0, qL 11 10, qm 12 1, qL 13 12, qt 14 .neq 3 11 13]
def Q1B : List GO := [qk 6 (.bool false)]
def Q1A : List GO := [qm 15 0, qL 16 15, qk 17 (vi 0)]
def Q1z : List GO := [qt 18 .lss 3 17 16]
def Q1y : List GO := [qm 19 17, qi 20 3 15 17, qV 21 3 20, ⟨none, .alloc 8 112 [(vi 0), (vi 0), vn]⟩, qm 7 19, qw 3 8 21]
def Q1x : List GO := [qm 22 1, qm 23 7, qi 24 3 22 23, qV 25 3 24, ⟨none, .alloc 9 112 [(vi 0), (vi 0), vn]⟩, qw 3 9 25]
def Q1w : List GO := [qm 26 2, qV 27 3 8, qV 28 3 9, ⟨none, .callv (some 29) (.tmp 26) [(.tmp 27), (.tmp 28)]⟩, ⟨none, .un 30 .not (.tmp 29)⟩]
def Q1v : List GO := [qk 6 (.bool false)]
def Q1u : List GO := [qj 31 .add 3 17 1, qm 17 31]
def QU : LC := (.seq (.ops Q1z) (.seq (.cond (.tmp 18) .skip (.exit 0)) (.seq (.block 1 (.seq (.ops Q1y) (.seq (.ops Q1x) (.seq (.ops Q1w) (.cond (.tmp 30) (.seq (.ops Q1v) .ret) .skip))))) (.ops Q1u))))
def Q1r : List GO := [qk 6 (.bool true)]
def slices_EqualFunc_api_Type_api_Type_api_Type_api_Type_lc : LC := (.seq (.ops Q1D) (.seq (.seq (.ops Q1C) (.cond (.tmp 14) (.seq (.ops Q1B) .ret) .skip)) (.seq (.seq (.ops Q1A) (.block 0 (.loop QU))) (.seq (.ops Q1r) .ret))))
@[reducible] def Qj : FuncId := 145
theorem Q1s : lowF Tryz.prog Tryz.f145 = some slices_EqualFunc_api_Type_api_Type_api_Type_api_Type_lc := by kernel_rfl
theorem Q1E {a0 a1 a2 : Value} {w : World} {R : Ending → World → Prop} (h : slices_EqualFunc_api_Type_api_Type_api_Type_api_Type_lc.wp Tryz.prog (retQ Tryz.prog [.tmp 6] R) (Qh [a0, a1, a2]) w) : Calls Tryz.prog Qj ⟨[a0, a1, a2]⟩ w R :=
  Q6 Tryz.func145 Q1s (by kernel_rfl) (by kernel_rfl) h

/- 127 -/
def Qow : List GO := [qb 2 112 0, qb 3 112 1, qk 4 (.bool false)]
def Qov : List GO := [qf 5 2 0, ql 6 5, qf 7 3 0, ql 8 7, qt 9 .eql 3 6 8, qm 10 9, qg 10 true (qf 11 2 1), qg 10 true (ql 12 11), qg 10 true (qf 13 3 1), qg 10 true (ql 14 13), qg 10 true (qt 15 .eql 3 12 14), ⟨none, .pick 16 (.tmp 10) (.tmp 15) (.const (.bool false))⟩, qm 17 16, qg 17 true (qf 18 2 2), qg 17 true (ql 19 18), qg 17 true (qf 20 3 2), qg 17 true (ql 21 20), ⟨some (17, true), .call (some 22) 145 [(.tmp 19), (.tmp 21), (.func 127)]⟩, ⟨none, .pick 23 (.tmp 17) (.tmp 22) (.const (.bool false))⟩, qm 4 23]
def types_Same_lc : LC := (.seq (.ops Qow) (.seq (.ops Qov) .ret))
@[reducible] def QnV : FuncId := 127
theorem Qlh : lowF Tryz.prog Tryz.f127 = some types_Same_lc := by kernel_rfl
theorem Qox {a0 a1 : Value} {w : World} {R : Ending → World → Prop} (h : types_Same_lc.wp Tryz.prog (retQ Tryz.prog [.tmp 4] R) (Qh [a0, a1]) w) : Calls Tryz.prog QnV ⟨[a0, a1]⟩ w R :=
  Q6 Tryz.func127 Qlh (by kernel_rfl) (by kernel_rfl) h

/- 74 -/
def QpH : List GO := [qb 2 112 0, qb 3 112 1, qk 4 (.bool false)]
def QpG : List GO := [qf 5 2 0, ql 6 5, qf 7 3 0, ql 8 7, qt 9 .eql 3 6 8, qm 10 9, qg 10 true (qf 11 2 1), qg 10 true (ql 12 11), qg 10 true (qf 13 3 1), qg 10 true (ql 14 13), qg 10 true (qt 15 .eql 3 12 14), ⟨none, .pick 16 (.tmp 10) (.tmp 15) (.const (.bool false))⟩, qm 17 16, qg 17 true (qf 18 2 2), qg 17 true (ql 19 18), qg 17 true (qf 20 3 2), qg 17 true (ql 21 20), ⟨some (17, true), .call (some 22) 23 [(.tmp 19), (.tmp 21)]⟩, ⟨none, .pick 23 (.tmp 17) (.tmp 22) (.const (.bool false))⟩, qm 4 23]
def R_SameType_lc : LC := (.seq (.ops QpH) (.seq (.ops QpG) .ret))
@[reducible] def QcS : FuncId := 74
theorem Qmq : lowF Tryz.prog Tryz.f74 = some R_SameType_lc := by kernel_rfl
theorem QpI {a0 a1 : Value} {w : World} {R : Ending → World → Prop} (h : R_SameType_lc.wp Tryz.prog (retQ Tryz.prog [.tmp 4] R) (Qh [a0, a1]) w) : Calls Tryz.prog QcS ⟨[a0, a1]⟩ w R :=
  Q6 Tryz.func74 Qmq (by kernel_rfl) (by kernel_rfl) h

/- 86 -/
def Qnq : List GO := [qb 1 112 0, qk 2 (.bool false)]
def Qnp : List GO := [qV 3 3 1, ⟨none, .call (some 4) 141 [(.tmp 3), (.const (vi 2000))]⟩, qj 5 .lss 3 4 0, qm 2 5]
def R_GreatType_lc : LC := (.seq (.ops Qnq) (.seq (.ops Qnp) .ret))
@[reducible] def QkE : FuncId := 86
theorem QkD : lowF Tryz.prog Tryz.f86 = some R_GreatType_lc := by kernel_rfl
theorem Qnr {a0 : Value} {w : World} {R : Ending → World → Prop} (h : R_GreatType_lc.wp Tryz.prog (retQ Tryz.prog [.tmp 2] R) (Qh [a0]) w) : Calls Tryz.prog QkE ⟨[a0]⟩ w R :=
  Q6 Tryz.func86 QkD (by kernel_rfl) (by kernel_rfl) h

/- 153 -/
def Qu4 : List GO := [qk 2 (.string ⟨#[]⟩)]
def Qu3 : List GO := [qm 3 0, qj 4 .lss 3 3 1, qm 5 4, qg 5 false (qm 6 0), qg 5 false (qj 7 .gtr 3 6 14), ⟨none, .pick 8 (.tmp 5) (.const (.bool true)) (.tmp 7)⟩]
def Qu2 : List GO := [qk 2 (.string ⟨#[]⟩)]
def Qu1 : List GO := [⟨none, .build 9 [(.string ⟨#[]⟩), (.string ⟨#[]⟩), (.string ⟨#[]⟩), (.string ⟨#[]⟩), (.string ⟨#[]⟩), (.string ⟨#[]⟩), (.string ⟨#[]⟩), (.string ⟨#[]⟩), (.string ⟨#[]⟩), (.string ⟨#[]⟩), (.string ⟨#[]⟩), (.string ⟨#[]⟩), (.string ⟨#[]⟩), (.string ⟨#[]⟩), (.string ⟨#[]⟩)] [(0, (1, (.const (.string ⟨#[]⟩)))), (1, (1, (.const (.string ⟨#[110]⟩)))), (2, (1, (.const (.string ⟨#[97, 98, 107]⟩)))), (3, (1, (.const (.string ⟨#[]⟩)))), (4, (1, (.const (.string ⟨#[97]⟩)))), (5, (1, (.const (.string ⟨#[97, 114]⟩)))), (6, (1, (.const (.string ⟨#[97, 107]⟩)))), (7, (1, (.const (.string ⟨#[97, 98, 107]⟩)))), (8, (1, (.const (.string ⟨#[97, 98]⟩)))), (9, (1, (.const (.string ⟨#[97, 98]⟩)))), (10, (1, (.const (.string ⟨#[97, 98, 99]⟩)))), (11, (1, (.const (.string ⟨#[97]⟩)))), (12, (1, (.const (.string ⟨#[]⟩)))), (13, (1, (.const (.string ⟨#[97]⟩)))), (14, (1, (.const (.string ⟨#[107, 103, 114]⟩))))]⟩, qm 10 0, ⟨none, .raw ⟨(some 11), (.index 183 (.tmp 9) (.tmp 10)), 9, "", #[], none⟩⟩, qm 2 11]
def code_has_lc : LC := (.seq (.ops Qu4) (.seq (.seq (.ops Qu3) (.cond (.tmp 8) (.seq (.ops Qu2) .ret) .skip)) (.seq (.ops Qu1) .ret)))
@[reducible] def Qvu : FuncId := 153
theorem Qs1 : lowF Tryz.prog Tryz.f153 = some code_has_lc := by kernel_rfl
theorem Qid {a0 : Value} {w : World} {R : Ending → World → Prop} (h : code_has_lc.wp Tryz.prog (retQ Tryz.prog [.tmp 2] R) (Qh [a0]) w) : Calls Tryz.prog Qvu ⟨[a0]⟩ w R :=
  Q6 Tryz.func153 Qs1 (by kernel_rfl) (by kernel_rfl) h

/- 154 -/
def QrY : List GO := [qk 4 (.bool false)]
def QrX : List GO := [qm 5 0, ⟨none, .raw ⟨(some 6), (.convert 9 25 (.tmp 5)), 25, "", #[], none⟩⟩, qm 7 1, ⟨none, .call (some 8) 163 [(.tmp 6), (.tmp 7)]⟩, qm 4 8]
def code_with_lc : LC := (.seq (.ops QrY) (.seq (.ops QrX) .ret))
@[reducible] def Qs0 : FuncId := 154
theorem QoV : lowF Tryz.prog Tryz.f154 = some code_with_lc := by kernel_rfl
theorem QrZ {a0 a1 : Value} {w : World} {R : Ending → World → Prop} (h : code_with_lc.wp Tryz.prog (retQ Tryz.prog [.tmp 4] R) (Qh [a0, a1]) w) : Calls Tryz.prog Qs0 ⟨[a0, a1]⟩ w R :=
  Q6 Tryz.func154 QoV (by kernel_rfl) (by kernel_rfl) h

/- 157 -/
def Qfm : List GO := [qb 5 53 1, qb 6 43 2]
def Qfl : List GO := [qm 8 3, ⟨none, .un 9 .not (.tmp 8)⟩]
def Qfk : List GO := [qm 10 0, qf 11 6 0, ql 12 11, qj 13 .neq 3 12 0, qm 14 13, qg 14 false (qf 15 6 1), qg 14 false (ql 16 15), qg 14 false (qL 17 16), qg 14 false (qj 18 .gtr 3 17 0), ⟨none, .pick 19 (.tmp 14) (.const (.bool true)) (.tmp 18)⟩, qm 20 19, qg 20 false (qf 21 6 2), qg 20 false (ql 22 21), qg 20 false (qL 23 22), qg 20 false (qj 24 .gtr 3 23 0), ⟨none, .pick 25 (.tmp 20) (.const (.bool true)) (.tmp 24)⟩, ⟨none, .call (some 26) 88 [(.tmp 10), (.tmp 25), (.const (vi 4))]⟩]
def Qfj : List GO := [qm 27 0, qf 28 6 0, ql 29 28, qj 30 .lss 3 29 0, qm 31 30, qg 31 false (qf 32 6 0), qg 31 false (ql 33 32), qg 31 false (qf 34 5 3), qg 31 false (ql 35 34), qg 31 false (qL 36 35), qg 31 false (qt 37 .geq 3 33 36), ⟨none, .pick 38 (.tmp 31) (.const (.bool true)) (.tmp 37)⟩, ⟨none, .call (some 39) 88 [(.tmp 27), (.tmp 38), (.const (vi 1))]⟩]
def Qfi : List GO := [qm 40 0, qf 41 6 1, ql 42 41, qL 43 42, qj 44 .gtr 3 43 16, qm 45 44, qg 45 false (qf 46 6 2), qg 45 false (ql 47 46), qg 45 false (qL 48 47), qg 45 false (qj 49 .gtr 3 48 8), ⟨none, .pick 50 (.tmp 45) (.const (.bool true)) (.tmp 49)⟩, ⟨none, .call (some 51) 88 [(.tmp 40), (.tmp 50), (.const (vi 2))]⟩]
def code_judge_to_lc : LC := (.seq (.ops Qfm) (.seq (.seq (.ops Qfl) (.cond (.tmp 9) (.seq (.ops Qfk) .ret) .skip)) (.seq (.ops Qfj) (.ops Qfi))))
@[reducible] def QaE : FuncId := 157
theorem Qcx : lowF Tryz.prog Tryz.f157 = some code_judge_to_lc := by kernel_rfl
theorem Q5B {a0 a1 a2 a3 : Value} {w : World} {R : Ending → World → Prop} (h : code_judge_to_lc.wp Tryz.prog (retQ Tryz.prog [] R) (Qh [a0, a1, a2, a3]) w) : Calls Tryz.prog QaE ⟨[a0, a1, a2, a3]⟩ w R :=
  Q6 Tryz.func157 Qcx (by kernel_rfl) (by kernel_rfl) h

/- 87 -/
def QsI : List GO := [qb 1 112 0, ⟨none, .alloc 2 112 [(vi 0), (vi 0), vn]⟩]
def QsH : List GO := [qf 3 1 0, ql 4 3, qf 5 1 1, ql 6 5, qf 7 1 2, ql 8 7, ⟨none, .call (some 9) 38 [(.tmp 8)]⟩, ⟨none, .build 10 [(vi 0), (vi 0), vn] [(0, (1, (.tmp 4))), (1, (1, (.tmp 6))), (2, (1, (.tmp 9)))]⟩, qw 3 2 10]
def QsK : List (List Nat) := [[],[0],[],[2],[],[4],[5],[1,3,6],[7,6,0,1,2,3,4,5,6,7]]
def R_OwnType_lc : LC := (.seq (.ops QsI) (.seq (.draw QsH QsK) .ret))
@[reducible] def Qj8 : FuncId := 87
theorem Qqj : lowF Tryz.prog Tryz.f87 = some R_OwnType_lc := by kernel_rfl
theorem QsJ {a0 : Value} {w : World} {R : Ending → World → Prop} (h : R_OwnType_lc.wp Tryz.prog (retQ Tryz.prog [.cell 2 112] R) (Qh [a0]) w) : Calls Tryz.prog Qj8 ⟨[a0]⟩ w R :=
  Q6 Tryz.func87 Qqj (by kernel_rfl) (by kernel_rfl) h

/- 142 -/
def Qll : List GO := [qb 2 112 0, qk 4 (vi 0)]
def Qlk : List GO := [qV 5 3 2, ⟨none, .call (some 6) 159 [(.tmp 5), (.const (vi 4))]⟩, ⟨none, .un 7 .not (.tmp 6)⟩]
def Qlj : List GO := [qk 4 (vi 19)]
def Qli : List GO := [qV 8 3 2, qm 9 1, ⟨none, .call (some 10) 160 [(.tmp 8), (.tmp 9)]⟩, qm 4 10]
def types_Check_lc : LC := (.seq (.ops Qll) (.seq (.seq (.ops Qlk) (.cond (.tmp 7) (.seq (.ops Qlj) .ret) .skip)) (.seq (.ops Qli) .ret)))
@[reducible] def Q4X : FuncId := 142
theorem Qhp : lowF Tryz.prog Tryz.f142 = some types_Check_lc := by kernel_rfl
theorem Qlm {a0 a1 : Value} {w : World} {R : Ending → World → Prop} (h : types_Check_lc.wp Tryz.prog (retQ Tryz.prog [.tmp 4] R) (Qh [a0, a1]) w) : Calls Tryz.prog Q4X ⟨[a0, a1]⟩ w R :=
  Q6 Tryz.func142 Qhp (by kernel_rfl) (by kernel_rfl) h

/- 143 -/
def Q2B : List GO := [qk 4 (vi 0)]
def Q2A : List GO := [qm 6 0, qL 7 6, qk 8 (vi 0)]
def Q2z : List GO := [qt 9 .lss 3 8 7]
def Q2y : List GO := [qm 10 8, qm 5 10]
def Q2x : List GO := [qm 11 1, qm 12 0, qm 13 5, qi 14 3 12 13, qV 15 3 14, ⟨none, .callv (some 16) (.tmp 11) [(.tmp 15)]⟩]
def Q2w : List GO := [qm 17 5, qm 4 17]
def Q2v : List GO := [qj 18 .add 3 8 1, qm 8 18]
def Q1K : LC := (.seq (.ops Q2z) (.seq (.cond (.tmp 9) .skip (.exit 0)) (.seq (.block 1 (.seq (.ops Q2y) (.seq (.ops Q2x) (.cond (.tmp 16) (.seq (.ops Q2w) .ret) .skip)))) (.ops Q2v))))
def Q2u : List GO := [qk 4 (vi (-1))]
def slices_IndexFunc_api_Type_api_Type_lc : LC := (.seq (.ops Q2B) (.seq (.seq (.ops Q2A) (.block 0 (.loop Q1K))) (.seq (.ops Q2u) .ret)))
@[reducible] def QV : FuncId := 143
theorem Q2q : lowF Tryz.prog Tryz.f143 = some slices_IndexFunc_api_Type_api_Type_lc := by kernel_rfl
theorem Q2C {a0 a1 : Value} {w : World} {R : Ending → World → Prop} (h : slices_IndexFunc_api_Type_api_Type_lc.wp Tryz.prog (retQ Tryz.prog [.tmp 4] R) (Qh [a0, a1]) w) : Calls Tryz.prog QV ⟨[a0, a1]⟩ w R :=
  Q6 Tryz.func143 Q2q (by kernel_rfl) (by kernel_rfl) h

/- 115 -/
def Qmd : List GO := [qb 2 112 0, qk 4 (vi 0)]
def Qmc : List GO := [qV 5 3 2, ⟨none, .call (some 6) 131 [(.tmp 5), (.const (vi 4))]⟩, qj 7 .gtr 3 6 4]
def Qmb : List GO := [qk 4 (vi 19)]
def Qma : List GO := [qV 8 3 2, qm 9 1, ⟨none, .call (some 10) 152 [(.tmp 8), (.tmp 9)]⟩, qm 4 10]
def R_TypeFault_lc : LC := (.seq (.ops Qmd) (.seq (.seq (.ops Qmc) (.cond (.tmp 7) (.seq (.ops Qmb) .ret) .skip)) (.seq (.ops Qma) .ret)))
@[reducible] def Q5v : FuncId := 115
theorem QiU : lowF Tryz.prog Tryz.f115 = some R_TypeFault_lc := by kernel_rfl
theorem Qme {a0 a1 : Value} {w : World} {R : Ending → World → Prop} (h : R_TypeFault_lc.wp Tryz.prog (retQ Tryz.prog [.tmp 4] R) (Qh [a0, a1]) w) : Calls Tryz.prog Q5v ⟨[a0, a1]⟩ w R :=
  Q6 Tryz.func115 QiU (by kernel_rfl) (by kernel_rfl) h

/- 100 -/
def Qso : List GO := [qb 2 57 0, qb 3 57 1, qk 4 (.bool false)]
def Qsn : List GO := [qf 5 2 0, ql 6 5, qf 7 3 0, ql 8 7, qt 9 .eql 3 6 8, qm 10 9, qg 10 true (qf 11 2 1), qg 10 true (ql 12 11), qg 10 true (qf 13 3 1), qg 10 true (ql 14 13), qg 10 true (qt 15 .eql 3 12 14), ⟨none, .pick 16 (.tmp 10) (.tmp 15) (.const (.bool false))⟩, qm 17 16, qg 17 true (qf 18 2 2), qg 17 true (ql 19 18), qg 17 true (qf 20 3 2), qg 17 true (ql 21 20), qg 17 true (qt 22 .eql 3 19 21), ⟨none, .pick 23 (.tmp 17) (.tmp 22) (.const (.bool false))⟩, qm 24 23, qg 24 true (qf 25 2 3), qg 24 true (ql 26 25), qg 24 true (qf 27 3 3), qg 24 true (ql 28 27), qg 24 true (qt 29 .eql 3 26 28), ⟨none, .pick 30 (.tmp 24) (.tmp 29) (.const (.bool false))⟩, qm 31 30, qg 31 true (qf 32 2 4), qg 31 true (ql 33 32), qg 31 true (qf 34 3 4), qg 31 true (ql 35 34), qg 31 true (qt 36 .eql 3 33 35), ⟨none, .pick 37 (.tmp 31) (.tmp 36) (.const (.bool false))⟩, qm 38 37, qg 38 true (qf 39 2 5), qg 38 true (ql 40 39), qg 38 true (qf 41 3 5), qg 38 true (ql 42 41), qg 38 true (qt 43 .eql 2 40 42), ⟨none, .pick 44 (.tmp 38) (.tmp 43) (.const (.bool false))⟩, qm 45 44, qg 45 true (qf 46 2 6), qg 45 true (ql 47 46), qg 45 true (qf 48 3 6), qg 45 true (ql 49 48), ⟨some (45, true), .call (some 50) 25 [(.tmp 47), (.tmp 49)]⟩, ⟨none, .pick 51 (.tmp 45) (.tmp 50) (.const (.bool false))⟩, qm 52 51, qg 52 true (qf 53 2 7), qg 52 true (ql 54 53), qg 52 true (qf 55 3 7), qg 52 true (ql 56 55), ⟨some (52, true), .call (some 57) 25 [(.tmp 54), (.tmp 56)]⟩, ⟨none, .pick 58 (.tmp 52) (.tmp 57) (.const (.bool false))⟩, qm 4 58]
def R_sameIns_lc : LC := (.seq (.ops Qso) (.seq (.ops Qsn) .ret))
@[reducible] def Qsq : FuncId := 100
theorem Qps : lowF Tryz.prog Tryz.f100 = some R_sameIns_lc := by kernel_rfl
theorem Qsp {a0 a1 : Value} {w : World} {R : Ending → World → Prop} (h : R_sameIns_lc.wp Tryz.prog (retQ Tryz.prog [.tmp 4] R) (Qh [a0, a1]) w) : Calls Tryz.prog Qsq ⟨[a0, a1]⟩ w R :=
  Q6 Tryz.func100 Qps (by kernel_rfl) (by kernel_rfl) h

/- 101 -/
def QuF : List GO := [qb 2 43 0, qb 3 43 1, qk 4 (.bool false)]
def QuE : List GO := [qf 5 2 0, ql 6 5, qf 7 3 0, ql 8 7, qt 9 .eql 3 6 8, qm 10 9, qg 10 true (qf 11 2 1), qg 10 true (ql 12 11), qg 10 true (qf 13 3 1), qg 10 true (ql 14 13), ⟨some (10, true), .call (some 15) 25 [(.tmp 12), (.tmp 14)]⟩, ⟨none, .pick 16 (.tmp 10) (.tmp 15) (.const (.bool false))⟩, qm 17 16, qg 17 true (qf 18 2 2), qg 17 true (ql 19 18), qg 17 true (qf 20 3 2), qg 17 true (ql 21 20), ⟨some (17, true), .call (some 22) 25 [(.tmp 19), (.tmp 21)]⟩, ⟨none, .pick 23 (.tmp 17) (.tmp 22) (.const (.bool false))⟩, qm 4 23]
def R_sameTo_lc : LC := (.seq (.ops QuF) (.seq (.ops QuE) .ret))
@[reducible] def QvB : FuncId := 101
theorem Qsm : lowF Tryz.prog Tryz.f101 = some R_sameTo_lc := by kernel_rfl
theorem QuG {a0 a1 : Value} {w : World} {R : Ending → World → Prop} (h : R_sameTo_lc.wp Tryz.prog (retQ Tryz.prog [.tmp 4] R) (Qh [a0, a1]) w) : Calls Tryz.prog QvB ⟨[a0, a1]⟩ w R :=
  Q6 Tryz.func101 Qsm (by kernel_rfl) (by kernel_rfl) h

/- 151 -/
def Qib : List GO := [qb 1 112 0, ⟨none, .alloc 2 112 [(vi 0), (vi 0), vn]⟩]
def Qia : List GO := [qf 4 1 0, ql 5 4, qf 6 1 1, ql 7 6, ⟨none, .build 8 [(vi 0), (vi 0), vn] [(0, (1, (.tmp 5))), (1, (1, (.tmp 7)))]⟩, ⟨none, .alloc 3 112 [(vi 0), (vi 0), vn]⟩, qw 3 3 8]
def Qi9 : List GO := [qf 9 1 2, ql 10 9, ⟨none, .call (some 11) 112 [(.tmp 10)]⟩, qf 12 3 2, qs 12 11]
def Qi8 : List GO := [qV 13 3 3, qw 3 2 13]
def code_ownType_lc : LC := (.seq (.ops Qib) (.seq (.ops Qia) (.seq (.ops Qi9) (.seq (.ops Qi8) .ret))))
@[reducible] def Q6g : FuncId := 151
theorem Qfh : lowF Tryz.prog Tryz.f151 = some code_ownType_lc := by kernel_rfl
theorem Qic {a0 : Value} {w : World} {R : Ending → World → Prop} (h : code_ownType_lc.wp Tryz.prog (retQ Tryz.prog [.cell 2 112] R) (Qh [a0]) w) : Calls Tryz.prog Q6g ⟨[a0]⟩ w R :=
  Q6 Tryz.func151 Qfh (by kernel_rfl) (by kernel_rfl) h

/- 141 -/
def Qpq : List GO := [qb 2 112 0, qk 4 (vi 0)]
def Qpp : List GO := [qm 6 1, qj 7 .sub 3 6 1, qm 1 7]
def Qpo : List GO := [qk 5 (vi 0)]
def Qpn : List GO := [qm 8 5, qf 9 2 2, ql 10 9, qL 11 10, qt 12 .lss 3 8 11, qm 13 12, qg 13 true (qm 14 1), qg 13 true (qj 15 .geq 3 14 0), ⟨none, .pick 16 (.tmp 13) (.tmp 15) (.const (.bool false))⟩]
def Qpm : List GO := [qf 19 2 2, ql 20 19, qm 21 5, qi 22 3 20 21, qV 23 3 22, qm 24 1, ⟨none, .call (some 25) 141 [(.tmp 23), (.tmp 24)]⟩, qm 1 25]
def Qpl : List GO := [qm 17 5, qj 18 .add 3 17 1, qm 5 18]
def Qb4 : LC := (.seq (.seq (.ops Qpn) (.cond (.tmp 16) .skip (.exit 0))) (.seq (.block 1 (.ops Qpm)) (.ops Qpl)))
def Qpk : List GO := [qm 26 1, qm 4 26]
def R_typeSize_lc : LC := (.seq (.ops Qpq) (.seq (.ops Qpp) (.seq (.seq (.ops Qpo) (.block 0 (.loop Qb4))) (.seq (.ops Qpk) .ret))))
@[reducible] def Q6L : FuncId := 141
theorem QlM : lowF Tryz.prog Tryz.f141 = some R_typeSize_lc := by kernel_rfl
theorem Qpr {a0 a1 : Value} {w : World} {R : Ending → World → Prop} (h : R_typeSize_lc.wp Tryz.prog (retQ Tryz.prog [.tmp 4] R) (Qh [a0, a1]) w) : Calls Tryz.prog Q6L ⟨[a0, a1]⟩ w R :=
  Q6 Tryz.func141 QlM (by kernel_rfl) (by kernel_rfl) h

/- 163 -/
def Q3D : List GO := [qk 4 (.bool false)]
def Q3C : List GO := [qm 5 0, qm 6 1, ⟨none, .call (some 7) 166 [(.tmp 5), (.tmp 6)]⟩, qj 8 .geq 3 7 0, qm 4 8]
def slices_Contains_byte_byte_lc : LC := (.seq (.ops Q3D) (.seq (.ops Q3C) .ret))
@[reducible] def Q2G : FuncId := 163
theorem Q3w : lowF Tryz.prog Tryz.f163 = some slices_Contains_byte_byte_lc := by kernel_rfl
theorem Q3E {a0 a1 : Value} {w : World} {R : Ending → World → Prop} (h : slices_Contains_byte_byte_lc.wp Tryz.prog (retQ Tryz.prog [.tmp 4] R) (Qh [a0, a1]) w) : Calls Tryz.prog Q2G ⟨[a0, a1]⟩ w R :=
  Q6 Tryz.func163 Q3w (by kernel_rfl) (by kernel_rfl) h

/- 159 -/
def Qot : List GO := [qb 2 112 0, qk 4 (.bool false)]
def Qos : List GO := [qm 7 1, qj 8 .lss 3 7 0]
def Qor : List GO := [qk 4 (.bool false)]
def Qoq : List GO := [qf 9 2 2, ql 10 9, qL 11 10, qk 12 (vi 0)]
def Qop : List GO := [qt 13 .lss 3 12 11]
def Qoo : List GO := [qi 14 3 10 12, qV 15 3 14, ⟨none, .alloc 6 112 [(vi 0), (vi 0), vn]⟩, qw 3 6 15]
def Qon : List GO := [qV 16 3 6, qm 17 1, qj 18 .sub 3 17 1, ⟨none, .call (some 19) 159 [(.tmp 16), (.tmp 18)]⟩, ⟨none, .un 20 .not (.tmp 19)⟩]
def Qom : List GO := [qk 4 (.bool false)]
def Qol : List GO := [qj 21 .add 3 12 1, qm 12 21]
def Q9z : LC := (.seq (.ops Qop) (.seq (.cond (.tmp 13) .skip (.exit 0)) (.seq (.block 1 (.seq (.ops Qoo) (.seq (.ops Qon) (.cond (.tmp 20) (.seq (.ops Qom) .ret) .skip)))) (.ops Qol))))
def Qok : List GO := [qk 4 (.bool true)]
def types_deep_lc : LC := (.seq (.ops Qot) (.seq (.seq (.ops Qos) (.cond (.tmp 8) (.seq (.ops Qor) .ret) .skip)) (.seq (.seq (.ops Qoq) (.block 0 (.loop Q9z))) (.seq (.ops Qok) .ret))))
@[reducible] def Q3F : FuncId := 159
theorem Qlg : lowF Tryz.prog Tryz.f159 = some types_deep_lc := by kernel_rfl
theorem Qou {a0 a1 : Value} {w : World} {R : Ending → World → Prop} (h : types_deep_lc.wp Tryz.prog (retQ Tryz.prog [.tmp 4] R) (Qh [a0, a1]) w) : Calls Tryz.prog Q3F ⟨[a0, a1]⟩ w R :=
  Q6 Tryz.func159 Qlg (by kernel_rfl) (by kernel_rfl) h

/- 160 -/
def Qle : List GO := [qb 2 112 0, qk 4 (vi 0)]
def Qld : List GO := [qf 8 2 0, ql 9 8]
def Qlc : List GO := [qj 11 .eql 3 9 1, qm 10 11]
def Qlb : List GO := [qf 12 2 1, ql 13 12, qj 14 .neq 3 13 0, qm 15 14, qg 15 false (qf 16 2 2), qg 15 false (ql 17 16), qg 15 false (qL 18 17), qg 15 false (qj 19 .gtr 3 18 0), ⟨none, .pick 20 (.tmp 15) (.const (.bool true)) (.tmp 19)⟩]
def Qla : List GO := [qk 4 (vi 4)]
def Ql9 : List GO := [qk 4 (vi 0)]
def Ql8 : List GO := [qj 22 .eql 3 9 2, qm 21 22]
def Ql7 : List GO := [qj 23 .eql 3 9 4, qm 21 23]
def Ql6 : List GO := [qf 24 2 2, ql 25 24, qL 26 25, qj 27 .gtr 3 26 0]
def Ql5 : List GO := [qk 4 (vi 4)]
def Qhc : List GO := [qj 29 .eql 3 9 3, qm 28 29]
def Qhb : List GO := [qf 30 2 2, ql 31 30, qL 32 31, qj 33 .gtr 3 32 8]
def Qha : List GO := [qk 4 (vi 2)]
def Qh9 : List GO := [qk 4 (vi 3)]
def Qh8 : List GO := [qf 34 2 1, ql 35 34, qj 36 .lss 3 35 0, qm 37 36, qg 37 false (qf 38 2 1), qg 37 false (ql 39 38), qg 37 false (qm 40 1), qg 37 false (qt 41 .geq 3 39 40), ⟨none, .pick 42 (.tmp 37) (.const (.bool true)) (.tmp 41)⟩]
def Qh7 : List GO := [qk 4 (vi 1)]
def Qh6 : List GO := [qf 43 2 2, ql 44 43, qL 45 44, qk 46 (vi 0)]
def Qh5 : List GO := [qt 47 .lss 3 46 45]
def Qh4 : List GO := [qi 48 3 44 46, qV 49 3 48, ⟨none, .alloc 6 112 [(vi 0), (vi 0), vn]⟩, qw 3 6 49]
def Qh3 : List GO := [qV 50 3 6, qm 51 1, ⟨none, .call (some 52) 160 [(.tmp 50), (.tmp 51)]⟩, qm 7 52]
def Qh2 : List GO := [qm 53 7, qj 54 .neq 3 53 0]
def Qh1 : List GO := [qm 55 7, qm 4 55]
def Qh0 : List GO := [qj 56 .add 3 46 1, qm 46 56]
def Q5L : LC := (.seq (.ops Qh5) (.seq (.cond (.tmp 47) .skip (.exit 1)) (.seq (.block 2 (.seq (.ops Qh4) (.seq (.ops Qh3) (.seq (.ops Qh2) (.cond (.tmp 54) (.seq (.ops Qh1) .ret) .skip))))) (.ops Qh0))))
def QgZ : List GO := [qk 4 (vi 0)]
def types_wrong_lc : LC := (.seq (.ops Qle) (.seq (.seq (.ops Qld) (.block 0 (.seq (.ops Qlc) (.cond (.tmp 10) (.seq (.seq (.ops Qlb) (.cond (.tmp 20) (.seq (.ops Qla) .ret) .skip)) (.seq (.ops Ql9) .ret)) (.seq (.seq (.ops Ql8) (.cond (.tmp 21) .skip (.ops Ql7))) (.cond (.tmp 21) (.seq (.ops Ql6) (.cond (.tmp 27) (.seq (.ops Ql5) .ret) .skip)) (.seq (.ops Qhc) (.cond (.tmp 28) (.seq (.ops Qhb) (.cond (.tmp 33) (.seq (.ops Qha) .ret) .skip)) (.seq (.ops Qh9) .ret))))))))) (.seq (.seq (.ops Qh8) (.cond (.tmp 42) (.seq (.ops Qh7) .ret) .skip)) (.seq (.seq (.ops Qh6) (.block 1 (.loop Q5L))) (.seq (.ops QgZ) .ret)))))
@[reducible] def QN : FuncId := 160
theorem Qhd : lowF Tryz.prog Tryz.f160 = some types_wrong_lc := by kernel_rfl
theorem Qlf {a0 a1 : Value} {w : World} {R : Ending → World → Prop} (h : types_wrong_lc.wp Tryz.prog (retQ Tryz.prog [.tmp 4] R) (Qh [a0, a1]) w) : Calls Tryz.prog QN ⟨[a0, a1]⟩ w R :=
  Q6 Tryz.func160 Qhd (by kernel_rfl) (by kernel_rfl) h

/- 131 -/
def QuS : List GO := [qb 2 112 0, qk 4 (vi 0)]
def QuR : List GO := [qk 5 (vi 0)]
def QuQ : List GO := [qk 6 (vi 0)]
def QuP : List GO := [qm 8 6, qf 9 2 2, ql 10 9, qL 11 10, qt 12 .lss 3 8 11, qm 13 12, qg 13 true (qm 14 5), qg 13 true (qm 15 1), qg 13 true (qt 16 .leq 3 14 15), ⟨none, .pick 17 (.tmp 13) (.tmp 16) (.const (.bool false))⟩]
def QuO : List GO := [qm 20 1, qj 21 .eql 3 20 0]
def QuN : List GO := [qk 4 (vi 1)]
def QuM : List GO := [qf 22 2 2, ql 23 22, qm 24 6, qi 25 3 23 24, qV 26 3 25, qm 27 1, qj 28 .sub 3 27 1, ⟨none, .call (some 29) 131 [(.tmp 26), (.tmp 28)]⟩, ⟨none, .bin 30 .add 3 (.const (vi 1)) (.tmp 29)⟩, qm 7 30]
def QuL : List GO := [qm 31 7, qm 32 5, qt 33 .gtr 3 31 32]
def QuK : List GO := [qm 34 7, qm 5 34]
def QuJ : List GO := [qm 18 6, qj 19 .add 3 18 1, qm 6 19]
def QkF : LC := (.seq (.seq (.ops QuP) (.cond (.tmp 17) .skip (.exit 0))) (.seq (.block 1 (.seq (.seq (.ops QuO) (.cond (.tmp 21) (.seq (.ops QuN) .ret) .skip)) (.seq (.ops QuM) (.seq (.ops QuL) (.cond (.tmp 33) (.ops QuK) .skip))))) (.ops QuJ)))
def Qtd : List GO := [qm 35 5, qm 4 35]
def R_DeepOf_lc : LC := (.seq (.ops QuS) (.seq (.ops QuR) (.seq (.seq (.ops QuQ) (.block 0 (.loop QkF))) (.seq (.ops Qtd) .ret))))
@[reducible] def Q4i : FuncId := 131
theorem Qte : lowF Tryz.prog Tryz.f131 = some R_DeepOf_lc := by kernel_rfl
theorem QuT {a0 a1 : Value} {w : World} {R : Ending → World → Prop} (h : R_DeepOf_lc.wp Tryz.prog (retQ Tryz.prog [.tmp 4] R) (Qh [a0, a1]) w) : Calls Tryz.prog Q4i ⟨[a0, a1]⟩ w R :=
  Q6 Tryz.func131 Qte (by kernel_rfl) (by kernel_rfl) h

/- 152 -/
def QlW : List GO := [qb 2 112 0, qk 4 (vi 0)]
def QlV : List GO := [qf 7 2 0, ql 8 7, qj 9 .lss 3 8 1, qm 10 9, qg 10 false (qf 11 2 0), qg 10 false (ql 12 11), qg 10 false (qj 13 .gtr 3 12 4), ⟨none, .pick 14 (.tmp 10) (.const (.bool true)) (.tmp 13)⟩]
def QlU : List GO := [qk 4 (vi 3)]
def QlT : List GO := [qf 15 2 0, ql 16 15, qj 17 .eql 3 16 1, qm 18 17, qg 18 true (qf 19 2 1), qg 18 true (ql 20 19), qg 18 true (qj 21 .neq 3 20 0), ⟨none, .pick 22 (.tmp 18) (.tmp 21) (.const (.bool false))⟩, qm 23 22, qg 23 false (qf 24 2 0), qg 23 false (ql 25 24), qg 23 false (qj 26 .neq 3 25 3), qg 23 false (qm 27 26), qg 27 true (qf 28 2 2), qg 27 true (ql 29 28), qg 27 true (qL 30 29), qg 27 true (qj 31 .gtr 3 30 0), ⟨some (23, false), .pick 32 (.tmp 27) (.tmp 31) (.const (.bool false))⟩, ⟨none, .pick 33 (.tmp 23) (.const (.bool true)) (.tmp 32)⟩]
def QlS : List GO := [qk 4 (vi 4)]
def QlR : List GO := [qf 34 2 2, ql 35 34, qL 36 35, qj 37 .gtr 3 36 8]
def QlQ : List GO := [qk 4 (vi 2)]
def QlP : List GO := [qf 38 2 0, ql 39 38, qj 40 .neq 3 39 1, qm 41 40, qg 41 true (qf 42 2 1), qg 41 true (ql 43 42), qg 41 true (qj 44 .lss 3 43 0), qg 41 true (qm 45 44), qg 45 false (qf 46 2 1), qg 45 false (ql 47 46), qg 45 false (qm 48 1), qg 45 false (qt 49 .geq 3 47 48), ⟨some (41, true), .pick 50 (.tmp 45) (.const (.bool true)) (.tmp 49)⟩, ⟨none, .pick 51 (.tmp 41) (.tmp 50) (.const (.bool false))⟩]
def QlO : List GO := [qk 4 (vi 1)]
def QlN : List GO := [qk 5 (vi 0)]
def Qiv : List GO := [qm 52 5, qf 53 2 2, ql 54 53, qL 55 54, qt 56 .lss 3 52 55]
def Qiu : List GO := [qf 59 2 2, ql 60 59, qm 61 5, qi 62 3 60 61, qV 63 3 62, qm 64 1, ⟨none, .call (some 65) 152 [(.tmp 63), (.tmp 64)]⟩, qm 6 65]
def Qit : List GO := [qm 66 6, qj 67 .neq 3 66 0]
def Qis : List GO := [qm 68 6, qm 4 68]
def Qir : List GO := [qm 57 5, qj 58 .add 3 57 1, qm 5 58]
def Q6m : LC := (.seq (.seq (.ops Qiv) (.cond (.tmp 56) .skip (.exit 0))) (.seq (.block 1 (.seq (.ops Qiu) (.seq (.ops Qit) (.cond (.tmp 67) (.seq (.ops Qis) .ret) .skip)))) (.ops Qir)))
def Qiq : List GO := [qk 4 (vi 0)]
def R_typeFault_lc : LC := (.seq (.ops QlW) (.seq (.seq (.ops QlV) (.cond (.tmp 14) (.seq (.ops QlU) .ret) .skip)) (.seq (.seq (.ops QlT) (.cond (.tmp 33) (.seq (.ops QlS) .ret) .skip)) (.seq (.seq (.ops QlR) (.cond (.tmp 37) (.seq (.ops QlQ) .ret) .skip)) (.seq (.seq (.ops QlP) (.cond (.tmp 51) (.seq (.ops QlO) .ret) .skip)) (.seq (.seq (.ops QlN) (.block 0 (.loop Q6m))) (.seq (.ops Qiq) .ret)))))))
@[reducible] def Q1G : FuncId := 152
theorem Qiw : lowF Tryz.prog Tryz.f152 = some R_typeFault_lc := by kernel_rfl
theorem QlX {a0 a1 : Value} {w : World} {R : Ending → World → Prop} (h : R_typeFault_lc.wp Tryz.prog (retQ Tryz.prog [.tmp 4] R) (Qh [a0, a1]) w) : Calls Tryz.prog Q1G ⟨[a0, a1]⟩ w R :=
  Q6 Tryz.func152 Qiw (by kernel_rfl) (by kernel_rfl) h

/- 155 -/
def Q45 : List GO := [qk 4 (.bool false)]
def Q44 : List GO := [qm 5 0, qm 6 1, ⟨none, .call (some 7) 164 [(.tmp 5), (.tmp 6)]⟩, qj 8 .geq 3 7 0, qm 4 8]
def slices_Contains_int_int_lc : LC := (.seq (.ops Q45) (.seq (.ops Q44) .ret))
@[reducible] def Q2Z : FuncId := 155
theorem Q3L : lowF Tryz.prog Tryz.f155 = some slices_Contains_int_int_lc := by kernel_rfl
theorem Q46 {a0 a1 : Value} {w : World} {R : Ending → World → Prop} (h : slices_Contains_int_int_lc.wp Tryz.prog (retQ Tryz.prog [.tmp 4] R) (Qh [a0, a1]) w) : Calls Tryz.prog Q2Z ⟨[a0, a1]⟩ w R :=
  Q6 Tryz.func155 Q3L (by kernel_rfl) (by kernel_rfl) h

/- 166 -/
def Q4q : List GO := [qk 4 (vi 0)]
def Q4p : List GO := [qm 6 0, qL 7 6, qk 8 (vi 0)]
def Q4o : List GO := [qt 9 .lss 3 8 7]
def Q4n : List GO := [qm 10 8, qm 5 10]
def Q4m : List GO := [qm 11 1, qm 12 0, qm 13 5, qi 14 1 12 13, ql 15 14, qt 16 .eql 5 11 15]
def Q4l : List GO := [qm 17 5, qm 4 17]
def Q4k : List GO := [qj 18 .add 3 8 1, qm 8 18]
def Q2F : LC := (.seq (.ops Q4o) (.seq (.cond (.tmp 9) .skip (.exit 0)) (.seq (.block 1 (.seq (.ops Q4n) (.seq (.ops Q4m) (.cond (.tmp 16) (.seq (.ops Q4l) .ret) .skip)))) (.ops Q4k))))
def Q4j : List GO := [qk 4 (vi (-1))]
def slices_Index_byte_byte_lc : LC := (.seq (.ops Q4q) (.seq (.seq (.ops Q4p) (.block 0 (.loop Q2F))) (.seq (.ops Q4j) .ret)))
@[reducible] def Q1T : FuncId := 166
theorem Q43 : lowF Tryz.prog Tryz.f166 = some slices_Index_byte_byte_lc := by kernel_rfl
theorem Q4r {a0 a1 : Value} {w : World} {R : Ending → World → Prop} (h : slices_Index_byte_byte_lc.wp Tryz.prog (retQ Tryz.prog [.tmp 4] R) (Qh [a0, a1]) w) : Calls Tryz.prog Q1T ⟨[a0, a1]⟩ w R :=
  Q6 Tryz.func166 Q43 (by kernel_rfl) (by kernel_rfl) h

/- 164 -/
def Q55 : List GO := [qk 4 (vi 0)]
def Q54 : List GO := [qm 6 0, qL 7 6, qk 8 (vi 0)]
def Q53 : List GO := [qt 9 .lss 3 8 7]
def Q52 : List GO := [qm 10 8, qm 5 10]
def Q51 : List GO := [qm 11 1, qm 12 0, qm 13 5, qi 14 1 12 13, ql 15 14, qt 16 .eql 3 11 15]
def Q50 : List GO := [qm 17 5, qm 4 17]
def Q4Z : List GO := [qj 18 .add 3 8 1, qm 8 18]
def Q2Y : LC := (.seq (.ops Q53) (.seq (.cond (.tmp 9) .skip (.exit 0)) (.seq (.block 1 (.seq (.ops Q52) (.seq (.ops Q51) (.cond (.tmp 16) (.seq (.ops Q50) .ret) .skip)))) (.ops Q4Z))))
def Q4Y : List GO := [qk 4 (vi (-1))]
def slices_Index_int_int_lc : LC := (.seq (.ops Q55) (.seq (.seq (.ops Q54) (.block 0 (.loop Q2Y))) (.seq (.ops Q4Y) .ret)))
@[reducible] def Q22 : FuncId := 164
theorem Q4B : lowF Tryz.prog Tryz.f164 = some slices_Index_int_int_lc := by kernel_rfl
theorem Q56 {a0 a1 : Value} {w : World} {R : Ending → World → Prop} (h : slices_Index_int_int_lc.wp Tryz.prog (retQ Tryz.prog [.tmp 4] R) (Qh [a0, a1]) w) : Calls Tryz.prog Q22 ⟨[a0, a1]⟩ w R :=
  Q6 Tryz.func164 Q4B (by kernel_rfl) (by kernel_rfl) h

end Go.Proofs.YtanlkfeogoganaaGreat
namespace Go.Proofs.YtanlkfeogoganaaGreat
open Go.Lir
set_option maxHeartbeats 1000000
attribute [local irreducible] LC.wp Q5 Q11 Q1f retQ Q2h LO.wp QD Calls
set_option linter.unusedSimpArgs false
set_option linter.unusedVariables false
theorem size_c : ∀ (t : Ty) {cx : Cx} {w : World} {L : List Res} {cs : List Value} {left : Int}, tyR.at cx cs t → -1 ≤ left → left ≤ 1000000 → St cx w L →
    Rets Tryz.prog Q6L [.agg ⟨cs⟩, .int .i64 left] w fun v w' => v = .int .i64 (t.size left) ∧ St cx w' L := by
  intro t
  induction t using Ty.ind with
  | h k r l ih =>
    intro cx w L cs left ht h1 h2 hS
    obtain ⟨v, rfl, hl⟩ := Qi ht
    simp only [Ty.kind, Ty.r, Ty.l] at hl ht ⊢
    have hlen := hl.len
    rw [Ty.size]
    all_goals refine Qpr ?_
    all_goals (unfold R_typeSize_lc; refine Q0 ?_; refine Q2 ?_; refine zb hS ?_; intro p2 w1 hS; refine zm ?_; refine zn ?_; refine Q0 ?_; refine Q2 ?_; refine zm ?_; refine zsu ?_; refine zm ?_; refine zn ?_; refine Q0 ?_; refine Q0 ?_; refine Q2 ?_; refine zm ?_; refine zn ?_; refine Qa ?_)
    refine zoL hS [2] (fun A LL ρ' w' => ∃ (j : Nat) (n : Int), Has ρ' A ∧ Has ρ' [(1, .int .i64 n), (5, .int .i64 j)] ∧ (j ≤ l.length) ∧ (n ≤ 1000000) ∧ (-2 ≤ n) ∧ (Tys.size l (left - 1) = Tys.size (l.drop j) n) ∧ St cx w' (LL)) (fun ρ' _ => (l.length - iv (ρ' 5)).toNat) ?_ ?_
    · exact ⟨0, left - 1, zh, zh, (by omega), (by omega), (by omega), by simp, hS.sp⟩
    rintro ρ w1 ⟨j, n, hA, hρ, hj, hn, hn1, hd, hS⟩; obtain ⟨ρ, rfl⟩ := env2 hA hρ
    unfold Qb4
    all_goals (refine Q0 ?_; refine Q0 ?_; refine Q2 ?_; refine zm ?_; refine Q1 rfl ?_; refine zl hS ?_; refine zL ?_)
    all_goals (first | (refine Q1V ?_) | (refine Q1W ?_) | (refine QG rfl rfl (fun hc => ?_) (fun hc => ?_)))
    all_goals (refine zm ?_; (first | refine s_gn rfl rfl ?_ | (refine s_gy rfl ?_; refine zm ?_)))
    all_goals (first | refine s_gn rfl rfl ?_ | (refine s_gy rfl ?_; (first | (refine Q3t ?_) | (refine Q3u ?_) | (refine Q1F rfl rfl (fun hc => ?_) (fun hc => ?_)))))
    all_goals ((first | (refine zpt ?_) | (refine zpf ?_)); refine zn ?_)
    all_goals
      first
      | (refine Q4 rfl ?_ -- Q6L c0
         all_goals (refine zex ?_; refine Q0 ?_; refine Q2 ?_; refine zm ?_; refine zm ?_; refine zn ?_; refine zr ?_; refine zf ?_)
         all_goals (refine ⟨_, rfl, ?_, hS.sp⟩; rw [hd]; congr 1; first | (rw [Tys.size_neg _ (by omega)]; done) | (rw [List.drop_of_length_le (by omega), Tys.size]; done); done))
      | (refine Q3 rfl ?_ -- Q6L c0
         all_goals (refine zsk ?_; refine Q0 ?_; refine Qa ?_; refine Q2 ?_; refine Q1 rfl ?_; refine zl hS ?_; refine zm ?_; refine zi ?_; intro b1 o1 cs1 x1 hat1 hx1 he1; obtain ⟨vl1, rfl, hl1⟩ := Qi he1; (first | (refine zv hS ?_) | (refine zvk hS ?_)); refine zm ?_; refine zR2 (c := ih _ (List.mem_of_getElem? (by assumption)) (by assumption) (by omega) (by omega) hS) (h := ?_); rintro v1 w1 ⟨rfl, hS⟩; refine zm ?_; refine zn ?_; refine Q2 ?_; refine zm ?_; refine zad ?_; refine zm ?_; refine zn ?_)
         all_goals (exact ⟨⟨j + 1, _, zh, zh, (by omega), by have := Ty.size_rng x1 (left := n) (by omega); omega, by have := Ty.size_rng x1 (left := n) (by omega); omega, by rw [hd, Q7 hx1, Tys.size, if_pos (by omega)], hS.sp⟩, Qo (by omega)⟩))
theorem great_c {t : Ty} {cx : Cx} {w : World} {L : List Res} {cs : List Value} (ht : tyR.at cx cs t) (hS : St cx w L) :
    Rets Tryz.prog QkE [.agg ⟨cs⟩] w fun v w' => v = .bool t.great ∧ St cx w' L := by
  obtain ⟨v, rfl, hl⟩ := Qi ht
  all_goals refine Qnr ?_
  all_goals (unfold R_GreatType_lc; refine Q0 ?_; refine Q2 ?_; refine zb hS ?_; intro p1 w1 hS; refine zm ?_; refine zn ?_; refine Q0 ?_; refine Q2 ?_; refine zv hS ?_; refine zR2 (c := size_c t ht (by omega) (by omega) hS) (h := ?_); rintro v1 w1 ⟨rfl, hS⟩; refine Qr rfl rfl ?_; refine zm ?_; refine zn ?_; refine zr ?_; refine zf ?_; refine ⟨_, rfl, ?_, hS.sp⟩; (rfl); done)
theorem QoP {l : List Ty} {cx : Cx} {w : World} {L : List Res} {v : Value} (hl : tyR.sl cx v l) (hS : St cx w L) :
    Rets Tryz.prog Q2U [v] w fun u w' => u = .bool (Tys.great l) ∧ St cx w' L := by
  have hlen := hl.len
  unfold Tys.great
  all_goals refine QiI ?_
  all_goals (unfold R_greatTypes_lc; refine Q0 ?_; refine Q2 ?_; refine zm ?_; refine zn ?_; refine Q0 ?_; refine Q0 ?_; refine Q2 ?_; refine zm ?_; refine zL ?_)
  all_goals (first | (refine Q17 ?_) | (refine Q18 ?_) | (refine Qt rfl rfl (fun hc => ?_) (fun hc => ?_)))
  all_goals (refine zn ?_)
  all_goals
    first
    | (refine Q3 rfl ?_ -- Q2U c0
       all_goals (refine Q0 ?_; refine Q2 ?_; refine zm ?_; refine zn ?_; refine zr ?_; refine zf ?_)
       all_goals (refine ⟨_, rfl, ?_, hS.sp⟩; rw [decide_eq_true (by omega), Bool.true_or]; done))
    | (refine Q4 rfl ?_ -- Q2U c0
       all_goals refine zsk ?_)
  all_goals (refine Q0 ?_; refine Q0 ?_; refine Q2 ?_; refine zm ?_; refine zn ?_; refine Qa ?_)
  refine zoL hS [0] (fun A LL ρ' w' => ∃ (j : Nat), Has ρ' A ∧ Has ρ' [(3, .int .i64 j)] ∧ (j ≤ l.length) ∧ (l.any Ty.great = (l.drop j).any Ty.great) ∧ St cx w' (LL)) (fun ρ' _ => (l.length - iv (ρ' 3)).toNat) ?_ ?_
  · exact ⟨0, zh, zh, (by omega), by simp, hS.sp⟩
  rintro ρ w1 ⟨j, hA, hρ, hj, hd, hS⟩; obtain ⟨ρ, rfl⟩ := env2 hA hρ
  unfold Q6n
  all_goals (refine Q0 ?_; refine Q0 ?_; refine Q2 ?_; refine zm ?_; refine zm ?_; refine zL ?_; refine Qr rfl rfl ?_; refine zn ?_)
  refine Qn rfl (fun hc => ?_) (fun hc => ?_)
  · skip
    all_goals (refine zsk ?_; refine Q0 ?_; refine Qa ?_; refine Q0 ?_; refine Q2 ?_; refine zm ?_; refine zm ?_; refine zi ?_; intro b1 o1 cs1 x1 hat1 hx1 he1; obtain ⟨vl1, rfl, hl1⟩ := Qi he1; (first | (refine zv hS ?_) | (refine zvk hS ?_)))
    all_goals (refine zR1 (c := great_c (by assumption) hS) (h := ?_); rintro v1 w1 ⟨rfl, hS⟩; cases hg : x1.great)
    all_goals (refine zn ?_)
    all_goals
      first
      | (refine Q3 rfl ?_ -- Q2U c2
         all_goals (refine Q0 ?_; refine Q2 ?_; refine zm ?_; refine zn ?_; refine zr ?_; refine zf ?_)
         all_goals (first | (refine ⟨_, rfl, ?_, hS.sp⟩; rw [decide_eq_true (by omega), Bool.true_or]; done) | (refine ⟨_, rfl, ?_, hS.sp⟩; rw [decide_eq_false (by omega), hd, Bool.false_or, Q7 hx1, List.any_cons, hg, Bool.true_or]; done)))
      | (refine Q4 rfl ?_ -- Q2U c2
         all_goals refine zsk ?_)
    all_goals (refine Q2 ?_; refine zm ?_; refine zad ?_; refine zm ?_; refine zn ?_; exact ⟨⟨j + 1, zh, zh, (by omega), by rw [hd, Q7 hx1, List.any_cons, hg, Bool.false_or], hS.sp⟩, Qo (by omega)⟩)
  · skip
    all_goals (refine zex ?_; refine Q0 ?_; refine Q2 ?_; refine zm ?_; refine zn ?_; refine zr ?_; refine zf ?_; (first | (refine ⟨_, rfl, ?_, hS.sp⟩; rw [decide_eq_true (by omega), Bool.true_or]; done) | (refine ⟨_, rfl, ?_, hS.sp⟩; rw [decide_eq_false (by omega), hd, Bool.false_or, Q7 hx1, List.any_cons, hg, Bool.true_or]; done) | (refine ⟨_, rfl, ?_, hS.sp⟩; rw [decide_eq_false (by omega), hd, Bool.false_or, List.drop_of_length_le (by omega)]; rfl; done)))
theorem deep_c : ∀ (t : Ty) {cx : Cx} {w : World} {L : List Res} {cs : List Value} {left : Int}, tyR.at cx cs t → left ≤ 1000000 → St cx w L →
    Rets Tryz.prog Q3F [.agg ⟨cs⟩, .int .i64 left] w fun v w' => v = .bool (t.deepB left) ∧ St cx w' L := by
  intro t
  induction t using Ty.ind with
  | h k r l ih =>
    intro cx w L cs left ht h1 hS
    obtain ⟨v, rfl, hl⟩ := Qi ht
    simp only [Ty.kind, Ty.r, Ty.l] at hl ht ⊢
    have hlen := hl.len
    rw [Ty.deepB]
    all_goals refine Qou ?_
    all_goals (unfold types_deep_lc; refine Q0 ?_; refine Q2 ?_; refine zb hS ?_; intro p2 w1 hS; refine zm ?_; refine zn ?_; refine Q0 ?_; refine Q0 ?_; refine Q2 ?_; refine zm ?_)
    all_goals (first | (refine Q1V ?_) | (refine Q1W ?_) | (refine QG rfl rfl (fun hc => ?_) (fun hc => ?_)))
    all_goals (refine zn ?_)
    all_goals
      first
      | (refine Q3 rfl ?_ -- Q3F c0
         all_goals (refine Q0 ?_; refine Q2 ?_; refine zm ?_; refine zn ?_; refine zr ?_; refine zf ?_)
         all_goals (refine ⟨_, rfl, ?_, hS.sp⟩; rw [if_pos (by omega)]; done))
      | (refine Q4 rfl ?_ -- Q3F c0
         all_goals refine zsk ?_)
    all_goals (refine Q0 ?_; refine Q0 ?_; refine Q2 ?_; refine Q1 rfl ?_; refine zl hS ?_; refine zL ?_; refine zm ?_; refine zn ?_; refine Qa ?_)
    refine zoL hS [1, 10, 11] (fun A LL ρ' w' => ∃ (j : Nat), Has ρ' A ∧ Has ρ' [(12, .int .i64 j)] ∧ (j ≤ l.length) ∧ (Tys.deepB l (left - 1) = Tys.deepB (l.drop j) (left - 1)) ∧ St cx w' (LL)) (fun ρ' _ => (l.length - iv (ρ' 12)).toNat) ?_ ?_
    · exact ⟨0, zh, zh, (by omega), by simp, hS.sp⟩
    rintro ρ w1 ⟨j, hA, hρ, hj, hd, hS⟩; obtain ⟨ρ, rfl⟩ := env2 hA hρ
    unfold Q9z
    all_goals (refine Q0 ?_; refine Q2 ?_; refine Qr rfl rfl ?_; refine zn ?_; refine Q0 ?_)
    refine Qn rfl (fun hc => ?_) (fun hc => ?_)
    · skip
      all_goals (refine zsk ?_; refine Q0 ?_; refine Qa ?_; refine Q0 ?_; refine Q2 ?_; refine zi ?_; intro b1 o1 cs1 x1 hat1 hx1 he1; obtain ⟨vl1, rfl, hl1⟩ := Qi he1; (first | (refine zv hS ?_) | (refine zvk hS ?_)); refine Qb hS ?_; intro p6 w1 hS; refine zsn hS ?_; intro w1 hS; have hS := hS.ns; refine zn ?_; refine Q0 ?_; refine Q2 ?_; refine zv hS ?_; refine zm ?_; refine zsu ?_)
      all_goals (refine zR2 (c := ih _ (List.mem_of_getElem? (by assumption)) (by assumption) (by omega) hS) (h := ?_); rintro v1 w1 ⟨rfl, hS⟩; cases hg : x1.deepB (left - 1))
      all_goals (refine Q1o rfl ?_; refine zn ?_)
      all_goals
        first
        | (refine Q4 rfl ?_ -- Q3F c2
           all_goals refine zsk ?_)
        | (refine Q3 rfl ?_ -- Q3F c2
           all_goals (refine Q0 ?_; refine Q2 ?_; refine zm ?_; refine zn ?_; refine zr ?_; refine zf ?_)
           all_goals (first | (refine ⟨_, rfl, ?_, hS.sp⟩; rw [if_pos (by omega)]; done) | (refine ⟨_, rfl, ?_, hS.sp⟩; rw [if_neg (by omega), hd, Q7 hx1, Tys.deepB, hg, Bool.false_and]; done)))
      all_goals (refine Q2 ?_; refine zad ?_; refine zm ?_; refine zn ?_; exact ⟨⟨j + 1, zh, zh, (by omega), by rw [hd, Q7 hx1, Tys.deepB, hg, Bool.true_and], hS.sp⟩, Qo (by omega)⟩)
    · skip
      all_goals (refine zex ?_; refine Q0 ?_; refine Q2 ?_; refine zm ?_; refine zn ?_; refine zr ?_; refine zf ?_; (first | (refine ⟨_, rfl, ?_, hS.sp⟩; rw [if_pos (by omega)]; done) | (refine ⟨_, rfl, ?_, hS.sp⟩; rw [if_neg (by omega), hd, Q7 hx1, Tys.deepB, hg, Bool.false_and]; done) | (refine ⟨_, rfl, ?_, hS.sp⟩; rw [if_neg (by omega), hd, List.drop_of_length_le (by omega), Tys.deepB]; done)))
theorem wrong_c : ∀ (t : Ty) {cx : Cx} {w : World} {L : List Res} {cs : List Value} {regs : Int}, tyR.at cx cs t → St cx w L →
    Rets Tryz.prog QN [.agg ⟨cs⟩, .int .i64 regs] w fun v w' => v = .int .i64 (t.wrong 8 regs) ∧ St cx w' L := by
  intro t
  induction t using Ty.ind with
  | h k r l ih =>
    intro cx w L cs regs ht hS
    obtain ⟨v, rfl, hl⟩ := Qi ht
    simp only [Ty.kind, Ty.r, Ty.l] at hl ht ⊢
    have hlen := hl.len
    rw [Ty.wrong]
    all_goals refine Qlf ?_
    all_goals (unfold types_wrong_lc; refine Q0 ?_; refine Q2 ?_; refine zb hS ?_; intro p2 w1 hS; refine zm ?_; refine zn ?_)
    refine zML hS [1, 2] (fun A LL ρ' w' => Has ρ' A ∧ Has ρ' [] ∧ (1 ≤ k ∧ k ≤ 4 ∧ k ≠ 1 ∧ (k ≠ 3 → l.length = 0) ∧ l.length ≤ 8) ∧ St cx w' (LL)) ?_ ?_
    · skip
      all_goals (refine Q0 ?_; refine Q2 ?_; refine Q1 rfl ?_; refine zl hS ?_; refine zn ?_; refine Qa ?_; refine Q0 ?_; refine Q2 ?_)
      all_goals (first | (refine Qw ?_) | (refine Qy ?_) | (refine Ql rfl rfl (fun hc => ?_) (fun hc => ?_)))
      all_goals (refine zm ?_; refine zn ?_)
      all_goals
        first
        | (refine Q3 rfl ?_ -- QN c0
           all_goals (refine Q0 ?_; refine Q0 ?_; refine Q2 ?_; refine Q1 rfl ?_; refine zl hS ?_)
           all_goals (first | (refine QQ ?_) | (refine QR ?_) | (refine Qm rfl rfl (fun hc => ?_) (fun hc => ?_)))
           all_goals (refine zm ?_; (first | refine s_gn rfl rfl ?_ | (refine s_gy rfl ?_; refine Q1 rfl ?_)); (first | refine s_gn rfl rfl ?_ | (refine s_gy rfl ?_; refine zl hS ?_)); (first | refine s_gn rfl rfl ?_ | (refine s_gy rfl ?_; refine zL ?_)))
           all_goals (first | refine s_gn rfl rfl ?_ | (refine s_gy rfl ?_; (first | (refine Q17 ?_) | (refine Q18 ?_) | (refine Qt rfl rfl (fun hc => ?_) (fun hc => ?_)))))
           all_goals ((first | (refine zpt ?_) | (refine zpf ?_)); refine zn ?_)
           all_goals
             first
             | (refine Q3 rfl ?_ -- QN c1
                all_goals (refine Q0 ?_; refine Q2 ?_; refine zm ?_; refine zn ?_; refine zr ?_; refine zf ?_)
                all_goals (refine ⟨_, rfl, ?_, hS.sp⟩; (repeat (first | rw [if_pos (by omega)] | rw [if_neg (by omega)])); done))
             | (refine Q4 rfl ?_ -- QN c1
                all_goals refine zsk ?_)
           all_goals (refine Q0 ?_; refine Q2 ?_; refine zm ?_; refine zn ?_; refine zr ?_; refine zf ?_)
           all_goals (first | (refine ⟨_, rfl, ?_, hS.sp⟩; (repeat (first | rw [if_pos (by omega)] | rw [if_neg (by omega)])); done) | (refine ⟨_, rfl, ?_, hS.sp⟩; ((repeat (first | rw [if_pos (by omega)] | rw [if_neg (by omega)])); rw [hd, Q7 hx1, Tys.wrong, if_pos (by assumption)]); done) | (refine ⟨_, rfl, ?_, hS.sp⟩; ((repeat (first | rw [if_pos (by omega)] | rw [if_neg (by omega)])); rw [List.eq_nil_of_length_eq_zero (l := l) (by omega), Tys.wrong]); done)))
        | (refine Q4 rfl ?_ -- QN c0
           all_goals (refine Q0 ?_; refine Q0 ?_; refine Q2 ?_)
           all_goals (first | (refine Qw ?_) | (refine Qy ?_) | (refine Ql rfl rfl (fun hc => ?_) (fun hc => ?_)))
           all_goals (refine zm ?_; refine zn ?_)
           all_goals
             first
             | (refine Q3 rfl ?_ -- QN c2
                all_goals refine zsk ?_)
             | (refine Q4 rfl ?_ -- QN c2
                all_goals (refine Q2 ?_)
                all_goals (first | (refine Qw ?_) | (refine Qy ?_) | (refine Ql rfl rfl (fun hc => ?_) (fun hc => ?_)))
                all_goals (refine zm ?_)
                all_goals refine zn ?_)
           all_goals
             first
             | (refine Q3 rfl ?_ -- QN c3
                all_goals (refine Q0 ?_; refine Q2 ?_; refine Q1 rfl ?_; refine zl hS ?_; refine zL ?_)
                all_goals (first | (refine Q17 ?_) | (refine Q18 ?_) | (refine Qt rfl rfl (fun hc => ?_) (fun hc => ?_)))
                all_goals (refine zn ?_)
                all_goals
                  first
                  | (refine Q3 rfl ?_ -- QN c4
                     all_goals (refine Q0 ?_; refine Q2 ?_; refine zm ?_; refine zn ?_; refine zr ?_; refine zf ?_)
                     all_goals (refine ⟨_, rfl, ?_, hS.sp⟩; (repeat (first | rw [if_pos (by omega)] | rw [if_neg (by omega)])); done))
                  | (refine Q4 rfl ?_ -- QN c4
                     all_goals refine zsk ?_))
             | (refine Q4 rfl ?_ -- QN c3
                all_goals (refine Q0 ?_; refine Q2 ?_)
                all_goals (first | (refine Qw ?_) | (refine Qy ?_) | (refine Ql rfl rfl (fun hc => ?_) (fun hc => ?_)))
                all_goals (refine zm ?_; refine zn ?_)
                all_goals
                  first
                  | (refine Q3 rfl ?_ -- QN c5
                     all_goals (refine Q0 ?_; refine Q2 ?_; refine Q1 rfl ?_; refine zl hS ?_; refine zL ?_)
                     all_goals (first | (refine Q17 ?_) | (refine Q18 ?_) | (refine Qt rfl rfl (fun hc => ?_) (fun hc => ?_)))
                     all_goals (refine zn ?_)
                     all_goals
                       first
                       | (refine Q3 rfl ?_ -- QN c6
                          all_goals (refine Q0 ?_; refine Q2 ?_; refine zm ?_; refine zn ?_; refine zr ?_; refine zf ?_)
                          all_goals (refine ⟨_, rfl, ?_, hS.sp⟩; (repeat (first | rw [if_pos (by omega)] | rw [if_neg (by omega)])); done))
                       | (refine Q4 rfl ?_ -- QN c6
                          all_goals refine zsk ?_))
                  | (refine Q4 rfl ?_ -- QN c5
                     all_goals (refine Q0 ?_; refine Q2 ?_; refine zm ?_; refine zn ?_; refine zr ?_; refine zf ?_)
                     all_goals (refine ⟨_, rfl, ?_, hS.sp⟩; (repeat (first | rw [if_pos (by omega)] | rw [if_neg (by omega)])); done))))
      all_goals (exact ⟨zh, zh, by omega, hS.sp⟩)
    rintro ρ w1 ⟨hA, hρ, hk, hS⟩; obtain ⟨ρ, rfl⟩ := env2 hA hρ
    all_goals (refine Q0 ?_; refine Q0 ?_; refine Q2 ?_; refine Q1 rfl ?_; refine zl hS ?_)
    all_goals (first | (refine Q1V ?_) | (refine Q1W ?_) | (refine QG rfl rfl (fun hc => ?_) (fun hc => ?_)))
    all_goals (refine zm ?_; (first | refine s_gn rfl rfl ?_ | (refine s_gy rfl ?_; refine Q1 rfl ?_)); (first | refine s_gn rfl rfl ?_ | (refine s_gy rfl ?_; refine zl hS ?_)); (first | refine s_gn rfl rfl ?_ | (refine s_gy rfl ?_; refine zm ?_)))
    all_goals (first | refine s_gn rfl rfl ?_ | (refine s_gy rfl ?_; (first | (refine Q3t ?_) | (refine Q3u ?_) | (refine Q1F rfl rfl (fun hc => ?_) (fun hc => ?_)))))
    all_goals ((first | (refine zpt ?_) | (refine zpf ?_)); refine zn ?_)
    all_goals
      first
      | (refine Q3 rfl ?_ -- QN c7
         all_goals (refine Q0 ?_; refine Q2 ?_; refine zm ?_; refine zn ?_; refine zr ?_; refine zf ?_)
         all_goals (refine ⟨_, rfl, ?_, hS.sp⟩; (repeat (first | rw [if_pos (by omega)] | rw [if_neg (by omega)])); done))
      | (refine Q4 rfl ?_ -- QN c7
         all_goals refine zsk ?_)
    all_goals (refine Q0 ?_; refine Q0 ?_; refine Q2 ?_; refine Q1 rfl ?_; refine zl hS ?_; refine zL ?_; refine zm ?_; refine zn ?_; refine Qa ?_)
    refine zoL hS [1, 44, 45] (fun A LL ρ' w' => ∃ (j : Nat), Has ρ' A ∧ Has ρ' [(46, .int .i64 j)] ∧ (j ≤ l.length) ∧ (Tys.wrong 8 l regs = Tys.wrong 8 (l.drop j) regs) ∧ St cx w' (LL)) (fun ρ' _ => (l.length - iv (ρ' 46)).toNat) ?_ ?_
    · exact ⟨0, zh, zh, (by omega), by simp, hS.sp⟩
    rintro ρ w1 ⟨j, hA, hρ, hj, hd, hS⟩; obtain ⟨ρ, rfl⟩ := env2 hA hρ
    unfold Q5L
    all_goals (refine Q0 ?_; refine Q2 ?_; refine Qr rfl rfl ?_; refine zn ?_; refine Q0 ?_)
    refine Qn rfl (fun hc => ?_) (fun hc => ?_)
    · skip
      all_goals (refine zsk ?_; refine Q0 ?_; refine Qa ?_; refine Q0 ?_; refine Q2 ?_; refine zi ?_; intro b1 o1 cs1 x1 hat1 hx1 he1; obtain ⟨vl1, rfl, hl1⟩ := Qi he1; (first | (refine zv hS ?_) | (refine zvk hS ?_)); refine Qb hS ?_; intro p6 w1 hS; refine zsn hS ?_; intro w1 hS; have hS := hS.ns; refine zn ?_; refine Q0 ?_; refine Q2 ?_; refine zv hS ?_; refine zm ?_; refine zR2 (c := ih _ (List.mem_of_getElem? (by assumption)) (by assumption) hS) (h := ?_); rintro v1 w1 ⟨rfl, hS⟩; refine zm ?_; refine zn ?_; refine Q0 ?_; refine Q2 ?_; refine zm ?_)
      all_goals (first | (refine QQ ?_) | (refine QR ?_) | (refine Qm rfl rfl (fun hc => ?_) (fun hc => ?_)))
      all_goals (refine zn ?_)
      all_goals
        first
        | (refine Q3 rfl ?_ -- QN c9
           all_goals (refine Q0 ?_; refine Q2 ?_; refine zm ?_; refine zm ?_; refine zn ?_; refine zr ?_; refine zf ?_)
           all_goals (first | (refine ⟨_, rfl, ?_, hS.sp⟩; (repeat (first | rw [if_pos (by omega)] | rw [if_neg (by omega)])); done) | (refine ⟨_, rfl, ?_, hS.sp⟩; ((repeat (first | rw [if_pos (by omega)] | rw [if_neg (by omega)])); rw [hd, Q7 hx1, Tys.wrong, if_pos (by assumption)]); done)))
        | (refine Q4 rfl ?_ -- QN c9
           all_goals refine zsk ?_)
      all_goals (refine Q2 ?_; refine zad ?_; refine zm ?_; refine zn ?_; exact ⟨⟨j + 1, zh, zh, (by omega), by rw [hd, Q7 hx1, Tys.wrong, if_neg (by omega)], hS.sp⟩, Qo (by omega)⟩)
    · skip
      all_goals (refine zex ?_; refine Q0 ?_; refine Q2 ?_; refine zm ?_; refine zn ?_; refine zr ?_; refine zf ?_; (first | (refine ⟨_, rfl, ?_, hS.sp⟩; (repeat (first | rw [if_pos (by omega)] | rw [if_neg (by omega)])); done) | (refine ⟨_, rfl, ?_, hS.sp⟩; ((repeat (first | rw [if_pos (by omega)] | rw [if_neg (by omega)])); rw [hd, Q7 hx1, Tys.wrong, if_pos (by assumption)]); done) | (refine ⟨_, rfl, ?_, hS.sp⟩; ((repeat (first | rw [if_pos (by omega)] | rw [if_neg (by omega)])); rw [List.eq_nil_of_length_eq_zero (l := l) (by omega), Tys.wrong]); done) | (refine ⟨_, rfl, ?_, hS.sp⟩; ((repeat (first | rw [if_pos (by omega)] | rw [if_neg (by omega)])); rw [hd, List.drop_of_length_le (by omega), Tys.wrong]); done)))
theorem Qv4 {t : Ty} {cx : Cx} {w : World} {L : List Res} {cs : List Value} {regs : Int} (ht : tyR.at cx cs t) (hS : St cx w L) :
    Rets Tryz.prog Q4X [.agg ⟨cs⟩, .int .i64 regs] w fun v w' => v = .int .i64 (t.fault regs) ∧ St cx w' L := by
  obtain ⟨v, rfl, hl⟩ := Qi ht
  unfold Ty.fault
  all_goals refine Qlm ?_
  all_goals (unfold types_Check_lc; refine Q0 ?_; refine Q2 ?_; refine zb hS ?_; intro p2 w1 hS; refine zm ?_; refine zn ?_; refine Q0 ?_; refine Q0 ?_; refine Q2 ?_; refine zv hS ?_)
  all_goals (refine zR2 (c := deep_c t ht (by omega) hS) (h := ?_); rintro v1 w1 ⟨rfl, hS⟩; cases hg : t.deepB 4)
  all_goals (refine Q1o rfl ?_; refine zn ?_)
  all_goals
    first
    | (refine Q3 rfl ?_ -- Q4X c0
       all_goals (refine Q0 ?_; refine Q2 ?_; refine zm ?_; refine zn ?_; refine zr ?_; refine zf ?_)
       all_goals (refine ⟨_, rfl, ?_, hS.sp⟩; (rfl); done))
    | (refine Q4 rfl ?_ -- Q4X c0
       all_goals refine zsk ?_)
  all_goals (refine Q0 ?_; refine Q2 ?_; refine zv hS ?_; refine zm ?_; refine zR2 (c := wrong_c t ht hS) (h := ?_); rintro v1 w1 ⟨rfl, hS⟩; refine zm ?_; refine zn ?_; refine zr ?_; refine zf ?_; refine ⟨_, rfl, ?_, hS.sp⟩; (rfl); done)
theorem QxA : ∀ (t : Ty) {cx : Cx} {w : World} {L : List Res} {cs : List Value} {most : Int}, tyR.at cx cs t → 0 ≤ most → most ≤ 1000 → St cx w L →
    Rets Tryz.prog Q4i [.agg ⟨cs⟩, .int .i64 most] w fun v w' => v = .int .i64 (t.depth most) ∧ St cx w' L := by
  intro t
  induction t using Ty.ind with
  | h k r l ih =>
    intro cx w L cs most ht h0 h1 hS
    obtain ⟨v, rfl, hl⟩ := Qi ht
    simp only [Ty.kind, Ty.r, Ty.l] at hl ht ⊢
    have hlen := hl.len
    rw [Ty.depth]
    all_goals refine QuT ?_
    all_goals (unfold R_DeepOf_lc; refine Q0 ?_; refine Q2 ?_; refine zb hS ?_; intro p2 w1 hS; refine zm ?_; refine zn ?_; refine Q0 ?_; refine Q2 ?_; refine zm ?_; refine zn ?_; refine Q0 ?_; refine Q0 ?_; refine Q2 ?_; refine zm ?_; refine zn ?_; refine Qa ?_)
    refine zoL hS [1, 2] (fun A LL ρ' w' => ∃ (j : Nat) (n : Int), Has ρ' A ∧ Has ρ' [(5, .int .i64 n), (6, .int .i64 j)] ∧ (j ≤ l.length) ∧ (0 ≤ n) ∧ (n ≤ 1002) ∧ (Tys.depth l most 0 = Tys.depth (l.drop j) most n) ∧ St cx w' (LL)) (fun ρ' _ => (l.length - iv (ρ' 6)).toNat) ?_ ?_
    · exact ⟨0, 0, zh, zh, (by omega), (by omega), (by omega), by simp, hS.sp⟩
    rintro ρ w1 ⟨j, n, hA, hρ, hj, hn0, hn, hd, hS⟩; obtain ⟨ρ, rfl⟩ := env2 hA hρ
    unfold QkF
    all_goals (refine Q0 ?_; refine Q0 ?_; refine Q2 ?_; refine zm ?_; refine Q1 rfl ?_; refine zl hS ?_; refine zL ?_)
    all_goals (first | (refine Q1V ?_) | (refine Q1W ?_) | (refine QG rfl rfl (fun hc => ?_) (fun hc => ?_)))
    all_goals (refine zm ?_; (first | refine s_gn rfl rfl ?_ | (refine s_gy rfl ?_; refine zm ?_)); (first | refine s_gn rfl rfl ?_ | (refine s_gy rfl ?_; refine zm ?_)))
    all_goals (first | refine s_gn rfl rfl ?_ | (refine s_gy rfl ?_; (first | (refine zleqt ?_) | (refine zleqf ?_) | (refine s_leq_s rfl rfl (fun hc => ?_) (fun hc => ?_)))))
    all_goals ((first | (refine zpt ?_) | (refine zpf ?_)); refine zn ?_)
    all_goals
      first
      | (refine Q4 rfl ?_ -- Q4i c0
         all_goals (refine zex ?_; refine Q0 ?_; refine Q2 ?_; refine zm ?_; refine zm ?_; refine zn ?_; refine zr ?_; refine zf ?_)
         all_goals (first | (refine ⟨_, rfl, ?_, hS.sp⟩; rw [hd]; cases hx : l.drop j with | nil => exact absurd (List.drop_eq_nil_iff.1 hx) (by omega) | cons y m => rw [Tys.depth, if_pos (by omega), if_pos (by omega)]; done) | (refine ⟨_, rfl, ?_, hS.sp⟩; rw [hd, List.drop_of_length_le (by omega), Tys.depth]; done) | (refine ⟨_, rfl, ?_, hS.sp⟩; rw [hd]; cases hx : l.drop j with | nil => rw [Tys.depth] | cons y m => rw [Tys.depth, if_neg (by omega)]; done)))
      | (refine Q3 rfl ?_ -- Q4i c0
         all_goals (refine zsk ?_; refine Q0 ?_; refine Qa ?_; refine Q0 ?_; refine Q0 ?_; refine Q2 ?_; refine zm ?_)
         all_goals (first | (refine Qw ?_) | (refine Qy ?_) | (refine Ql rfl rfl (fun hc => ?_) (fun hc => ?_)))
         all_goals (refine zn ?_)
         all_goals
           first
           | (refine Q3 rfl ?_ -- Q4i c1
              all_goals (refine Q0 ?_; refine Q2 ?_; refine zm ?_; refine zn ?_; refine zr ?_; refine zf ?_)
              all_goals (refine ⟨_, rfl, ?_, hS.sp⟩; rw [hd]; cases hx : l.drop j with | nil => exact absurd (List.drop_eq_nil_iff.1 hx) (by omega) | cons y m => rw [Tys.depth, if_pos (by omega), if_pos (by omega)]; done))
           | (refine Q4 rfl ?_ -- Q4i c1
              all_goals refine zsk ?_)
         all_goals (refine Q0 ?_; refine Q2 ?_; refine Q1 rfl ?_; refine zl hS ?_; refine zm ?_; refine zi ?_; intro b1 o1 cs1 x1 hat1 hx1 he1; obtain ⟨vl1, rfl, hl1⟩ := Qi he1; (first | (refine zv hS ?_) | (refine zvk hS ?_)); refine zm ?_; refine zsu ?_; have hb := Ty.depth_rng x1 (most := most - 1) (by omega); refine zR2 (c := ih _ (List.mem_of_getElem? (by assumption)) (by assumption) (by omega) (by omega) hS) (h := ?_); rintro v1 w1 ⟨rfl, hS⟩; refine zad ?_; refine zm ?_; refine zn ?_; refine Q0 ?_; refine Q2 ?_; refine zm ?_; refine zm ?_)
         all_goals (first | (refine Q17 ?_) | (refine Q18 ?_) | (refine Qt rfl rfl (fun hc => ?_) (fun hc => ?_)))
         all_goals (refine zn ?_)
         all_goals
           first
           | (refine Q3 rfl ?_ -- Q4i c2
              all_goals (refine Q2 ?_; refine zm ?_; refine zm ?_)
              all_goals refine zn ?_)
           | (refine Q4 rfl ?_ -- Q4i c2
              all_goals refine zsk ?_)
         all_goals (refine Q2 ?_; refine zm ?_; refine zad ?_; refine zm ?_; refine zn ?_)
         all_goals (first | (exact ⟨⟨j + 1, _, zh, zh, (by omega), (by omega), (by omega), by rw [hd, Q7 hx1, Tys.depth, if_pos (by omega), if_neg (by omega), if_pos (by omega)], hS.sp⟩, Qo (by omega)⟩) | (exact ⟨⟨j + 1, _, zh, zh, (by omega), (by omega), (by omega), by rw [hd, Q7 hx1, Tys.depth, if_pos (by omega), if_neg (by omega), if_neg (by omega)], hS.sp⟩, Qo (by omega)⟩)))
theorem rwrong_c : ∀ (t : Ty) {cx : Cx} {w : World} {L : List Res} {cs : List Value} {regs : Int}, tyR.at cx cs t → St cx w L →
    Rets Tryz.prog Q1G [.agg ⟨cs⟩, .int .i64 regs] w fun v w' => v = .int .i64 (t.wrong 8 regs) ∧ St cx w' L := by
  intro t
  induction t using Ty.ind with
  | h k r l ih =>
    intro cx w L cs regs ht hS
    obtain ⟨v, rfl, hl⟩ := Qi ht
    simp only [Ty.kind, Ty.r, Ty.l] at hl ht ⊢
    have hlen := hl.len
    rw [Ty.wrong]
    all_goals refine QlX ?_
    all_goals (unfold R_typeFault_lc; refine Q0 ?_; refine Q2 ?_; refine zb hS ?_; intro p2 w1 hS; refine zm ?_; refine zn ?_; refine Q0 ?_; refine Q0 ?_; refine Q2 ?_; refine Q1 rfl ?_; refine zl hS ?_)
    all_goals (first | (refine Q1V ?_) | (refine Q1W ?_) | (refine QG rfl rfl (fun hc => ?_) (fun hc => ?_)))
    all_goals (refine zm ?_; (first | refine s_gn rfl rfl ?_ | (refine s_gy rfl ?_; refine Q1 rfl ?_)); (first | refine s_gn rfl rfl ?_ | (refine s_gy rfl ?_; refine zl hS ?_)))
    all_goals (first | refine s_gn rfl rfl ?_ | (refine s_gy rfl ?_; (first | (refine Q17 ?_) | (refine Q18 ?_) | (refine Qt rfl rfl (fun hc => ?_) (fun hc => ?_)))))
    all_goals ((first | (refine zpt ?_) | (refine zpf ?_)); refine zn ?_)
    all_goals
      first
      | (refine Q3 rfl ?_ -- Q1G c0
         all_goals (refine Q0 ?_; refine Q2 ?_; refine zm ?_; refine zn ?_; refine zr ?_; refine zf ?_)
         all_goals (refine ⟨_, rfl, ?_, hS.sp⟩; (repeat (first | rw [if_pos (by omega)] | rw [if_neg (by omega)])); done))
      | (refine Q4 rfl ?_ -- Q1G c0
         all_goals refine zsk ?_)
    refine zML hS [1, 2] (fun A LL ρ' w' => Has ρ' A ∧ Has ρ' [] ∧ (1 ≤ k ∧ k ≤ 4 ∧ (k = 1 → r = 0) ∧ (k ≠ 3 → l.length = 0)) ∧ St cx w' (LL)) ?_ ?_
    · skip
      all_goals (refine Q0 ?_; refine Q2 ?_; refine Q1 rfl ?_; refine zl hS ?_)
      all_goals (first | (refine Qw ?_) | (refine Qy ?_) | (refine Ql rfl rfl (fun hc => ?_) (fun hc => ?_)))
      all_goals (refine zm ?_; (first | refine s_gn rfl rfl ?_ | (refine s_gy rfl ?_; refine Q1 rfl ?_)); (first | refine s_gn rfl rfl ?_ | (refine s_gy rfl ?_; refine zl hS ?_)))
      all_goals (first | refine s_gn rfl rfl ?_ | (refine s_gy rfl ?_; (first | (refine QQ ?_) | (refine QR ?_) | (refine Qm rfl rfl (fun hc => ?_) (fun hc => ?_)))))
      all_goals ((first | (refine zpt ?_) | (refine zpf ?_)); refine zm ?_; (first | refine s_gn rfl rfl ?_ | (refine s_gy rfl ?_; refine Q1 rfl ?_)); (first | refine s_gn rfl rfl ?_ | (refine s_gy rfl ?_; refine zl hS ?_)))
      all_goals (first | refine s_gn rfl rfl ?_ | (refine s_gy rfl ?_; (first | (refine QQ ?_) | (refine QR ?_) | (refine Qm rfl rfl (fun hc => ?_) (fun hc => ?_)))))
      all_goals ((first | refine s_gn rfl rfl ?_ | (refine s_gy rfl ?_; refine zm ?_)); (first | refine s_gn rfl rfl ?_ | (refine s_gy rfl ?_; refine Q1 rfl ?_)); (first | refine s_gn rfl rfl ?_ | (refine s_gy rfl ?_; refine zl hS ?_)); (first | refine s_gn rfl rfl ?_ | (refine s_gy rfl ?_; refine zL ?_)))
      all_goals (first | refine s_gn rfl rfl ?_ | (refine s_gy rfl ?_; (first | (refine Q17 ?_) | (refine Q18 ?_) | (refine Qt rfl rfl (fun hc => ?_) (fun hc => ?_)))))
      all_goals ((first | refine s_gn rfl rfl ?_ | (refine s_gy rfl ?_; (first | (refine zpt ?_) | (refine zpf ?_)))); (first | (refine zpt ?_) | (refine zpf ?_)); refine zn ?_)
      all_goals
        first
        | (refine Q3 rfl ?_ -- Q1G c1
           all_goals (refine Q0 ?_; refine Q2 ?_; refine zm ?_; refine zn ?_; refine zr ?_; refine zf ?_)
           all_goals (refine ⟨_, rfl, ?_, hS.sp⟩; (repeat (first | rw [if_pos (by omega)] | rw [if_neg (by omega)])); done))
        | (refine Q4 rfl ?_ -- Q1G c1
           all_goals refine zsk ?_)
      all_goals (exact ⟨zh, zh, by omega, hS.sp⟩)
    rintro ρ w1 ⟨hA, hρ, hk, hS⟩; obtain ⟨ρ, rfl⟩ := env2 hA hρ
    all_goals (refine Q0 ?_; refine Q0 ?_; refine Q2 ?_; refine Q1 rfl ?_; refine zl hS ?_; refine zL ?_)
    all_goals (first | (refine Q17 ?_) | (refine Q18 ?_) | (refine Qt rfl rfl (fun hc => ?_) (fun hc => ?_)))
    all_goals (refine zn ?_)
    all_goals
      first
      | (refine Q3 rfl ?_ -- Q1G c2
         all_goals (refine Q0 ?_; refine Q2 ?_; refine zm ?_; refine zn ?_; refine zr ?_; refine zf ?_)
         all_goals (refine ⟨_, rfl, ?_, hS.sp⟩; (repeat (first | rw [if_pos (by omega)] | rw [if_neg (by omega)])); done))
      | (refine Q4 rfl ?_ -- Q1G c2
         all_goals refine zsk ?_)
    refine zML hS [1, 2] (fun A LL ρ' w' => Has ρ' A ∧ Has ρ' [] ∧ (l.length ≤ 8) ∧ (k ≠ 1 → 0 ≤ r ∧ r < regs) ∧ St cx w' (LL)) ?_ ?_
    · skip
      all_goals (refine Q0 ?_; refine Q2 ?_; refine Q1 rfl ?_; refine zl hS ?_)
      all_goals (first | (refine QQ ?_) | (refine QR ?_) | (refine Qm rfl rfl (fun hc => ?_) (fun hc => ?_)))
      all_goals (refine zm ?_; (first | refine s_gn rfl rfl ?_ | (refine s_gy rfl ?_; refine Q1 rfl ?_)); (first | refine s_gn rfl rfl ?_ | (refine s_gy rfl ?_; refine zl hS ?_)))
      all_goals (first | refine s_gn rfl rfl ?_ | (refine s_gy rfl ?_; (first | (refine Q1V ?_) | (refine Q1W ?_) | (refine QG rfl rfl (fun hc => ?_) (fun hc => ?_)))))
      all_goals ((first | refine s_gn rfl rfl ?_ | (refine s_gy rfl ?_; refine zm ?_)); (first | refine s_gn rfl rfl ?_ | (refine s_gy rfl ?_; refine Q1 rfl ?_)); (first | refine s_gn rfl rfl ?_ | (refine s_gy rfl ?_; refine zl hS ?_)); (first | refine s_gn rfl rfl ?_ | (refine s_gy rfl ?_; refine zm ?_)))
      all_goals (first | refine s_gn rfl rfl ?_ | (refine s_gy rfl ?_; (first | (refine Q3t ?_) | (refine Q3u ?_) | (refine Q1F rfl rfl (fun hc => ?_) (fun hc => ?_)))))
      all_goals ((first | refine s_gn rfl rfl ?_ | (refine s_gy rfl ?_; (first | (refine zpt ?_) | (refine zpf ?_)))); (first | (refine zpt ?_) | (refine zpf ?_)); refine zn ?_)
      all_goals
        first
        | (refine Q3 rfl ?_ -- Q1G c3
           all_goals (refine Q0 ?_; refine Q2 ?_; refine zm ?_; refine zn ?_; refine zr ?_; refine zf ?_)
           all_goals (refine ⟨_, rfl, ?_, hS.sp⟩; (repeat (first | rw [if_pos (by omega)] | rw [if_neg (by omega)])); done))
        | (refine Q4 rfl ?_ -- Q1G c3
           all_goals refine zsk ?_)
      all_goals (exact ⟨zh, zh, by omega, by omega, hS.sp⟩)
    rintro ρ w1 ⟨hA, hρ, hk2, hk3, hS⟩; obtain ⟨ρ, rfl⟩ := env2 hA hρ
    all_goals (refine Q0 ?_; refine Q0 ?_; refine Q2 ?_; refine zm ?_; refine zn ?_; refine Qa ?_)
    refine zoL hS [1, 2] (fun A LL ρ' w' => ∃ (j : Nat), Has ρ' A ∧ Has ρ' [(5, .int .i64 j)] ∧ (j ≤ l.length) ∧ (Tys.wrong 8 l regs = Tys.wrong 8 (l.drop j) regs) ∧ St cx w' (LL)) (fun ρ' _ => (l.length - iv (ρ' 5)).toNat) ?_ ?_
    · exact ⟨0, zh, zh, (by omega), by simp, hS.sp⟩
    rintro ρ w1 ⟨j, hA, hρ, hj, hd, hS⟩; obtain ⟨ρ, rfl⟩ := env2 hA hρ
    unfold Q6m
    all_goals (refine Q0 ?_; refine Q0 ?_; refine Q2 ?_; refine zm ?_; refine Q1 rfl ?_; refine zl hS ?_; refine zL ?_; refine Qr rfl rfl ?_; refine zn ?_)
    refine Qn rfl (fun hc => ?_) (fun hc => ?_)
    · skip
      all_goals (refine zsk ?_; refine Q0 ?_; refine Qa ?_; refine Q0 ?_; refine Q2 ?_; refine Q1 rfl ?_; refine zl hS ?_; refine zm ?_; refine zi ?_; intro b1 o1 cs1 x1 hat1 hx1 he1; obtain ⟨vl1, rfl, hl1⟩ := Qi he1; (first | (refine zv hS ?_) | (refine zvk hS ?_)); refine zm ?_; refine zR2 (c := ih _ (List.mem_of_getElem? (by assumption)) (by assumption) hS) (h := ?_); rintro v1 w1 ⟨rfl, hS⟩; refine zm ?_; refine zn ?_; refine Q0 ?_; refine Q2 ?_; refine zm ?_)
      all_goals (first | (refine QQ ?_) | (refine QR ?_) | (refine Qm rfl rfl (fun hc => ?_) (fun hc => ?_)))
      all_goals (refine zn ?_)
      all_goals
        first
        | (refine Q3 rfl ?_ -- Q1G c5
           all_goals (refine Q0 ?_; refine Q2 ?_; refine zm ?_; refine zm ?_; refine zn ?_; refine zr ?_; refine zf ?_)
           all_goals (first | (refine ⟨_, rfl, ?_, hS.sp⟩; (repeat (first | rw [if_pos (by omega)] | rw [if_neg (by omega)])); done) | (refine ⟨_, rfl, ?_, hS.sp⟩; ((repeat (first | rw [if_pos (by omega)] | rw [if_neg (by omega)])); rw [hd, Q7 hx1, Tys.wrong, if_pos (by assumption)]); done)))
        | (refine Q4 rfl ?_ -- Q1G c5
           all_goals refine zsk ?_)
      all_goals (refine Q2 ?_; refine zm ?_; refine zad ?_; refine zm ?_; refine zn ?_; exact ⟨⟨j + 1, zh, zh, (by omega), by rw [hd, Q7 hx1, Tys.wrong, if_neg (by omega)], hS.sp⟩, Qo (by omega)⟩)
    · skip
      all_goals (refine zex ?_; refine Q0 ?_; refine Q2 ?_; refine zm ?_; refine zn ?_; refine zr ?_; refine zf ?_; (first | (refine ⟨_, rfl, ?_, hS.sp⟩; (repeat (first | rw [if_pos (by omega)] | rw [if_neg (by omega)])); done) | (refine ⟨_, rfl, ?_, hS.sp⟩; ((repeat (first | rw [if_pos (by omega)] | rw [if_neg (by omega)])); rw [hd, Q7 hx1, Tys.wrong, if_pos (by assumption)]); done) | (refine ⟨_, rfl, ?_, hS.sp⟩; ((repeat (first | rw [if_pos (by omega)] | rw [if_neg (by omega)])); rw [hd, List.drop_of_length_le (by omega), Tys.wrong]); done)))
theorem QwT {t : Ty} {cx : Cx} {w : World} {L : List Res} {cs : List Value} {regs : Int} (ht : tyR.at cx cs t) (hS : St cx w L) :
    Rets Tryz.prog Q5v [.agg ⟨cs⟩, .int .i64 regs] w fun v w' => v = .int .i64 (t.fault regs) ∧ St cx w' L := by
  obtain ⟨v, rfl, hl⟩ := Qi ht
  have hdp := Ty.depth_iff t (most := 4) (by omega)
  unfold Ty.fault
  all_goals refine Qme ?_
  all_goals (unfold R_TypeFault_lc; refine Q0 ?_; refine Q2 ?_; refine zb hS ?_; intro p2 w1 hS; refine zm ?_; refine zn ?_; refine Q0 ?_; refine Q0 ?_; refine Q2 ?_; refine zv hS ?_; refine zR2 (c := QxA t ht (by omega) (by omega) hS) (h := ?_); rintro v1 w1 ⟨rfl, hS⟩)
  all_goals (first | (refine Q17 ?_) | (refine Q18 ?_) | (refine Qt rfl rfl (fun hc => ?_) (fun hc => ?_)))
  all_goals (refine zn ?_)
  all_goals
    first
    | (refine Q3 rfl ?_ -- Q5v c0
       all_goals (refine Q0 ?_; refine Q2 ?_; refine zm ?_; refine zn ?_; refine zr ?_; refine zf ?_)
       all_goals (refine ⟨_, rfl, ?_, hS.sp⟩; rw [if_pos]; cases hg : t.deepB 4 <;> simp_all <;> omega; done))
    | (refine Q4 rfl ?_ -- Q5v c0
       all_goals refine zsk ?_)
  all_goals (refine Q0 ?_; refine Q2 ?_; refine zv hS ?_; refine zm ?_; refine zR2 (c := rwrong_c t ht hS) (h := ?_); rintro v1 w1 ⟨rfl, hS⟩; refine zm ?_; refine zn ?_; refine zr ?_; refine zf ?_)
  all_goals (first | (refine ⟨_, rfl, ?_, hS.sp⟩; rw [if_pos]; cases hg : t.deepB 4 <;> simp_all <;> omega; done) | (refine ⟨_, rfl, ?_, hS.sp⟩; rw [if_neg]; cases hg : t.deepB 4 <;> simp_all <;> omega; done))
end Go.Proofs.YtanlkfeogoganaaGreat
namespace Go.Proofs.YtanlkfeogoganaaGreat
open Go.Lir
set_option maxHeartbeats 1000000
attribute [local irreducible] LC.wp Q5 Q11 Q1f retQ Q2h LO.wp QD Calls
set_option linter.unusedSimpArgs false
set_option linter.unusedVariables false
theorem Qva {l : List Ty} (hlen : l.length ≤ 100000) (ih : ∀ x ∈ l, ∀ {cx : Cx} {w : World} {L : List Res} {cs : List Value}, tyR.at cx cs x → St cx w L → Rets Tryz.prog Qj8 [.agg ⟨cs⟩] w fun u w' => ∃ c' ds, u = .agg ⟨ds⟩ ∧ cx.Le c' ∧ tyR.at c' ds x ∧ St c' w' L)
    {cx : Cx} {w : World} {L : List Res} {v : Value} (hl : tyR.sl cx v l) (hS : St cx w L) : Rets Tryz.prog Q6M [v] w fun u w' => ∃ c', cx.Le c' ∧ tyR.sl c' u l ∧ St c' w' L := by
  all_goals refine Qb9 ?_
  all_goals (unfold R_OwnTypes_lc; refine Q0 ?_; refine Q2 ?_; refine zm ?_; refine zn ?_; refine Q0 ?_; refine Q2 ?_; refine zm ?_; refine zn ?_; refine Q0 ?_; refine Q0 ?_; refine Q2 ?_; refine zm ?_; refine zn ?_; refine Qa ?_)
  refine zoL hS [0] (fun A LL ρ' w' => ∃ (c1 : Cx) (j : Nat) (u : Value) (css : List (List Value)), Has ρ' A ∧ Has ρ' [(3, u), (4, .int .i64 j)] ∧ (cx.Le c1) ∧ (j ≤ l.length) ∧ (tyR.ls c1 css (l.take j)) ∧ (oneC u = true) ∧ St c1 w' (sl 112 3 u css :: LL)) (fun ρ' _ => (l.length - iv (ρ' 4)).toNat) ?_ ?_
  · exact ⟨cx, 0, .slice none 0 0, [], zh, zh, St.refl hS, (by omega), Rep.LR.nil _ _ _, rfl, by have hS := hS.nil (T := 112) (es := 3); exact hS⟩
  rintro ρ w1 ⟨c1, j, u, css, hA, hρ, hle, hj, hls, hu, hS⟩; obtain ⟨ρ, rfl⟩ := env2 hA hρ; have hl := Rep.SR.up hl hle
  unfold Q5w
  all_goals (refine Q0 ?_; refine Q0 ?_; refine Q2 ?_; refine zm ?_; refine zm ?_; refine zL ?_; refine Qr rfl rfl ?_; refine zn ?_)
  refine Qn rfl (fun hc => ?_) (fun hc => ?_)
  · skip
    all_goals (refine zsk ?_; refine Q0 ?_; refine Qa ?_; refine Q2 ?_; refine zm ?_; refine zm ?_; refine zm ?_; refine zi ?_; intro b1 o1 cs1 x1 hat1 hx1 he1; obtain ⟨vl1, rfl, hl1⟩ := Qi he1; (first | (refine zv hS ?_) | (refine zvk hS ?_)); refine zR1 (c := ih _ (List.mem_of_getElem? hx1) he1 hS) (h := ?_); rintro v1 w1 ⟨c2, ds, rfl, hle2, hd, hS⟩; obtain ⟨v2, rfl, hv2⟩ := Qi hd; have hls := Rep.LR.up hls hle2; refine zB1 hS [_, _, _] ?_; intro b1 w1 hS; refine za Q3s Q6O hS ?_; intro vp1 w1 css1 hls1 hv1 hS; have hS := hS.ns; refine zm ?_; refine zn ?_; refine Q2 ?_; refine zm ?_; refine zad ?_; refine zm ?_; refine zn ?_; exact ⟨⟨c2, j + 1, _, _, zh, zh, hle.trans hle2, (by omega), by rw [Q1m hx1]; assumption, by assumption, hS.sp⟩, Qo (by omega)⟩)
  · skip
    all_goals (refine zex ?_; refine Q0 ?_; refine Q2 ?_; refine zm ?_; refine zm ?_; refine zn ?_; refine zr ?_; refine zf ?_; obtain ⟨c3, hle3, hS, hl3⟩ := St.freezeL (r := tyR) (l := l) (T := 112) (es := 3) (v := u) (css := css) (L := L) hS.sp (by rw [List.take_of_length_le (by omega)] at hls; exact hls) rfl (by omega); exact ⟨_, rfl, c3, hle.trans hle3, hl3, hS⟩)
theorem rown_c : ∀ (t : Ty), t.Short → ∀ {cx : Cx} {w : World} {L : List Res} {cs : List Value}, tyR.at cx cs t → St cx w L →
    Rets Tryz.prog Qj8 [.agg ⟨cs⟩] w fun u w' => ∃ c' ds, u = .agg ⟨ds⟩ ∧ cx.Le c' ∧ tyR.at c' ds t ∧ St c' w' L := by
  intro t
  induction t using Ty.ind with
  | h k r l ih =>
    intro hs cx w L cs ht hS
    obtain ⟨v, rfl, hl⟩ := Qi ht
    simp only [Ty.kind, Ty.r, Ty.l] at hl ht ⊢
    obtain ⟨hlen, hsub⟩ := hs.parts
    all_goals refine QsJ ?_
    all_goals (unfold R_OwnType_lc; refine Q0 ?_; refine Q2 ?_; refine zb hS ?_; intro p1 w1 hS; refine Qb hS ?_; intro p2 w1 hS; refine zn ?_; refine Q0 ?_; refine zC [(0, none), (1, none), (2, none), (3, none), (4, none), (5, none), (6, some (some [1, 3])), (7, none), (8, some none)] ?_; have hS := hS.drew; refine s_cq ?_; refine Q1 rfl ?_; refine zt ?_; refine s_cq ?_; refine zl hS ?_; refine zt ?_; refine s_cq ?_; refine Q1 rfl ?_; refine zt ?_; refine s_cq ?_; refine zl hS ?_; refine zt ?_; refine s_cq ?_; refine Q1 rfl ?_; refine zt ?_; refine s_cq ?_; refine zl hS ?_; refine zt ?_; refine QE ?_; refine zR1 (c := Qva hlen (fun x hx => ih x hx (hsub x hx)) hl hS) (h := ?_); rintro v1 w1 ⟨c1, hle, hl1, hS⟩; obtain ⟨a1, n1, rfl⟩ := Rep.SR.shape hl1; refine zt ?_; refine zy ?_; refine s_cq ?_; refine zb3 [_, _, _] ?_; refine zt ?_; refine s_cf ?_; refine zsn hS ?_; intro w1 hS; have hS := hS.ns; refine zt ?_; refine zcn ?_; refine zr ?_; refine Q1e vw (Qc (n := 3) (by kernel_rfl) (by kernel_rfl) (hS.blkAt fd) (by rfl) (by rfl)) ?_; exact ⟨_, rfl, c1, _, rfl, hle, Q1X hl1, hS.sp⟩)
theorem Q5R {l : List Ty} (hlen : l.length ≤ 100000) (hs : ∀ x ∈ l, x.Short) {cx : Cx} {w : World} {L : List Res} {v : Value} (hl : tyR.sl cx v l) (hS : St cx w L) : Rets Tryz.prog Q6M [v] w fun u w' => ∃ c', cx.Le c' ∧ tyR.sl c' u l ∧ St c' w' L :=
  Qva hlen (fun x hx => rown_c x (hs x hx)) hl hS
theorem Qvg {l : List Ty} (hlen : l.length ≤ 100000) (ih : ∀ x ∈ l, ∀ {cx : Cx} {w : World} {L : List Res} {cs : List Value}, tyR.at cx cs x → St cx w L → Rets Tryz.prog Q6g [.agg ⟨cs⟩] w fun u w' => ∃ c' ds, u = .agg ⟨ds⟩ ∧ cx.Le c' ∧ tyR.at c' ds x ∧ St c' w' L)
    {cx : Cx} {w : World} {L : List Res} {v : Value} (hl : tyR.sl cx v l) (hS : St cx w L) : Rets Tryz.prog Q5s [v] w fun u w' => ∃ c', cx.Le c' ∧ tyR.sl c' u l ∧ St c' w' L := by
  all_goals refine Qfg ?_
  all_goals (unfold code_ownTypes_lc; refine Q0 ?_; refine Q2 ?_; refine zm ?_; refine zn ?_; refine Q0 ?_; refine Q2 ?_; refine zm ?_; refine zn ?_; refine Q0 ?_; refine Q0 ?_; refine Q2 ?_; refine zm ?_; refine zL ?_; refine zm ?_; refine zn ?_; refine Qa ?_)
  refine zoL hS [6, 7] (fun A LL ρ' w' => ∃ (c1 : Cx) (j : Nat) (u : Value) (css : List (List Value)), Has ρ' A ∧ Has ρ' [(3, u), (8, .int .i64 j)] ∧ (cx.Le c1) ∧ (j ≤ l.length) ∧ (tyR.ls c1 css (l.take j)) ∧ (oneC u = true) ∧ St c1 w' (sl 112 3 u css :: LL)) (fun ρ' _ => (l.length - iv (ρ' 8)).toNat) ?_ ?_
  · exact ⟨cx, 0, .slice none 0 0, [], zh, zh, St.refl hS, (by omega), Rep.LR.nil _ _ _, rfl, by have hS := hS.nil (T := 112) (es := 3); exact hS⟩
  rintro ρ w1 ⟨c1, j, u, css, hA, hρ, hle, hj, hls, hu, hS⟩; obtain ⟨ρ, rfl⟩ := env2 hA hρ; have hl := Rep.SR.up hl hle
  unfold Q5A
  all_goals (refine Q0 ?_; refine Q2 ?_; refine Qr rfl rfl ?_; refine zn ?_; refine Q0 ?_)
  refine Qn rfl (fun hc => ?_) (fun hc => ?_)
  · skip
    all_goals (refine zsk ?_; refine Q0 ?_; refine Qa ?_; refine Q0 ?_; refine Q2 ?_; refine zi ?_; intro b1 o1 cs1 x1 hat1 hx1 he1; obtain ⟨vl1, rfl, hl1⟩ := Qi he1; (first | (refine zv hS ?_) | (refine zvk hS ?_)); refine Qb hS ?_; intro p5 w1 hS; refine zsn hS ?_; intro w1 hS; have hS := hS.ns; refine zn ?_; refine Q2 ?_; refine zm ?_; refine zv hS ?_; refine zR1 (c := ih _ (List.mem_of_getElem? hx1) he1 hS) (h := ?_); rintro v1 w1 ⟨c2, ds, rfl, hle2, hd, hS⟩; obtain ⟨v2, rfl, hv2⟩ := Qi hd; have hls := Rep.LR.up hls hle2; refine zB1 hS [_, _, _] ?_; intro b1 w1 hS; refine za Q3s Q6O hS ?_; intro vp1 w1 css1 hls1 hv1 hS; have hS := hS.ns; refine zm ?_; refine zn ?_; refine Q2 ?_; refine zad ?_; refine zm ?_; refine zn ?_; exact ⟨⟨c2, j + 1, _, _, zh, zh, hle.trans hle2, (by omega), by rw [Q1m hx1]; assumption, by assumption, hS.sp⟩, Qo (by omega)⟩)
  · skip
    all_goals (refine zex ?_; refine Q0 ?_; refine Q2 ?_; refine zm ?_; refine zm ?_; refine zn ?_; refine zr ?_; refine zf ?_; obtain ⟨c3, hle3, hS, hl3⟩ := St.freezeL (r := tyR) (l := l) (T := 112) (es := 3) (v := u) (css := css) (L := L) hS.sp (by rw [List.take_of_length_le (by omega)] at hls; exact hls) rfl (by omega); exact ⟨_, rfl, c3, hle.trans hle3, hl3, hS⟩)
theorem pown_c : ∀ (t : Ty), t.Short → ∀ {cx : Cx} {w : World} {L : List Res} {cs : List Value}, tyR.at cx cs t → St cx w L →
    Rets Tryz.prog Q6g [.agg ⟨cs⟩] w fun u w' => ∃ c' ds, u = .agg ⟨ds⟩ ∧ cx.Le c' ∧ tyR.at c' ds t ∧ St c' w' L := by
  intro t
  induction t using Ty.ind with
  | h k r l ih =>
    intro hs cx w L cs ht hS
    obtain ⟨v, rfl, hl⟩ := Qi ht
    simp only [Ty.kind, Ty.r, Ty.l] at hl ht ⊢
    obtain ⟨hlen, hsub⟩ := hs.parts
    all_goals refine Qic ?_
    all_goals (unfold code_ownType_lc; refine Q0 ?_; refine Q2 ?_; refine zb hS ?_; intro p1 w1 hS; refine Qb hS ?_; intro p2 w1 hS; refine zn ?_; refine Q0 ?_; refine Q2 ?_; refine Q1 rfl ?_; refine zl hS ?_; refine Q1 rfl ?_; refine zl hS ?_; refine zb2 [_, _, _] ?_; refine Qb hS ?_; intro p3 w1 hS; refine zsn hS ?_; intro w1 hS; have hS := hS.ns; refine zn ?_; refine Q0 ?_; refine Q2 ?_; refine Q1 rfl ?_; refine zl hS ?_; refine zR1 (c := Qvg hlen (fun x hx => ih x hx (hsub x hx)) hl hS) (h := ?_); rintro v1 w1 ⟨c1, hle, hl1, hS⟩; obtain ⟨a1, n1, rfl⟩ := Rep.SR.shape hl1; refine Q1 rfl ?_; refine zst hS ?_; intro w1 hS; have hS := hS.ns; refine zn ?_; refine Q0 ?_; refine Q2 ?_; refine zv hS ?_; refine zsn hS ?_; intro w1 hS; have hS := hS.ns; refine zn ?_; refine zr ?_; refine Q1e vw (Qc (n := 3) (by kernel_rfl) (by kernel_rfl) (hS.blkAt fd) (by rfl) (by rfl)) ?_)
    all_goals (exact ⟨_, rfl, c1, _, rfl, hle, Q1X hl1, hS.sp⟩)
theorem Q5U {l : List Ty} (hlen : l.length ≤ 100000) (hs : ∀ x ∈ l, x.Short) {cx : Cx} {w : World} {L : List Res} {v : Value} (hl : tyR.sl cx v l) (hS : St cx w L) : Rets Tryz.prog Q5s [v] w fun u w' => ∃ c', cx.Le c' ∧ tyR.sl c' u l ∧ St c' w' L :=
  Qvg hlen (fun x hx => pown_c x (hs x hx)) hl hS
end Go.Proofs.YtanlkfeogoganaaGreat
namespace Go.Proofs.YtanlkfeogoganaaGreat
open Go.Lir
set_option maxHeartbeats 1000000
attribute [local irreducible] LC.wp Q5 Q11 Q1f retQ Q2h LO.wp QD Calls
set_option linter.unusedSimpArgs false
set_option linter.unusedVariables false
theorem Qre {l : List Ty} (ih : ∀ x ∈ l, ∀ (y : Ty) {cx : Cx} {w : World} {L : List Res} {cs ds : List Value}, tyR.at cx cs x → tyR.at cx ds y → St cx w L → Rets Tryz.prog QcS [.agg ⟨cs⟩, .agg ⟨ds⟩] w fun u w' => u = .bool (decide (x = y)) ∧ St cx w' L)
    {m : List Ty} {cx : Cx} {w : World} {L : List Res} {v v2 : Value} (hl : tyR.sl cx v l) (hm : tyR.sl cx v2 m) (hS : St cx w L) : Rets Tryz.prog Q2R [v, v2] w fun u w' => u = .bool (decide (l = m)) ∧ St cx w' L := by
  have hlen := hl.len
  all_goals refine Qmo ?_
  all_goals (unfold R_SameTypes_lc; refine Q0 ?_; refine Q2 ?_; refine zm ?_; refine zn ?_; refine Q0 ?_; refine Q0 ?_; refine Q2 ?_; refine zm ?_; refine zL ?_; refine zm ?_; refine zL ?_)
  all_goals (first | (refine QQ ?_) | (refine QR ?_) | (refine Qm rfl rfl (fun hc => ?_) (fun hc => ?_)))
  all_goals (refine zn ?_)
  all_goals
    first
    | (refine Q3 rfl ?_ -- Q2R c0
       all_goals (refine Q0 ?_; refine Q2 ?_; refine zm ?_; refine zn ?_; refine zr ?_; refine zf ?_)
       all_goals (refine ⟨_, rfl, ?_, hS.sp⟩; rw [decide_eq_false]; exact fun e => absurd (congrArg List.length e) (by omega); done))
    | (refine Q4 rfl ?_ -- Q2R c0
       all_goals refine zsk ?_)
  all_goals (refine Q0 ?_; refine Q0 ?_; refine Q2 ?_; refine zm ?_; refine zn ?_; refine Qa ?_)
  refine zoL hS [0, 1] (fun A LL ρ' w' => ∃ (j : Nat), Has ρ' A ∧ Has ρ' [(5, .int .i64 j)] ∧ (j ≤ l.length) ∧ (l.length = m.length) ∧ (l = m ↔ l.drop j = m.drop j) ∧ St cx w' (LL)) (fun ρ' _ => (l.length - iv (ρ' 5)).toNat) ?_ ?_
  · exact ⟨0, zh, zh, (by omega), (by omega), by simp, hS.sp⟩
  rintro ρ w1 ⟨j, hA, hρ, hj, hlm, hd, hS⟩; obtain ⟨ρ, rfl⟩ := env2 hA hρ
  unfold Q7H
  all_goals (refine Q0 ?_; refine Q0 ?_; refine Q2 ?_; refine zm ?_; refine zm ?_; refine zL ?_; refine Qr rfl rfl ?_; refine zn ?_)
  refine Qn rfl (fun hc => ?_) (fun hc => ?_)
  · skip
    all_goals (refine zsk ?_; refine Q0 ?_; refine Qa ?_; refine Q0 ?_; refine zD [(0, none), (1, none), (2, none), (3, none), (4, none), (5, none), (6, none), (7, none), (8, some none), (9, some none)] ?_; have hS := hS.drew; refine zm ?_; refine zm ?_; refine zi ?_; intro b1 o1 cs1 x1 hat1 hx1 he1; obtain ⟨vl1, rfl, hl1⟩ := Qi he1; (first | (refine zv hS ?_) | (refine zvk hS ?_)); refine zm ?_; refine zm ?_; refine zi ?_; intro b2 o2 cs2 x2 hat2 hx2 he2; obtain ⟨vl2, rfl, hl2⟩ := Qi he2; (first | (refine zv hS ?_) | (refine zvk hS ?_)))
    all_goals (refine zR2 (c := ih _ (List.mem_of_getElem? hx1) _ he1 he2 hS) (h := ?_); rintro v1 w1 ⟨rfl, hS⟩; (cases hdec : decide (x1 = x2)); have hg := of_decide_eq_false hdec; rotate_left; have hg := of_decide_eq_true hdec; all_goals skip)
    all_goals (refine Q1o rfl ?_; refine zn ?_)
    all_goals
      first
      | (refine Q3 rfl ?_ -- Q2R c2
         all_goals (refine Q0 ?_; refine Q2 ?_; refine zm ?_; refine zn ?_; refine zr ?_; refine zf ?_)
         all_goals (first | (refine ⟨_, rfl, ?_, hS.sp⟩; rw [decide_eq_false]; exact fun e => absurd (congrArg List.length e) (by omega); done) | (refine ⟨_, rfl, ?_, hS.sp⟩; rw [decide_eq_false]; rw [hd, Q7 hx1, Q7 hx2]; simp [hg]; done)))
      | (refine Q4 rfl ?_ -- Q2R c2
         all_goals refine zsk ?_)
    all_goals (refine Q2 ?_; refine zm ?_; refine zad ?_; refine zm ?_; refine zn ?_; exact ⟨⟨j + 1, zh, zh, (by omega), (by omega), by rw [hd, Q7 hx1, Q7 hx2, hg]; simp, hS.sp⟩, Qo (by omega)⟩)
  · skip
    all_goals (refine zex ?_; refine Q0 ?_; refine Q2 ?_; refine zm ?_; refine zn ?_; refine zr ?_; refine zf ?_; (first | (refine ⟨_, rfl, ?_, hS.sp⟩; rw [decide_eq_false]; exact fun e => absurd (congrArg List.length e) (by omega); done) | (refine ⟨_, rfl, ?_, hS.sp⟩; rw [decide_eq_false]; rw [hd, Q7 hx1, Q7 hx2]; simp [hg]; done) | (refine ⟨_, rfl, ?_, hS.sp⟩; rw [decide_eq_true]; rw [hd, List.drop_of_length_le (by omega), List.drop_of_length_le (by omega)]; done)))
theorem Qty : ∀ (t u : Ty) {cx : Cx} {w : World} {L : List Res} {cs ds : List Value}, tyR.at cx cs t → tyR.at cx ds u → St cx w L →
    Rets Tryz.prog QcS [.agg ⟨cs⟩, .agg ⟨ds⟩] w fun v w' => v = .bool (decide (t = u)) ∧ St cx w' L := by
  intro t
  induction t using Ty.ind with
  | h k r l ih =>
    rintro ⟨k2, r2, m⟩ cx w L cs ds ht hu hS
    obtain ⟨v, rfl, hl⟩ := Qi ht
    obtain ⟨v2, rfl, hm⟩ := Qi hu
    simp only [Ty.kind, Ty.r, Ty.l, Ty.mk.injEq] at hl hm ht hu ⊢
    all_goals refine QpI ?_
    all_goals (unfold R_SameType_lc; refine Q0 ?_; refine Q2 ?_; refine zb hS ?_; intro p2 w1 hS; refine zb hS ?_; intro p3 w1 hS; refine zm ?_; refine zn ?_; refine Q0 ?_; refine Q2 ?_; refine Q1 rfl ?_; refine zl hS ?_; refine Q1 rfl ?_; refine zl hS ?_)
    all_goals (first | (refine Qw ?_) | (refine Qy ?_) | (refine Ql rfl rfl (fun hc => ?_) (fun hc => ?_)))
    all_goals (refine zm ?_; (first | refine s_gn rfl rfl ?_ | (refine s_gy rfl ?_; refine Q1 rfl ?_)); (first | refine s_gn rfl rfl ?_ | (refine s_gy rfl ?_; refine zl hS ?_)); (first | refine s_gn rfl rfl ?_ | (refine s_gy rfl ?_; refine Q1 rfl ?_)); (first | refine s_gn rfl rfl ?_ | (refine s_gy rfl ?_; refine zl hS ?_)))
    all_goals (first | refine s_gn rfl rfl ?_ | (refine s_gy rfl ?_; (first | (refine Qw ?_) | (refine Qy ?_) | (refine Ql rfl rfl (fun hc => ?_) (fun hc => ?_)))))
    all_goals ((first | (refine zpt ?_) | (refine zpf ?_)); refine zm ?_; (first | refine s_gn rfl rfl ?_ | (refine s_gy rfl ?_; refine Q1 rfl ?_)); (first | refine s_gn rfl rfl ?_ | (refine s_gy rfl ?_; refine zl hS ?_)); (first | refine s_gn rfl rfl ?_ | (refine s_gy rfl ?_; refine Q1 rfl ?_)); (first | refine s_gn rfl rfl ?_ | (refine s_gy rfl ?_; refine zl hS ?_)); (first | refine s_gn rfl rfl ?_ | (refine s_gy rfl ?_; refine zR2 (c := Qre ih hl hm hS) (h := ?_); rintro v1 w1 ⟨rfl, hS⟩)); (first | (refine zpt ?_) | (refine zpf ?_)); refine zm ?_; refine zn ?_; refine zr ?_; refine zf ?_; refine ⟨_, rfl, ?_, hS.sp⟩; (simp [*]); done)
theorem Q6B {l m : List Ty} {cx : Cx} {w : World} {L : List Res} {v v2 : Value} (hl : tyR.sl cx v l) (hm : tyR.sl cx v2 m) (hS : St cx w L) : Rets Tryz.prog Q2R [v, v2] w fun u w' => u = .bool (decide (l = m)) ∧ St cx w' L :=
  Qre (fun x _ => Qty x) hl hm hS
/-- slices.EqualFunc, by a function that tells whether two are the same. -/
theorem eqfT_c {l : List Ty} {f : FuncId} (hf : Q4P Tryz.prog f = true) {m : List Ty} {cx : Cx} {w : World} {L : List Res} {v v2 : Value}
    (hcall : ∀ x ∈ l, ∀ y ∈ m, ∀ {w : World} {L : List Res} {cs ds : List Value}, tyR.at cx cs x → tyR.at cx ds y → St cx w L → Rets Tryz.prog f [.agg ⟨cs⟩, .agg ⟨ds⟩] w fun u w' => u = .bool (decide (x = y)) ∧ St cx w' L)
    (hl : tyR.sl cx v l) (hm : tyR.sl cx v2 m) (hS : St cx w L) : Rets Tryz.prog Qj [v, v2, .func (.func f) #[] #[]] w fun u w' => u = .bool (decide (l = m)) ∧ St cx w' L := by
  have hlen := hl.len
  all_goals refine Q1E ?_
  all_goals (unfold slices_EqualFunc_api_Type_api_Type_api_Type_api_Type_lc; refine Q0 ?_; refine Q2 ?_; refine zm ?_; refine zn ?_; refine Q0 ?_; refine Q0 ?_; refine Q2 ?_; refine zm ?_; refine zL ?_; refine zm ?_; refine zL ?_)
  all_goals (first | (refine QQ ?_) | (refine QR ?_) | (refine Qm rfl rfl (fun hc => ?_) (fun hc => ?_)))
  all_goals (refine zn ?_)
  all_goals
    first
    | (refine Q3 rfl ?_ -- Qj c0
       all_goals (refine Q0 ?_; refine Q2 ?_; refine zm ?_; refine zn ?_; refine zr ?_; refine zf ?_)
       all_goals (refine ⟨_, rfl, ?_, hS.sp⟩; rw [decide_eq_false]; exact fun e => absurd (congrArg List.length e) (by omega); done))
    | (refine Q4 rfl ?_ -- Qj c0
       all_goals refine zsk ?_)
  all_goals (refine Q0 ?_; refine Q0 ?_; refine Q2 ?_; refine zm ?_; refine zL ?_; refine zm ?_; refine zn ?_; refine Qa ?_)
  refine zoL hS [1, 2, 15, 16] (fun A LL ρ' w' => ∃ (j : Nat), Has ρ' A ∧ Has ρ' [(17, .int .i64 j)] ∧ (j ≤ l.length) ∧ (l.length = m.length) ∧ (l = m ↔ l.drop j = m.drop j) ∧ St cx w' (LL)) (fun ρ' _ => (l.length - iv (ρ' 17)).toNat) ?_ ?_
  · exact ⟨0, zh, zh, (by omega), (by omega), by simp, hS.sp⟩
  rintro ρ w1 ⟨j, hA, hρ, hj, hlm, hd, hS⟩; obtain ⟨ρ, rfl⟩ := env2 hA hρ
  unfold QU
  all_goals (refine Q0 ?_; refine Q2 ?_; refine Qr rfl rfl ?_; refine zn ?_; refine Q0 ?_)
  refine Qn rfl (fun hc => ?_) (fun hc => ?_)
  · skip
    all_goals (refine zsk ?_; refine Q0 ?_; refine Qa ?_; refine Q0 ?_; refine Q2 ?_; refine zm ?_; refine zi ?_; intro b1 o1 cs1 x1 hat1 hx1 he1; obtain ⟨vl1, rfl, hl1⟩ := Qi he1; (first | (refine zv hS ?_) | (refine zvk hS ?_)); refine Qb hS ?_; intro p8 w1 hS; refine zm ?_; refine zsn hS ?_; intro w1 hS; have hS := hS.ns; refine zn ?_; refine Q0 ?_; refine Q2 ?_; refine zm ?_; refine zm ?_; refine zi ?_; intro b2 o2 cs2 x2 hat2 hx2 he2; obtain ⟨vl2, rfl, hl2⟩ := Qi he2; (first | (refine zv hS ?_) | (refine zvk hS ?_)); refine Qb hS ?_; intro p9 w1 hS; refine zsn hS ?_; intro w1 hS; have hS := hS.ns; refine zn ?_; refine Q0 ?_; refine Q2 ?_; refine zm ?_; refine zv hS ?_; refine zv hS ?_)
    all_goals (refine QwD rfl hf (by rfl) (hcall _ (List.mem_of_getElem? hx1) _ (List.mem_of_getElem? hx2) he1 he2 hS) ?_; rintro v1 w1 ⟨rfl, hS⟩; (cases hdec : decide (x1 = x2)); have hg := of_decide_eq_false hdec; rotate_left; have hg := of_decide_eq_true hdec; all_goals skip)
    all_goals (refine Q1o rfl ?_; refine zn ?_)
    all_goals
      first
      | (refine Q3 rfl ?_ -- Qj c2
         all_goals (refine Q0 ?_; refine Q2 ?_; refine zm ?_; refine zn ?_; refine zr ?_; refine zf ?_)
         all_goals (first | (refine ⟨_, rfl, ?_, hS.sp⟩; rw [decide_eq_false]; exact fun e => absurd (congrArg List.length e) (by omega); done) | (refine ⟨_, rfl, ?_, hS.sp⟩; rw [decide_eq_false]; rw [hd, Q7 hx1, Q7 hx2]; simp [hg]; done)))
      | (refine Q4 rfl ?_ -- Qj c2
         all_goals refine zsk ?_)
    all_goals (refine Q2 ?_; refine zad ?_; refine zm ?_; refine zn ?_; exact ⟨⟨j + 1, zh, zh, (by omega), (by omega), by rw [hd, Q7 hx1, Q7 hx2, hg]; simp, hS.sp⟩, Qo (by omega)⟩)
  · skip
    all_goals (refine zex ?_; refine Q0 ?_; refine Q2 ?_; refine zm ?_; refine zn ?_; refine zr ?_; refine zf ?_; (first | (refine ⟨_, rfl, ?_, hS.sp⟩; rw [decide_eq_false]; exact fun e => absurd (congrArg List.length e) (by omega); done) | (refine ⟨_, rfl, ?_, hS.sp⟩; rw [decide_eq_false]; rw [hd, Q7 hx1, Q7 hx2]; simp [hg]; done) | (refine ⟨_, rfl, ?_, hS.sp⟩; rw [decide_eq_true]; rw [hd, List.drop_of_length_le (by omega), List.drop_of_length_le (by omega)]; done)))
theorem QhD : ∀ (t u : Ty) {cx : Cx} {w : World} {L : List Res} {cs ds : List Value}, tyR.at cx cs t → tyR.at cx ds u → St cx w L →
    Rets Tryz.prog QnV [.agg ⟨cs⟩, .agg ⟨ds⟩] w fun v w' => v = .bool (decide (t = u)) ∧ St cx w' L := by
  intro t
  induction t using Ty.ind with
  | h k r l ih =>
    rintro ⟨k2, r2, m⟩ cx w L cs ds ht hu hS
    obtain ⟨v, rfl, hl⟩ := Qi ht
    obtain ⟨v2, rfl, hm⟩ := Qi hu
    simp only [Ty.kind, Ty.r, Ty.l, Ty.mk.injEq] at hl hm ht hu ⊢
    all_goals refine Qox ?_
    all_goals (unfold types_Same_lc; refine Q0 ?_; refine Q2 ?_; refine zb hS ?_; intro p2 w1 hS; refine zb hS ?_; intro p3 w1 hS; refine zm ?_; refine zn ?_; refine Q0 ?_; refine Q2 ?_; refine Q1 rfl ?_; refine zl hS ?_; refine Q1 rfl ?_; refine zl hS ?_)
    all_goals (first | (refine Qw ?_) | (refine Qy ?_) | (refine Ql rfl rfl (fun hc => ?_) (fun hc => ?_)))
    all_goals (refine zm ?_; (first | refine s_gn rfl rfl ?_ | (refine s_gy rfl ?_; refine Q1 rfl ?_)); (first | refine s_gn rfl rfl ?_ | (refine s_gy rfl ?_; refine zl hS ?_)); (first | refine s_gn rfl rfl ?_ | (refine s_gy rfl ?_; refine Q1 rfl ?_)); (first | refine s_gn rfl rfl ?_ | (refine s_gy rfl ?_; refine zl hS ?_)))
    all_goals (first | refine s_gn rfl rfl ?_ | (refine s_gy rfl ?_; (first | (refine Qw ?_) | (refine Qy ?_) | (refine Ql rfl rfl (fun hc => ?_) (fun hc => ?_)))))
    all_goals ((first | (refine zpt ?_) | (refine zpf ?_)); refine zm ?_; (first | refine s_gn rfl rfl ?_ | (refine s_gy rfl ?_; refine Q1 rfl ?_)); (first | refine s_gn rfl rfl ?_ | (refine s_gy rfl ?_; refine zl hS ?_)); (first | refine s_gn rfl rfl ?_ | (refine s_gy rfl ?_; refine Q1 rfl ?_)); (first | refine s_gn rfl rfl ?_ | (refine s_gy rfl ?_; refine zl hS ?_)); (first | refine s_gn rfl rfl ?_ | (refine s_gy rfl ?_; refine zR3 (c := eqfT_c (by kernel_rfl) (fun x hx y _ {_ _ _ _} h1 h2 h3 => ih x hx y h1 h2 h3) hl hm hS) (h := ?_); rintro v1 w1 ⟨rfl, hS⟩)); (first | (refine zpt ?_) | (refine zpf ?_)); refine zm ?_; refine zn ?_; refine zr ?_; refine zf ?_; refine ⟨_, rfl, ?_, hS.sp⟩; (simp [*]); done)
end Go.Proofs.YtanlkfeogoganaaGreat
namespace Go.Proofs.YtanlkfeogoganaaGreat
open Go.Lir
set_option maxHeartbeats 1000000
attribute [local irreducible] LC.wp Q5 Q11 Q1f retQ Q2h LO.wp QD Calls
set_option linter.unusedSimpArgs false
set_option linter.unusedVariables false
theorem QhB {k r : Int} {l : List Ty} {to : List Int} (h : k ≠ 1 ∧ (r < 0 ∨ (to.length : Int) ≤ r)) : Ty.ren (.mk k r l) to = none := by
  rw [Ty.ren, if_pos (by omega)]
theorem Qbl {k r x : Int} {l : List Ty} {to : List Int} (hk : k ≠ 1) (hx : to[r.toNat]? = some x) (h : x < 0) : Ty.ren (.mk k r l) to = none := by
  rw [Ty.ren, if_pos ⟨hk, .inr (.inr (by rw [List.getD_eq_getElem?_getD, hx]; exact h))⟩]
theorem Qx4 {k r : Int} {l : List Ty} {to : List Int} (h : k = 1) : Ty.ren (.mk k r l) to = (Tys.ren l to).map (Ty.mk k r) := by
  subst h
  rw [Ty.ren, if_neg (by omega)]
  cases Tys.ren l to <;> rfl
theorem ren_to {k r x : Int} {l : List Ty} {to : List Int} (hk : k ≠ 1) (h0 : 0 ≤ r) (h1 : r < to.length) (hx : to[r.toNat]? = some x) (h : 0 ≤ x) : Ty.ren (.mk k r l) to = (Tys.ren l to).map (Ty.mk k x) := by
  have hd : to.getD r.toNat 0 = x := by rw [List.getD_eq_getElem?_getD, hx]; rfl
  rw [Ty.ren, if_neg (by omega), hd]
  cases Tys.ren l to with
  | none => rfl
  | some m => simp [hk]
theorem Q9A {l us : List Ty} {to : List Int} {j : Nat} {x : Ty} (hd : Tys.ren l to = (Tys.ren (l.drop j) to).map (us ++ ·)) (hx : l[j]? = some x) (hn : x.ren to = none) : Tys.ren l to = none := by
  rw [hd, Q7 hx, Tys.ren, hn]; rfl
theorem Qrg {l us : List Ty} {to : List Int} {j : Nat} {x y : Ty} (hd : Tys.ren l to = (Tys.ren (l.drop j) to).map (us ++ ·)) (hx : l[j]? = some x) (hn : x.ren to = some y) : Tys.ren l to = (Tys.ren (l.drop (j + 1)) to).map ((us ++ [y]) ++ ·) := by
  rw [hd, Q7 hx, Tys.ren, hn]
  cases Tys.ren (l.drop (j + 1)) to <;> simp
theorem Qvb {l us : List Ty} {to : List Int} {j : Nat} (hd : Tys.ren l to = (Tys.ren (l.drop j) to).map (us ++ ·)) (hj : l.length ≤ j) : Tys.ren l to = some us := by
  rw [hd, List.drop_of_length_le hj, Tys.ren]; simp
theorem pren_c : ∀ (t : Ty), t.Short → ∀ {cx : Cx} {w : World} {L : List Res} {cs : List Value} {v2 : Value} {to : List Int}, tyR.at cx cs t → intR.sl cx v2 to → St cx w L →
    Rets Tryz.prog Q26 [.agg ⟨cs⟩, v2] w fun u w' => ∃ c' ds, u = .tuple #[.agg ⟨ds⟩, .bool (t.ren to).isSome] ∧ cx.Le c' ∧ tyR.at c' ds ((t.ren to).getD (.mk 0 0 [])) ∧ St c' w' L := by
  intro t
  induction t using Ty.ind with
  | h k r l ih =>
    intro hs cx w L cs v2 to ht hto hS
    obtain ⟨v, rfl, hl⟩ := Qi ht
    simp only [Ty.kind, Ty.r, Ty.l] at hl ht ⊢
    obtain ⟨hlen, hsub⟩ := hs.parts
    have hle := St.refl hS
    all_goals refine Qho ?_
    all_goals (unfold types_Rename_lc; refine Q0 ?_; refine Q2 ?_; refine zb hS ?_; intro p2 w1 hS; refine Qb hS ?_; intro p4 w1 hS; refine zm ?_; refine zn ?_; refine Q0 ?_; refine Q2 ?_; refine Q1 rfl ?_; refine zl hS ?_; refine Q1 rfl ?_; refine zl hS ?_; refine zb2 [_, _, _] ?_; refine Qb hS ?_; intro p6 w1 hS; refine zsn hS ?_; intro w1 hS; have hS := hS.ns; refine zn ?_)
    refine zM [1, 2, 4, 6] (fun A ρ' w' => ∃ (r2 : Int), Has ρ' A ∧ Has ρ' [] ∧ (Ty.ren (.mk k r l) to = (Tys.ren l to).map (Ty.mk k r2)) ∧ St cx w' (blk p6 112 [.int .i64 k, .int .i64 r2, .slice none 0 0] :: blk p4 112 [.int .i64 0, .int .i64 0, .slice none 0 0] :: blk p2 112 [.int .i64 k, .int .i64 r, v] :: L)) ?_ ?_
    · skip
      all_goals (refine Q0 ?_; refine Q2 ?_; refine Q1 rfl ?_; refine zl hS ?_)
      all_goals (first | (refine QQ ?_) | (refine QR ?_) | (refine Qm rfl rfl (fun hc => ?_) (fun hc => ?_)))
      all_goals (refine zn ?_)
      all_goals
        first
        | (refine Q3 rfl ?_ -- Q26 c0
           all_goals (refine Q0 ?_; refine Q0 ?_; refine Q2 ?_; refine Q1 rfl ?_; refine zl hS ?_)
           all_goals (first | (refine Q1V ?_) | (refine Q1W ?_) | (refine QG rfl rfl (fun hc => ?_) (fun hc => ?_)))
           all_goals (refine zm ?_; (first | refine s_gn rfl rfl ?_ | (refine s_gy rfl ?_; refine Q1 rfl ?_)); (first | refine s_gn rfl rfl ?_ | (refine s_gy rfl ?_; refine zl hS ?_)); (first | refine s_gn rfl rfl ?_ | (refine s_gy rfl ?_; refine zm ?_)); (first | refine s_gn rfl rfl ?_ | (refine s_gy rfl ?_; refine zL ?_)))
           all_goals (first | refine s_gn rfl rfl ?_ | (refine s_gy rfl ?_; (first | (refine Q3t ?_) | (refine Q3u ?_) | (refine Q1F rfl rfl (fun hc => ?_) (fun hc => ?_)))))
           all_goals ((first | (refine zpt ?_) | (refine zpf ?_)); refine zm ?_; (first | refine s_gn rfl rfl ?_ | (refine s_gy rfl ?_; refine zm ?_)); (first | refine s_gn rfl rfl ?_ | (refine s_gy rfl ?_; refine Q1 rfl ?_)); (first | refine s_gn rfl rfl ?_ | (refine s_gy rfl ?_; refine zl hS ?_)); (first | refine s_gn rfl rfl ?_ | (refine s_gy rfl ?_; ((first | refine zi ?_ | refine zj ?_); intro b1 o1 cs1 x1 hat1 hx1 he1; obtain rfl := QJ he1))); (first | refine s_gn rfl rfl ?_ | (refine s_gy rfl ?_; (first | (refine zl hS ?_) | (refine zlk hS ?_)))))
           all_goals (first | refine s_gn rfl rfl ?_ | (refine s_gy rfl ?_; (first | (refine Q1V ?_) | (refine Q1W ?_) | (refine QG rfl rfl (fun hc => ?_) (fun hc => ?_)))))
           all_goals ((first | (refine zpt ?_) | (refine zpf ?_)); refine zn ?_)
           all_goals
             first
             | (refine Q3 rfl ?_ -- Q26 c1
                all_goals (refine Q0 ?_; refine Q2 ?_; refine zb0 [_, _, _] ?_; refine zsn hS ?_; intro w1 hS; have hS := hS.ns; refine zm ?_; refine zn ?_; refine zr ?_; refine Q1i vw (Qc (n := 3) (by kernel_rfl) (by kernel_rfl) (hS.blkAt fd) (by rfl) (by rfl)) vw ?_)
                all_goals (first | (rw [QhB (by omega)]; exact ⟨_, rfl, _, _, rfl, hle, Q1X (Rep.SR.nil _ _ _), hS.sp⟩) | (rw [Qbl (by omega) hx1 (by omega)]; exact ⟨_, rfl, _, _, rfl, hle, Q1X (Rep.SR.nil _ _ _), hS.sp⟩)))
             | (refine Q4 rfl ?_ -- Q26 c1
                all_goals refine zsk ?_)
           all_goals (refine Q2 ?_; refine zm ?_; refine Q1 rfl ?_; refine zl hS ?_; (first | refine zi ?_ | refine zj ?_); intro b2 o2 cs2 x2 hat2 hx2 he2; obtain rfl := QJ he2; (first | (refine zl hS ?_) | (refine zlk hS ?_)); refine Q1 rfl ?_; refine zst hS ?_; intro w1 hS; have hS := hS.ns)
           all_goals refine zn ?_)
        | (refine Q4 rfl ?_ -- Q26 c0
           all_goals refine zsk ?_)
      all_goals ((first | (exact ⟨_, zh, zh, ren_to (by omega) (by omega) (by omega) hx2 (by have h9 := Option.some.inj (hx1.symm.trans hx2); omega), hS.sp⟩) | (exact ⟨_, zh, zh, Qx4 (by omega), hS.sp⟩)))
    rintro ρ w1 ⟨r2, hA, hρ, hr, hS⟩; obtain ⟨ρ, rfl⟩ := env2 hA hρ
    all_goals (refine Q0 ?_; refine Q0 ?_; refine Q2 ?_; refine Q1 rfl ?_; refine zl hS ?_; refine zL ?_; refine zm ?_; refine zn ?_; refine Qa ?_)
    refine zo [1, 4, 6, 45, 46] (fun A ρ' w' => ∃ (k0 : Cx) (j : Nat) (u : Value) (css : List (List Value)) (us : List Ty), Has ρ' A ∧ Has ρ' [(47, .int .i64 j)] ∧ (cx.Le k0) ∧ (j ≤ l.length) ∧ (us.length = j) ∧ (Tys.ren l to = (Tys.ren (l.drop j) to).map (us ++ ·)) ∧ (tyR.ls k0 css us) ∧ (oneC u = true) ∧ St k0 w' (sl 112 3 u css :: blk p6 112 [.int .i64 k, .int .i64 r2, u] :: blk p4 112 [.int .i64 0, .int .i64 0, .slice none 0 0] :: blk p2 112 [.int .i64 k, .int .i64 r, v] :: L)) (fun ρ' _ => (l.length - iv (ρ' 47)).toNat) ?_ ?_
    · exact ⟨cx, 0, .slice none 0 0, [], [], zh, zh, St.refl hS, (by omega), rfl, by simp, Rep.LR.nil _ _ _, rfl, by have hS := hS.nil (T := 112) (es := 3); exact hS.sp⟩
    rintro ρ w1 ⟨k0, j, u, css, us, hA, hρ, hle2, hj, hus, hd, hls, hu, hS⟩; obtain ⟨ρ, rfl⟩ := env2 hA hρ; have hL0 := hle2; (try have hle := hle.trans hle2); (try have hl := hl.up hle2); (try have hto := hto.up hle2)
    unfold Q5M
    all_goals (refine Q0 ?_; refine Q2 ?_; refine Qr rfl rfl ?_; refine zn ?_; refine Q0 ?_)
    refine Qn rfl (fun hc => ?_) (fun hc => ?_)
    · skip
      all_goals (refine zsk ?_; refine Q0 ?_; refine Qa ?_; refine Q0 ?_; refine Q2 ?_; refine zi ?_; intro b3 o3 cs3 x3 hat3 hx3 he3; obtain ⟨vl3, rfl, hl3⟩ := Qi he3; (first | (refine zv hS ?_) | (refine zvk hS ?_)); refine Qb hS ?_; intro p8 w1 hS; refine zsn hS ?_; intro w1 hS; have hS := hS.ns; refine zn ?_; refine Q0 ?_; refine Q2 ?_; refine zv hS ?_; refine zm ?_)
      all_goals (refine zR2 (c := ih _ (List.mem_of_getElem? hx3) (hsub _ (List.mem_of_getElem? hx3)) he3 hto hS) (h := ?_); rintro v1 w1 ⟨c1, ds, rfl, hle2, hd1, hS⟩; obtain ⟨y, hy⟩ : ∃ y, (x3.ren to).getD (.mk 0 0 []) = y := ⟨_, rfl⟩; rw [hy] at hd1; obtain ⟨v7, rfl, hv7⟩ := Qi hd1; (try have hle := hle.trans hle2); (try have hL0 := hL0.trans hle2); (try have hl := hl.up hle2); (try have hl3 := hl3.up hle2); (try have he3 := he3.up hle2); (try have hls := hls.up hle2); (try have hto := hto.up hle2); cases hg : x3.ren to)
      all_goals (refine zm ?_; refine Q47 rfl rfl ?_; refine Q47 rfl rfl ?_; refine Qb hS ?_; intro p9 w1 hS; refine zsn hS ?_; intro w1 hS; have hS := hS.ns; refine zm ?_; refine zn ?_; refine Q0 ?_; refine Q0 ?_; refine Q2 ?_; refine zm ?_; refine Q1o rfl ?_; refine zn ?_)
      all_goals
        first
        | (refine Q3 rfl ?_ -- Q26 c3
           all_goals (refine Q0 ?_; refine Q2 ?_; refine zb0 [_, _, _] ?_; refine zsn hS ?_; intro w1 hS; have hS := hS.ns; refine zm ?_; refine zn ?_; refine zr ?_; refine Q1i vw (Qc (n := 3) (by kernel_rfl) (by kernel_rfl) (hS.blkAt fd) (by rfl) (by rfl)) vw ?_)
           all_goals (first | (rw [QhB (by omega)]; exact ⟨_, rfl, _, _, rfl, hle, Q1X (Rep.SR.nil _ _ _), hS.sp⟩) | (rw [Qbl (by omega) hx1 (by omega)]; exact ⟨_, rfl, _, _, rfl, hle, Q1X (Rep.SR.nil _ _ _), hS.sp⟩) | (rw [hr, Q9A hd hx3 hg]; exact ⟨_, rfl, _, _, rfl, hle, Q1X (Rep.SR.nil _ _ _), hS.sp⟩)))
        | (refine Q4 rfl ?_ -- Q26 c3
           all_goals refine zsk ?_)
      all_goals (refine Q2 ?_; refine Q1 rfl ?_; refine zl hS ?_; refine zv hS ?_; refine zB1 hS [_, _, _] ?_; intro b1 w1 hS; refine za Q3s Q6O hS ?_; intro vp1 w1 css1 hls1 hv1 hS; have hS := hS.ns; refine Q1 rfl ?_; refine zst hS ?_; intro w1 hS; have hS := hS.ns; refine zn ?_; refine Q2 ?_; refine zad ?_; refine zm ?_; refine zn ?_; exact ⟨⟨_, j + 1, _, _, us ++ [y], zh, zh, hL0, (by omega), by simp [hus], Qrg hd hx3 (by rw [hg, ← hy, hg]; rfl), by assumption, by assumption, hS.sp⟩, Qo (by omega)⟩)
    · skip
      all_goals (refine zex ?_; refine Q0 ?_; refine Q2 ?_; refine zv hS ?_; refine zsn hS ?_; intro w1 hS; have hS := hS.ns; refine zm ?_; refine zn ?_; refine zr ?_; refine Q1i vw (Qc (n := 3) (by kernel_rfl) (by kernel_rfl) (hS.blkAt fd) (by rfl) (by rfl)) vw ?_; (first | (rw [QhB (by omega)]; exact ⟨_, rfl, _, _, rfl, hle, Q1X (Rep.SR.nil _ _ _), hS.sp⟩) | (rw [Qbl (by omega) hx1 (by omega)]; exact ⟨_, rfl, _, _, rfl, hle, Q1X (Rep.SR.nil _ _ _), hS.sp⟩) | (rw [hr, Q9A hd hx3 hg]; exact ⟨_, rfl, _, _, rfl, hle, Q1X (Rep.SR.nil _ _ _), hS.sp⟩) | (rw [hr, Qvb hd (by omega)]; obtain ⟨c3, hle3, hS, hl3⟩ := St.freezeL (r := tyR) (l := us) (T := 112) (es := 3) (v := u) (css := css) (L := L) hS.sp hls rfl (by omega); exact ⟨_, rfl, c3, _, rfl, hle.trans hle3, Q1X hl3, hS⟩)))
theorem QwU : ∀ (t : Ty), t.Short → ∀ {cx : Cx} {w : World} {L : List Res} {cs : List Value} {v2 : Value} {to : List Int}, tyR.at cx cs t → intR.sl cx v2 to → St cx w L →
    Rets Tryz.prog Q2I [.agg ⟨cs⟩, v2] w fun u w' => ∃ c' ds, u = .tuple #[.agg ⟨ds⟩, .bool (t.ren to).isSome] ∧ cx.Le c' ∧ tyR.at c' ds ((t.ren to).getD (.mk 0 0 [])) ∧ St c' w' L := by
  intro t
  induction t using Ty.ind with
  | h k r l ih =>
    intro hs cx w L cs v2 to ht hto hS
    obtain ⟨v, rfl, hl⟩ := Qi ht
    simp only [Ty.kind, Ty.r, Ty.l] at hl ht ⊢
    obtain ⟨hlen, hsub⟩ := hs.parts
    have hle := St.refl hS
    all_goals refine QsG ?_
    all_goals (unfold R_Renamed_lc; refine Q0 ?_; refine Q2 ?_; refine zb hS ?_; intro p2 w1 hS; refine Qb hS ?_; intro p4 w1 hS; refine zm ?_; refine zn ?_; refine Q0 ?_; refine Q2 ?_; refine Q1 rfl ?_; refine zl hS ?_; refine Q1 rfl ?_; refine zl hS ?_; refine zb2 [_, _, _] ?_; refine Qb hS ?_; intro p6 w1 hS; refine zsn hS ?_; intro w1 hS; have hS := hS.ns; refine zn ?_)
    refine zM [1, 2, 4, 6] (fun A ρ' w' => ∃ (r2 : Int), Has ρ' A ∧ Has ρ' [] ∧ (Ty.ren (.mk k r l) to = (Tys.ren l to).map (Ty.mk k r2)) ∧ St cx w' (blk p6 112 [.int .i64 k, .int .i64 r2, .slice none 0 0] :: blk p4 112 [.int .i64 0, .int .i64 0, .slice none 0 0] :: blk p2 112 [.int .i64 k, .int .i64 r, v] :: L)) ?_ ?_
    · skip
      all_goals (refine Q0 ?_; refine Q2 ?_; refine Q1 rfl ?_; refine zl hS ?_)
      all_goals (first | (refine QQ ?_) | (refine QR ?_) | (refine Qm rfl rfl (fun hc => ?_) (fun hc => ?_)))
      all_goals (refine zn ?_)
      all_goals
        first
        | (refine Q3 rfl ?_ -- Q2I c0
           all_goals (refine Q0 ?_; refine Q0 ?_; refine Q2 ?_; refine Q1 rfl ?_; refine zl hS ?_)
           all_goals (first | (refine Q1V ?_) | (refine Q1W ?_) | (refine QG rfl rfl (fun hc => ?_) (fun hc => ?_)))
           all_goals (refine zm ?_; (first | refine s_gn rfl rfl ?_ | (refine s_gy rfl ?_; refine Q1 rfl ?_)); (first | refine s_gn rfl rfl ?_ | (refine s_gy rfl ?_; refine zl hS ?_)); (first | refine s_gn rfl rfl ?_ | (refine s_gy rfl ?_; refine zm ?_)); (first | refine s_gn rfl rfl ?_ | (refine s_gy rfl ?_; refine zL ?_)))
           all_goals (first | refine s_gn rfl rfl ?_ | (refine s_gy rfl ?_; (first | (refine Q3t ?_) | (refine Q3u ?_) | (refine Q1F rfl rfl (fun hc => ?_) (fun hc => ?_)))))
           all_goals ((first | (refine zpt ?_) | (refine zpf ?_)); refine zn ?_)
           all_goals
             first
             | (refine Q3 rfl ?_ -- Q2I c1
                all_goals (refine Q0 ?_; refine Q2 ?_; refine zb0 [_, _, _] ?_; refine zsn hS ?_; intro w1 hS; have hS := hS.ns; refine zm ?_; refine zn ?_; refine zr ?_; refine Q1i vw (Qc (n := 3) (by kernel_rfl) (by kernel_rfl) (hS.blkAt fd) (by rfl) (by rfl)) vw ?_)
                all_goals (rw [QhB (by omega)]; exact ⟨_, rfl, _, _, rfl, hle, Q1X (Rep.SR.nil _ _ _), hS.sp⟩))
             | (refine Q4 rfl ?_ -- Q2I c1
                all_goals refine zsk ?_)
           all_goals (refine Q0 ?_; refine Q0 ?_; refine Q2 ?_; refine zm ?_; refine Q1 rfl ?_; refine zl hS ?_; (first | refine zi ?_ | refine zj ?_); intro b1 o1 cs1 x1 hat1 hx1 he1; obtain rfl := QJ he1; (first | (refine zl hS ?_) | (refine zlk hS ?_)))
           all_goals (first | (refine Q1V ?_) | (refine Q1W ?_) | (refine QG rfl rfl (fun hc => ?_) (fun hc => ?_)))
           all_goals (refine zn ?_)
           all_goals
             first
             | (refine Q3 rfl ?_ -- Q2I c2
                all_goals (refine Q0 ?_; refine Q2 ?_; refine zb0 [_, _, _] ?_; refine zsn hS ?_; intro w1 hS; have hS := hS.ns; refine zm ?_; refine zn ?_; refine zr ?_; refine Q1i vw (Qc (n := 3) (by kernel_rfl) (by kernel_rfl) (hS.blkAt fd) (by rfl) (by rfl)) vw ?_)
                all_goals (first | (rw [QhB (by omega)]; exact ⟨_, rfl, _, _, rfl, hle, Q1X (Rep.SR.nil _ _ _), hS.sp⟩) | (rw [Qbl (by omega) hx1 (by omega)]; exact ⟨_, rfl, _, _, rfl, hle, Q1X (Rep.SR.nil _ _ _), hS.sp⟩)))
             | (refine Q4 rfl ?_ -- Q2I c2
                all_goals refine zsk ?_)
           all_goals (refine Q2 ?_; refine zm ?_; refine Q1 rfl ?_; refine zl hS ?_; (first | refine zi ?_ | refine zj ?_); intro b2 o2 cs2 x2 hat2 hx2 he2; obtain rfl := QJ he2; (first | (refine zl hS ?_) | (refine zlk hS ?_)); refine Q1 rfl ?_; refine zst hS ?_; intro w1 hS; have hS := hS.ns)
           all_goals refine zn ?_)
        | (refine Q4 rfl ?_ -- Q2I c0
           all_goals refine zsk ?_)
      all_goals ((first | (exact ⟨_, zh, zh, ren_to (by omega) (by omega) (by omega) hx2 (by have h9 := Option.some.inj (hx1.symm.trans hx2); omega), hS.sp⟩) | (exact ⟨_, zh, zh, Qx4 (by omega), hS.sp⟩)))
    rintro ρ w1 ⟨r2, hA, hρ, hr, hS⟩; obtain ⟨ρ, rfl⟩ := env2 hA hρ
    all_goals (refine Q0 ?_; refine Q0 ?_; refine Q2 ?_; refine zm ?_; refine zn ?_; refine Qa ?_)
    refine zo [1, 2, 4, 6] (fun A ρ' w' => ∃ (k0 : Cx) (j : Nat) (u : Value) (css : List (List Value)) (us : List Ty), Has ρ' A ∧ Has ρ' [(7, .int .i64 j)] ∧ (cx.Le k0) ∧ (j ≤ l.length) ∧ (us.length = j) ∧ (Tys.ren l to = (Tys.ren (l.drop j) to).map (us ++ ·)) ∧ (tyR.ls k0 css us) ∧ (oneC u = true) ∧ St k0 w' (sl 112 3 u css :: blk p6 112 [.int .i64 k, .int .i64 r2, u] :: blk p4 112 [.int .i64 0, .int .i64 0, .slice none 0 0] :: blk p2 112 [.int .i64 k, .int .i64 r, v] :: L)) (fun ρ' _ => (l.length - iv (ρ' 7)).toNat) ?_ ?_
    · exact ⟨cx, 0, .slice none 0 0, [], [], zh, zh, St.refl hS, (by omega), rfl, by simp, Rep.LR.nil _ _ _, rfl, by have hS := hS.nil (T := 112) (es := 3); exact hS.sp⟩
    rintro ρ w1 ⟨k0, j, u, css, us, hA, hρ, hle2, hj, hus, hd, hls, hu, hS⟩; obtain ⟨ρ, rfl⟩ := env2 hA hρ; have hL0 := hle2; (try have hle := hle.trans hle2); (try have hl := hl.up hle2); (try have hto := hto.up hle2)
    unfold QeG
    all_goals (refine Q0 ?_; refine Q0 ?_; refine Q2 ?_; refine zm ?_; refine Q1 rfl ?_; refine zl hS ?_; refine zL ?_; refine Qr rfl rfl ?_; refine zn ?_)
    refine Qn rfl (fun hc => ?_) (fun hc => ?_)
    · skip
      all_goals (refine zsk ?_; refine Q0 ?_; refine Qa ?_; refine Q0 ?_; refine Q2 ?_; refine Q1 rfl ?_; refine zl hS ?_; refine zm ?_; refine zi ?_; intro b3 o3 cs3 x3 hat3 hx3 he3; obtain ⟨vl3, rfl, hl3⟩ := Qi he3; (first | (refine zv hS ?_) | (refine zvk hS ?_)); refine zm ?_)
      all_goals (refine zR2 (c := ih _ (List.mem_of_getElem? hx3) (hsub _ (List.mem_of_getElem? hx3)) he3 hto hS) (h := ?_); rintro v1 w1 ⟨c1, ds, rfl, hle2, hd1, hS⟩; obtain ⟨y, hy⟩ : ∃ y, (x3.ren to).getD (.mk 0 0 []) = y := ⟨_, rfl⟩; rw [hy] at hd1; obtain ⟨v7, rfl, hv7⟩ := Qi hd1; (try have hle := hle.trans hle2); (try have hL0 := hL0.trans hle2); (try have hl := hl.up hle2); (try have hl3 := hl3.up hle2); (try have he3 := he3.up hle2); (try have hls := hls.up hle2); (try have hto := hto.up hle2); cases hg : x3.ren to)
      all_goals (refine zm ?_; refine Q47 rfl rfl ?_; refine Q47 rfl rfl ?_; refine Qb hS ?_; intro p8 w1 hS; refine zsn hS ?_; intro w1 hS; have hS := hS.ns; refine zm ?_; refine zn ?_; refine Q0 ?_; refine Q0 ?_; refine Q2 ?_; refine zm ?_; refine Q1o rfl ?_; refine zn ?_)
      all_goals
        first
        | (refine Q3 rfl ?_ -- Q2I c4
           all_goals (refine Q0 ?_; refine Q2 ?_; refine zb0 [_, _, _] ?_; refine zsn hS ?_; intro w1 hS; have hS := hS.ns; refine zm ?_; refine zn ?_; refine zr ?_; refine Q1i vw (Qc (n := 3) (by kernel_rfl) (by kernel_rfl) (hS.blkAt fd) (by rfl) (by rfl)) vw ?_)
           all_goals (first | (rw [QhB (by omega)]; exact ⟨_, rfl, _, _, rfl, hle, Q1X (Rep.SR.nil _ _ _), hS.sp⟩) | (rw [Qbl (by omega) hx1 (by omega)]; exact ⟨_, rfl, _, _, rfl, hle, Q1X (Rep.SR.nil _ _ _), hS.sp⟩) | (rw [hr, Q9A hd hx3 hg]; exact ⟨_, rfl, _, _, rfl, hle, Q1X (Rep.SR.nil _ _ _), hS.sp⟩)))
        | (refine Q4 rfl ?_ -- Q2I c4
           all_goals refine zsk ?_)
      all_goals (refine Q2 ?_; refine Q1 rfl ?_; refine zl hS ?_; refine zv hS ?_; refine zB1 hS [_, _, _] ?_; intro b1 w1 hS; refine za Q3s Q6O hS ?_; intro vp1 w1 css1 hls1 hv1 hS; have hS := hS.ns; refine Q1 rfl ?_; refine zst hS ?_; intro w1 hS; have hS := hS.ns; refine zn ?_; refine Q2 ?_; refine zm ?_; refine zad ?_; refine zm ?_; refine zn ?_; exact ⟨⟨_, j + 1, _, _, us ++ [y], zh, zh, hL0, (by omega), by simp [hus], Qrg hd hx3 (by rw [hg, ← hy, hg]; rfl), by assumption, by assumption, hS.sp⟩, Qo (by omega)⟩)
    · skip
      all_goals (refine zex ?_; refine Q0 ?_; refine Q2 ?_; refine zv hS ?_; refine zsn hS ?_; intro w1 hS; have hS := hS.ns; refine zm ?_; refine zn ?_; refine zr ?_; refine Q1i vw (Qc (n := 3) (by kernel_rfl) (by kernel_rfl) (hS.blkAt fd) (by rfl) (by rfl)) vw ?_; (first | (rw [QhB (by omega)]; exact ⟨_, rfl, _, _, rfl, hle, Q1X (Rep.SR.nil _ _ _), hS.sp⟩) | (rw [Qbl (by omega) hx1 (by omega)]; exact ⟨_, rfl, _, _, rfl, hle, Q1X (Rep.SR.nil _ _ _), hS.sp⟩) | (rw [hr, Q9A hd hx3 hg]; exact ⟨_, rfl, _, _, rfl, hle, Q1X (Rep.SR.nil _ _ _), hS.sp⟩) | (rw [hr, Qvb hd (by omega)]; obtain ⟨c3, hle3, hS, hl3⟩ := St.freezeL (r := tyR) (l := us) (T := 112) (es := 3) (v := u) (css := css) (L := L) hS.sp hls rfl (by omega); exact ⟨_, rfl, c3, _, rfl, hle.trans hle3, Q1X hl3, hS⟩)))
end Go.Proofs.YtanlkfeogoganaaGreat
namespace Go.Lir
set_option linter.unusedVariables false
abbrev Flt := Int × Int
/-- The first fault. -/
def orF (a b : Flt) : Flt := if a.1 = 0 ∧ b.1 ≠ 0 then b else a
def mkF (c at' : Int) : Flt := if c = 0 then (0, 0) else (c, at')
theorem Q3Q (a b c : Flt) : orF (orF a b) c = orF a (orF b c) := by
  unfold orF
  by_cases h1 : a.1 = 0 <;> by_cases h2 : b.1 = 0 <;> by_cases h3 : c.1 = 0 <;> simp [h1, h2, h3]
theorem Q4u {a b : Flt} (h : a.1 ≠ 0) : orF a b = a := by unfold orF; rw [if_neg (fun h' => h h'.1)]
theorem QvO {a b : Flt} (h : b.1 = 0) : orF a b = a := by unfold orF; rw [if_neg (fun h' => h'.2 h)]
theorem Q23 {b : Flt} (h : b.1 = 0 → b = (0, 0)) : orF (0, 0) b = b := by
  unfold orF
  by_cases hb : b.1 = 0
  · rw [h hb]; rfl
  · rw [if_pos ⟨rfl, hb⟩]
theorem Q2m (at' : Int) : mkF 0 at' = (0, 0) := rfl
theorem Q6P {c at' : Int} (h : c ≠ 0) : mkF c at' = (c, at') := if_neg h
theorem Q2a (c at' : Int) : (mkF c at').1 = c := by unfold mkF; split <;> simp_all
theorem Qbo (c at' : Int) : (mkF c at').1 = 0 → mkF c at' = (0, 0) := by rw [Q2a]; rintro rfl; rfl
theorem Qlp {a b : Flt} (ha : a.1 = 0 → a = (0, 0)) (hb : b.1 = 0 → b = (0, 0)) : (orF a b).1 = 0 → orF a b = (0, 0) := by
  unfold orF
  split
  · exact hb
  · exact ha
/-- Two codes at one place: the first that is not 0. -/
def orC (a b : Int) : Int := if a ≠ 0 then a else b
theorem Q38 {g : Flt} {a b at' : Int} : orF (orF g (mkF a at')) (mkF b at') = orF g (mkF (orC a b) at') := by
  rw [Q3Q]
  congr 1
  unfold orC orF
  by_cases h : a = 0
  · subst h
    by_cases hb : b = 0
    · subst hb; rfl
    · simp [mkF, hb]
  · simp [mkF, h]

/-! which fields an instruction has -/
def fA (op : Int) : Bool := decide (op = 2 ∨ op = 4 ∨ op = 5 ∨ op = 6 ∨ op = 7 ∨ op = 8 ∨ op = 9 ∨ op = 10 ∨ op = 11 ∨ op = 13)
def fB (op : Int) : Bool := decide (op = 2 ∨ op = 7 ∨ op = 8 ∨ op = 9 ∨ op = 10)
def fC (op : Int) : Bool := decide (op = 10)
def fK (op : Int) : Bool := decide (op = 2 ∨ op = 6 ∨ op = 7 ∨ op = 14)
def fN (op : Int) : Bool := decide (op = 1)
def fG (op : Int) : Bool := decide (op = 14)
def fR (op : Int) : Bool := decide (op = 5 ∨ op = 14)
/-- A field that the kind has not is not 0. -/
def Ins.odd (x : Ins) : Prop := (fA x.op = false ∧ x.a ≠ 0) ∨ (fB x.op = false ∧ x.b ≠ 0) ∨ (fC x.op = false ∧ x.c ≠ 0) ∨ (fK x.op = false ∧ x.k ≠ 0) ∨ (fN x.op = false ∧ x.n ≠ 0) ∨ (fG x.op = false ∧ 0 < x.regs.length) ∨ (fR x.op = false ∧ 0 < x.args.length)
instance (x : Ins) : Decidable x.odd := by unfold Ins.odd; infer_instance
/-- What stands behind the form, kind by kind. -/
def Q1S (n : Nat) (x : Ins) : Int :=
  if x.op = 2 then (if x.k < 1 ∨ 9 < x.k then 1 else 0)
  else if x.op = 5 then (if 8 < x.args.length then 2 else 0)
  else if x.op = 6 ∨ x.op = 7 then (if x.k < 0 ∨ 8 ≤ x.k then 1 else 0)
  else if x.op = 14 then (if x.k < 0 ∨ (n : Int) ≤ x.k then 1 else if 6 < x.regs.length ∨ 8 < x.args.length then 2 else 0)
  else 0
def QF (n : Nat) (x : Ins) : Int := if x.op < 1 ∨ 14 < x.op then 3 else if x.odd then 4 else Q1S n x
def Q2e (n : Nat) (t : To) (is : Bool) : Int :=
  if is = false then (if t.block ≠ 0 ∨ 0 < t.regs.length ∨ 0 < t.args.length then 4 else 0)
  else if t.block < 0 ∨ (n : Int) ≤ t.block then 1 else if 16 < t.regs.length ∨ 8 < t.args.length then 2 else 0
def Q1P (n : Nat) (e : Tail) : Int :=
  if e.op < 1 ∨ 3 < e.op then 3
  else if e.op ≠ 2 ∧ e.a ≠ 0 ∨ e.op ≠ 3 ∧ 0 < e.args.length then 4
  else if 8 < e.args.length then 2
  else orC (Q2e n e.yes (decide (e.op ≠ 3))) (Q2e n e.no (decide (e.op = 2)))
def Q2L (regs : Int) : List Ty → Int
  | [] => 0
  | t :: l => orC (t.fault regs) (Q2L regs l)
def Qv (l : List Ty) (regs : Int) : Int := if 8 < l.length then 2 else Q2L regs l
def Q3k (f : Nat) : Int := f * 10000 + 9999
def Q3m (f b : Nat) : Int := f * 10000 + b * 100 + 90
def Qb2 (f b : Nat) : Int := f * 10000 + b * 100 + 91
def Q7v (f b i : Nat) : Int := f * 10000 + b * 100 + i
/-- The instructions from the i-th on. -/
def Q16 (n f b : Nat) : Nat → List Ins → Flt
  | _, [] => (0, 0)
  | i, x :: l => orF (mkF (QF n x) (Q7v f b i)) (Q16 n f b (i + 1) l)
def Qz (x : Fun) (b : Nat) (y : Block) : Int :=
  if y.regs < x.regs ∨ 16 < y.regs then 1
  else if Qv y.params y.regs ≠ 0 then Qv y.params y.regs
  else if b = 0 ∧ (y.regs ≠ x.regs ∨ y.params ≠ x.params) then 9
  else if 40 < y.code.length then 2 else 0
def QW (n f : Nat) (x : Fun) (b : Nat) (y : Block) : Flt := orF (mkF (Qz x b y) (Q3m f b)) (orF (Q16 n f b 0 y.code) (mkF (Q1P x.blocks.length y.fin) (Qb2 f b)))
def QX (n f : Nat) (x : Fun) : Nat → List Block → Flt
  | _, [] => (0, 0)
  | b, y :: l => orF (QW n f x b y) (QX n f x (b + 1) l)
def QC (f : Nat) (x : Fun) : Int :=
  if x.regs < 0 ∨ 6 < x.regs then 1
  else if Qv x.params x.regs ≠ 0 then Qv x.params x.regs
  else if Qv x.results x.regs ≠ 0 then Qv x.results x.regs
  else if x.blocks.length < 1 ∨ 12 < x.blocks.length then 2
  else if f = 0 ∧ (0 < x.regs ∨ 0 < x.params.length ∨ ∃ t ∈ x.results, t.kind ≠ 1) then 18 else 0
def Q2c (n f : Nat) (x : Fun) : Flt := orF (mkF (QC f x) (Q3k f)) (QX n f x 0 x.blocks)
def Q1q (n : Nat) : Nat → List Fun → Flt
  | _, [] => (0, 0)
  | f, x :: l => orF (Q2c n f x) (Q1q n (f + 1) l)
def Module.fault (m : Module) : Flt := orF (mkF (if m.funcs.length < 1 ∨ 8 < m.funcs.length then 2 else 0) (-1)) (Q1q m.funcs.length 0 m.funcs)
theorem Q9k {n f b : Nat} : ∀ {l : List Ins} {i : Nat}, (Q16 n f b i l).1 = 0 → Q16 n f b i l = (0, 0)
  | [], _ => fun _ => rfl
  | _ :: _, _ => Qlp (Qbo _ _) Q9k
theorem QeF {n f : Nat} {x : Fun} {b : Nat} {y : Block} : (QW n f x b y).1 = 0 → QW n f x b y = (0, 0) := Qlp (Qbo _ _) (Qlp Q9k (Qbo _ _))
theorem Q3h {n f : Nat} {x : Fun} : ∀ {l : List Block} {b : Nat}, (QX n f x b l).1 = 0 → QX n f x b l = (0, 0)
  | [], _ => fun _ => rfl
  | _ :: _, _ => Qlp QeF Q3h
theorem Qs {n : Nat} : ∀ {l : List Fun} {f : Nat}, (Q1q n f l).1 = 0 → Q1q n f l = (0, 0)
  | [], _ => fun _ => rfl
  | _ :: _, _ => Qlp (Qlp (Qbo _ _) Q3h) Qs
theorem Module.fault_z {m : Module} : m.fault.1 = 0 → m.fault = (0, 0) := Qlp (Qbo _ _) Qs

theorem Q1Y {n f b : Nat} {x : Fun} {y : Block} {c : Int} (h : Qz x b y = c) (hc : c ≠ 0) : QW n f x b y = (c, Q3m f b) := by
  unfold QW; rw [h, Q4u (by rw [Q2a]; exact hc), Q6P hc]
theorem Qut {n f b : Nat} {x : Fun} {y : Block} {F : Flt} (h : Qz x b y = 0) (hc : Q16 n f b 0 y.code = F) (hF : F.1 ≠ 0) : QW n f x b y = F := by
  unfold QW; rw [h, Q2m, hc, Q4u hF, Q23 (fun h => absurd h hF)]
theorem bf_end {n f b : Nat} {x : Fun} {y : Block} (h : Qz x b y = 0) (hc : Q16 n f b 0 y.code = (0, 0)) : QW n f x b y = mkF (Q1P x.blocks.length y.fin) (Qb2 f b) := by
  unfold QW; rw [h, Q2m, hc, Q23 (Qbo _ _), Q23 (Qbo _ _)]
theorem QlI {n f b i : Nat} {x : Ins} {l : List Ins} (h : QF n x = 0) : Q16 n f b i (x :: l) = Q16 n f b (i + 1) l := by
  rw [Q16, h, Q2m, Q23 Q9k]
theorem Q4A {n f b i : Nat} {x : Ins} {l : List Ins} (h : QF n x ≠ 0) : Q16 n f b i (x :: l) = (QF n x, Q7v f b i) := by
  rw [Q16, Q4u (by rw [Q2a]; exact h), Q6P h]
theorem Q15 {n f : Nat} {x : Fun} {c : Int} (h : QC f x = c) (hc : c ≠ 0) : Q2c n f x = (c, Q3k f) := by
  unfold Q2c; rw [h, Q4u (by rw [Q2a]; exact hc), Q6P hc]
theorem Qi5 {n f : Nat} {x : Fun} (h : QC f x = 0) : Q2c n f x = QX n f x 0 x.blocks := by
  unfold Q2c; rw [h, Q2m, Q23 Q3h]
theorem Qfp {n f b : Nat} {x : Fun} {y : Block} {l : List Block} (h : (QW n f x b y).1 = 0) : QX n f x b (y :: l) = QX n f x (b + 1) l := by
  rw [QX, QeF h, Q23 Q3h]
theorem Q5C {n f b : Nat} {x : Fun} {y : Block} {l : List Block} (h : (QW n f x b y).1 ≠ 0) : QX n f x b (y :: l) = QW n f x b y := by
  rw [QX, Q4u h]
theorem QvZ {n f : Nat} {x : Fun} : (Q2c n f x).1 = 0 → Q2c n f x = (0, 0) := Qlp (Qbo _ _) Q3h
theorem Qls {n f : Nat} {x : Fun} {l : List Fun} (h : (Q2c n f x).1 = 0) : Q1q n f (x :: l) = Q1q n (f + 1) l := by
  rw [Q1q, QvZ h, Q23 Qs]
theorem Qp {n f : Nat} {x : Fun} {l : List Fun} (h : (Q2c n f x).1 ≠ 0) : Q1q n f (x :: l) = Q2c n f x := by
  rw [Q1q, Q4u h]

/-! has -/
def hasTab : List ByteArray := [⟨#[]⟩, ⟨#[110]⟩, ⟨#[97, 98, 107]⟩, ⟨#[]⟩, ⟨#[97]⟩, ⟨#[97, 114]⟩, ⟨#[97, 107]⟩, ⟨#[97, 98, 107]⟩, ⟨#[97, 98]⟩, ⟨#[97, 98]⟩, ⟨#[97, 98, 99]⟩, ⟨#[97]⟩, ⟨#[]⟩, ⟨#[97]⟩, ⟨#[107, 103, 114]⟩]
def hasF (op : Int) : ByteArray := if op < 1 ∨ 14 < op then ⟨#[]⟩ else hasTab.getD op.toNat ⟨#[]⟩
def Q1J (s : ByteArray) (c : Nat) : Bool := s.data.toList.any fun b => decide (b.toNat = c)
theorem op_cases {op : Int} (h1 : ¬ op < 1) (h2 : ¬ 14 < op) : op = 1 ∨ op = 2 ∨ op = 3 ∨ op = 4 ∨ op = 5 ∨ op = 6 ∨ op = 7 ∨ op = 8 ∨ op = 9 ∨ op = 10 ∨ op = 11 ∨ op = 12 ∨ op = 13 ∨ op = 14 := by omega
theorem with_all (op : Int) (h : ¬ (op < 1 ∨ 14 < op)) : Q1J (hasF op) 97 = fA op ∧ Q1J (hasF op) 98 = fB op ∧ Q1J (hasF op) 99 = fC op ∧ Q1J (hasF op) 107 = fK op ∧ Q1J (hasF op) 110 = fN op ∧ Q1J (hasF op) 103 = fG op ∧ Q1J (hasF op) 114 = fR op := by
  rcases op_cases (op := op) (by omega) (by omega) with rfl | rfl | rfl | rfl | rfl | rfl | rfl | rfl | rfl | rfl | rfl | rfl | rfl | rfl <;> decide
end Go.Lir
namespace Go.Lir
set_option linter.unusedVariables false
/-- Which regions are held, which values there are. -/
structure JS where
  h : List Bool
  l : List Ty
deriving instance DecidableEq for JS
def jval (s : JS) (k : Int) : Except Int Ty := if k < 0 then .error 1 else match s.l[k.toNat]? with
  | none => .error 1
  | some t => .ok t
def ebind {α β : Type} (x : Except Int α) (f : α → Except Int β) : Except Int β := match x with
  | .error e => .error e
  | .ok a => f a
theorem Qu {α β : Type} {x : Except Int α} {f : α → Except Int β} {e : Int} (h : x = .error e) : ebind x f = .error e := by rw [h]; rfl
theorem Q9 {α β : Type} {x : Except Int α} {f : α → Except Int β} {a : α} (h : x = .ok a) : ebind x f = f a := by rw [h]; rfl
theorem Qg {α β : Type} {x : Except Int α} {f : α → Except Int β} {b : β} (h : ebind x f = .ok b) : ∃ a, x = .ok a ∧ f a = .ok b := by
  cases x with
  | error e => cases h
  | ok a => exact ⟨a, rfl, h⟩
def jkind (s : JS) (k kind : Int) : Except Int Ty := ebind (jval s k) fun t => if t.kind ≠ kind then .error 9 else .ok t
def jat (s : JS) (k kind : Int) : Except Int Ty := ebind (jkind s k kind) fun t => if hasB s.h t.r = false then .error 10 else .ok t
def jput (s : JS) (t : Ty) : Except Int JS := if s.l.length = 80 then .error 2 else .ok ⟨s.h, s.l ++ [t]⟩
def Q2s (s : JS) (regs : List Int) : List Int → List Ty → Except Int Unit
  | k :: l, u :: want => ebind (jval s k) fun t => match u.ren regs with
    | none => .error 9
    | some u' => if t ≠ u' then .error 9 else Q2s s regs l want
  | _, _ => .ok ()
def Q6c (s : JS) (l : List Int) (want : List Ty) (regs : List Int) : Except Int Unit := if l.length ≠ want.length then .error 2 else Q2s s regs l want
def Q3c (t : Ty) (k : Int) : Except Int Ty := match t.l[k.toNat]? with
  | none => .error 9
  | some u => .ok u
/-- The regions that a call hands over: those behind p. -/
def Q2N (h : List Bool) (p : List Int) : List Int → Except Int Unit
  | [] => .ok ()
  | r :: l => if hasB h r = false then .error 10 else if r ∈ p then .error 13 else Q2N h (p ++ [r]) l
def renT (to : List Int) (t : Ty) : Ty := (t.ren to).getD (.mk 0 0 [])
def Qf1 (m : Module) (s : JS) (x : Ins) : Except Int JS := match m.funcs[x.k.toNat]? with
  | none => .error 1
  | some g => if (x.regs.length : Int) ≠ g.regs then .error 2 else ebind (Q2N s.h [] x.regs) fun _ => ebind (Q6c s x.args g.params x.regs) fun _ =>
    if 80 < s.l.length + g.results.length then .error 2 else .ok ⟨s.h, s.l ++ g.results.map (renT x.regs)⟩
/-- The types of the values of these numbers, behind some. -/
def jfields (s : JS) : List Int → Except Int (List Ty)
  | [] => .ok []
  | k :: l => ebind (jval s k) fun t => ebind (jfields s l) fun ts => .ok (t :: ts)
def number : Ty := .mk 1 0 []
def Q7C (s : JS) (x : Ins) : Except Int JS := ebind (jat s x.a 2) fun t => ebind (jfields s x.args) fun ts =>
  if (Ty.mk 3 t.r ts).fault s.h.length ≠ 0 then .error 19 else jput s (.mk 3 t.r ts)
def jins (m : Module) (f : Fun) (s : JS) (x : Ins) : Except Int JS :=
  if x.op = 1 ∨ x.op = 12 then jput s number
  else if x.op = 2 then ebind (jkind s x.a 1) fun _ => ebind (jkind s x.b 1) fun _ => jput s number
  else if x.op = 3 then (if s.h.length = 16 ∨ s.l.length = 80 then .error 2 else .ok ⟨s.h ++ [true], s.l ++ [.mk 2 s.h.length []]⟩)
  else if x.op = 4 then ebind (jat s x.a 2) fun t => if t.r < f.regs then .error 11 else .ok ⟨s.h.set t.r.toNat false, s.l⟩
  else if x.op = 5 then Q7C s x
  else if x.op = 6 then ebind (jat s x.a 3) fun t => ebind (Q3c t x.k) fun u => jput s u
  else if x.op = 7 then ebind (jat s x.a 3) fun t => ebind (Q3c t x.k) fun u => ebind (jval s x.b) fun v => if u ≠ v then .error 9 else .ok s
  else if x.op = 8 then ebind (jat s x.a 2) fun t => ebind (jkind s x.b 1) fun _ => jput s (.mk 4 t.r [])
  else if x.op = 9 then ebind (jat s x.a 4) fun _ => ebind (jkind s x.b 1) fun _ => jput s number
  else if x.op = 10 then ebind (jat s x.a 4) fun _ => ebind (jkind s x.b 1) fun _ => ebind (jkind s x.c 1) fun _ => .ok s
  else if x.op = 11 then ebind (jat s x.a 4) fun _ => jput s number
  else if x.op = 13 then ebind (jkind s x.a 1) fun _ => .ok s
  else Qf1 m s x
/-- One instruction: a code, and what is known behind it. -/
def jIns (m : Module) (f : Fun) (s : JS) (x : Ins) : Int × JS := if QF m.funcs.length x ≠ 0 then (QF m.funcs.length x, s) else match jins m f s x with
  | .error c => (c, s)
  | .ok s' => (0, s')
/-- Do the first n numbers of a list stand for themselves? -/
def Q3S (l : List Int) (n : Nat) : Bool := (List.range n).all fun i => decide (l[i]? = some (i : Int))
def jto (f : Fun) (s : JS) (t : To) : Except Int Unit := match f.blocks[t.block.toNat]? with
  | none => .error 1
  | some b => if (t.regs.length : Int) ≠ b.regs then .error 2 else if Q3S t.regs f.regs.toNat = false then .error 11 else
    if Q1N s.h [] t.regs ≠ 0 then .error (Q1N s.h [] t.regs) else Q6c s t.args b.params t.regs
def upTo (n : Nat) : List Int := (List.range n).map Int.ofNat
def jend (f : Fun) (s : JS) (e : Tail) : Except Int Unit :=
  if e.op = 1 then jto f s e.yes
  else if e.op = 2 then ebind (jkind s e.a 1) fun _ => ebind (jto f s e.yes) fun _ => jto f s e.no
  else ebind (Q6c s e.args f.results (upTo f.regs.toNat)) fun _ => if f.regs < (Q21 s.h).length then .error 12 else .ok ()
def jEnd (f : Fun) (s : JS) (e : Tail) : Int := if Q1P f.blocks.length e ≠ 0 then Q1P f.blocks.length e else match jend f s e with
  | .error c => c
  | .ok _ => 0
/-- At the beginning of a block. -/
def Q2n (y : Block) : JS := ⟨List.replicate (min y.regs 16).toNat true, y.params⟩

/-! ### What is true of it -/
theorem QtL {s : JS} {k : Int} {t : Ty} (h : jval s k = .ok t) : 0 ≤ k ∧ s.l[k.toNat]? = some t := by
  unfold jval at h
  split at h
  · cases h
  · rename_i h0
    split at h
    · cases h
    · rename_i u hu; cases h; exact ⟨by omega, hu⟩
theorem Q63 {s : JS} {k : Int} (h : k < 0 ∨ (s.l.length : Int) ≤ k) : jval s k = .error 1 := by
  unfold jval
  by_cases h0 : k < 0
  · rw [if_pos h0]
  · rw [if_neg h0, List.getElem?_eq_none (by omega)]
theorem Q4c {s : JS} {k : Int} {t : Ty} (h0 : 0 ≤ k) (h : s.l[k.toNat]? = some t) : jval s k = .ok t := by
  unfold jval
  rw [if_neg (by omega), h]
theorem jkind_ok {s : JS} {k kind : Int} {t : Ty} (h : jkind s k kind = .ok t) : 0 ≤ k ∧ s.l[k.toNat]? = some t ∧ t.kind = kind := by
  obtain ⟨u, h1, h2⟩ := Qg h
  split at h2
  · cases h2
  · rename_i hk; cases h2; have := QtL h1; exact ⟨this.1, this.2, Classical.not_not.1 hk⟩
theorem Qez {s : JS} {k kind : Int} {t : Ty} (h : jat s k kind = .ok t) : 0 ≤ k ∧ s.l[k.toNat]? = some t ∧ t.kind = kind ∧ hasB s.h t.r = true := by
  obtain ⟨u, h1, h2⟩ := Qg h
  split at h2
  · cases h2
  · rename_i hk; cases h2; have := jkind_ok h1; exact ⟨this.1, this.2.1, this.2.2, by simpa using hk⟩
theorem QtN {s s' : JS} {t : Ty} (h : jput s t = .ok s') : s.l.length ≠ 80 ∧ s'.h = s.h ∧ s'.l = s.l ++ [t] := by
  unfold jput at h
  split at h
  · cases h
  · rename_i hk; cases h; exact ⟨hk, rfl, rfl⟩
/-- How an instruction that is let by changes what is known. -/
structure JStep (x : Ins) (s s' : JS) : Prop where
  len : s.l.length ≤ 80 → s'.l.length ≤ 80
  pre : ∃ more, s'.l = s.l ++ more ∧ (x.op ≠ 14 → more.length ≤ 1) ∧ (x.op = 3 → more.length = 1) ∧ (x.op = 4 → more = [])
  new : x.op = 3 → s'.h = s.h ++ [true] ∧ s.h.length ≠ 16
  free : x.op = 4 → ∃ t, 0 ≤ x.a ∧ s.l[x.a.toNat]? = some t ∧ t.kind = 2 ∧ hasB s.h t.r = true ∧ s'.h = s.h.set t.r.toNat false
  else_ : x.op ≠ 3 → x.op ≠ 4 → s'.h = s.h
theorem Q3X {x : Ins} {s s' : JS} {t : Ty} (h : jput s t = .ok s') (h3 : x.op ≠ 3) (h4 : x.op ≠ 4) : JStep x s s' := by
  obtain ⟨h1, h2, h5⟩ := QtN h
  refine ⟨fun hl => by rw [h5, List.length_append]; simp only [List.length_cons, List.length_nil]; omega, ⟨[t], h5, fun _ => by simp, fun h => absurd h h3, fun h => absurd h h4⟩, fun h => absurd h h3, fun h => absurd h h4, fun _ _ => h2⟩
theorem QbQ {x : Ins} {s : JS} (h3 : x.op ≠ 3) (h4 : x.op ≠ 4) : JStep x s s :=
  ⟨fun hl => hl, ⟨[], by simp, fun _ => by simp, fun h => absurd h h3, fun h => absurd h h4⟩, fun h => absurd h h3, fun h => absurd h h4, fun _ _ => rfl⟩
theorem Qxj {m : Module} {f : Fun} {s s' : JS} {x : Ins} (hop : 1 ≤ x.op ∧ x.op ≤ 14) (h : jins m f s x = .ok s') : JStep x s s' := by
  unfold jins at h
  by_cases h1 : x.op = 1 ∨ x.op = 12
  · rw [if_pos h1] at h; exact Q3X h (by omega) (by omega)
  rw [if_neg h1] at h
  by_cases h2 : x.op = 2
  · rw [if_pos h2] at h; obtain ⟨_, _, h⟩ := Qg h; obtain ⟨_, _, h⟩ := Qg h; exact Q3X h (by omega) (by omega)
  rw [if_neg h2] at h
  by_cases hc : x.op = 3
  · rw [if_pos hc] at h
    by_cases hn : s.h.length = 16 ∨ s.l.length = 80
    · rw [if_pos hn] at h; cases h
    · rw [if_neg hn] at h
      cases h
      exact ⟨fun hl => by simp only [List.length_append, List.length_cons, List.length_nil]; omega, ⟨[_], rfl, fun _ => by simp, fun _ => rfl, fun h => by omega⟩, fun _ => ⟨rfl, by omega⟩, fun h => by omega, fun h => absurd hc h⟩
  rw [if_neg hc] at h
  by_cases hc4 : x.op = 4
  · rw [if_pos hc4] at h
    obtain ⟨t, h1, h⟩ := Qg h
    by_cases hk : t.r < f.regs
    · rw [if_pos hk] at h; cases h
    · rw [if_neg hk] at h
      cases h
      obtain ⟨a1, a2, a3, a4⟩ := Qez h1
      exact ⟨fun hl => hl, ⟨[], by simp, fun _ => by simp, fun h => by omega, fun _ => rfl⟩, fun h => by omega, fun _ => ⟨t, a1, a2, a3, a4, rfl⟩, fun _ h => absurd hc4 h⟩
  rw [if_neg hc4] at h
  by_cases h5 : x.op = 5
  · rw [if_pos h5] at h
    unfold Q7C at h
    obtain ⟨t, _, h⟩ := Qg h; obtain ⟨ts, _, h⟩ := Qg h
    by_cases hk : (Ty.mk 3 t.r ts).fault s.h.length ≠ 0
    · rw [if_pos hk] at h; cases h
    · rw [if_neg hk] at h; exact Q3X h (by omega) (by omega)
  rw [if_neg h5] at h
  by_cases h6 : x.op = 6
  · rw [if_pos h6] at h; obtain ⟨_, _, h⟩ := Qg h; obtain ⟨_, _, h⟩ := Qg h; exact Q3X h (by omega) (by omega)
  rw [if_neg h6] at h
  by_cases h7 : x.op = 7
  · rw [if_pos h7] at h
    obtain ⟨_, _, h⟩ := Qg h; obtain ⟨u, _, h⟩ := Qg h; obtain ⟨v, _, h⟩ := Qg h
    by_cases hk : u ≠ v
    · rw [if_pos hk] at h; cases h
    · rw [if_neg hk] at h; cases h; exact QbQ (by omega) (by omega)
  rw [if_neg h7] at h
  by_cases h8 : x.op = 8
  · rw [if_pos h8] at h; obtain ⟨_, _, h⟩ := Qg h; obtain ⟨_, _, h⟩ := Qg h; exact Q3X h (by omega) (by omega)
  rw [if_neg h8] at h
  by_cases h9 : x.op = 9
  · rw [if_pos h9] at h; obtain ⟨_, _, h⟩ := Qg h; obtain ⟨_, _, h⟩ := Qg h; exact Q3X h (by omega) (by omega)
  rw [if_neg h9] at h
  by_cases h10 : x.op = 10
  · rw [if_pos h10] at h; obtain ⟨_, _, h⟩ := Qg h; obtain ⟨_, _, h⟩ := Qg h; obtain ⟨_, _, h⟩ := Qg h; cases h; exact QbQ (by omega) (by omega)
  rw [if_neg h10] at h
  by_cases h11 : x.op = 11
  · rw [if_pos h11] at h; obtain ⟨_, _, h⟩ := Qg h; exact Q3X h (by omega) (by omega)
  rw [if_neg h11] at h
  by_cases h13 : x.op = 13
  · rw [if_pos h13] at h; obtain ⟨_, _, h⟩ := Qg h; cases h; exact QbQ (by omega) (by omega)
  rw [if_neg h13] at h
  unfold Qf1 at h
  split at h
  · cases h
  · rename_i g hg
    by_cases hr : (x.regs.length : Int) ≠ g.regs
    · rw [if_pos hr] at h; cases h
    · rw [if_neg hr] at h
      obtain ⟨_, _, h⟩ := Qg h; obtain ⟨_, _, h⟩ := Qg h
      by_cases hn : 80 < s.l.length + g.results.length
      · rw [if_pos hn] at h; cases h
      · rw [if_neg hn] at h
        cases h
        exact ⟨fun hl => by rw [List.length_append, List.length_map]; omega, ⟨_, rfl, fun h => by omega, fun h => by omega, fun h => by omega⟩, fun h => by omega, fun h => by omega, fun _ _ => rfl⟩
theorem Q4K {n : Nat} {x : Ins} (h : QF n x = 0) : 1 ≤ x.op ∧ x.op ≤ 14 := by
  unfold QF at h
  split at h
  · cases h
  · omega
section
variable {s : JS} {regs l : List Int} {want : List Ty} {k : Nat} {x c : Int} {u u' t : Ty}
theorem QoN (hx : l[k]? = some x) (hu : want[k]? = some u) (h : jval s x = .error c) : Q2s s regs (l.drop k) (want.drop k) = .error c := by
  rw [Q7 hx, Q7 hu, Q2s, Qu h]
theorem QhW (hx : l[k]? = some x) (hu : want[k]? = some u) (h : jval s x = .ok t) (hn : u.ren regs = none) : Q2s s regs (l.drop k) (want.drop k) = .error 9 := by
  rw [Q7 hx, Q7 hu, Q2s, Q9 h, hn]
theorem QhX (hx : l[k]? = some x) (hu : want[k]? = some u) (h : jval s x = .ok t) (hn : u.ren regs = some u') (hd : t ≠ u') : Q2s s regs (l.drop k) (want.drop k) = .error 9 := by
  rw [Q7 hx, Q7 hu, Q2s, Q9 h, hn]; exact if_pos hd
theorem Qxm (hx : l[k]? = some x) (hu : want[k]? = some u) (h : jval s x = .ok t) (hn : u.ren regs = some u') (hd : t = u') : Q2s s regs (l.drop k) (want.drop k) = Q2s s regs (l.drop (k + 1)) (want.drop (k + 1)) := by
  rw [Q7 hx, Q7 hu, Q2s, Q9 h, hn]; exact if_neg (fun h => h hd)
theorem Qxl (h : l.length ≤ k) : Q2s s regs (l.drop k) (want.drop k) = .ok () := by
  rw [List.drop_of_length_le h, Q2s]
  intro k l u w h; cases h
end
section
variable {m : Module} {f : Fun} {s : JS} {x : Ins}
theorem Qey (h : x.op = 1 ∨ x.op = 12) : jins m f s x = (jput s number) := by
  unfold jins; rw [if_pos (by omega)]
theorem QhR (h : x.op = 2) : jins m f s x = (ebind (jkind s x.a 1) fun _ => ebind (jkind s x.b 1) fun _ => jput s number) := by
  unfold jins; rw [if_neg (by omega), if_pos (by omega)]
theorem QrH (h : x.op = 3) : jins m f s x = (if s.h.length = 16 ∨ s.l.length = 80 then .error 2 else .ok ⟨s.h ++ [true], s.l ++ [.mk 2 s.h.length []]⟩) := by
  unfold jins; rw [if_neg (by omega), if_neg (by omega), if_pos (by omega)]
theorem Qo1 (h : x.op = 4) : jins m f s x = (ebind (jat s x.a 2) fun t => if t.r < f.regs then .error 11 else .ok ⟨s.h.set t.r.toNat false, s.l⟩) := by
  unfold jins; rw [if_neg (by omega), if_neg (by omega), if_neg (by omega), if_pos (by omega)]
theorem QrG (h : x.op = 5) : jins m f s x = (Q7C s x) := by
  unfold jins; rw [if_neg (by omega), if_neg (by omega), if_neg (by omega), if_neg (by omega), if_pos (by omega)]
theorem QhQ (h : x.op = 6) : jins m f s x = (ebind (jat s x.a 3) fun t => ebind (Q3c t x.k) fun u => jput s u) := by
  unfold jins; rw [if_neg (by omega), if_neg (by omega), if_neg (by omega), if_neg (by omega), if_neg (by omega), if_pos (by omega)]
theorem Q3i (h : x.op = 7) : jins m f s x = (ebind (jat s x.a 3) fun t => ebind (Q3c t x.k) fun u => ebind (jval s x.b) fun v => if u ≠ v then .error 9 else .ok s) := by
  unfold jins; rw [if_neg (by omega), if_neg (by omega), if_neg (by omega), if_neg (by omega), if_neg (by omega), if_neg (by omega), if_pos (by omega)]
theorem QhP (h : x.op = 8) : jins m f s x = (ebind (jat s x.a 2) fun t => ebind (jkind s x.b 1) fun _ => jput s (.mk 4 t.r [])) := by
  unfold jins; rw [if_neg (by omega), if_neg (by omega), if_neg (by omega), if_neg (by omega), if_neg (by omega), if_neg (by omega), if_neg (by omega), if_pos (by omega)]
theorem QhO (h : x.op = 9) : jins m f s x = (ebind (jat s x.a 4) fun _ => ebind (jkind s x.b 1) fun _ => jput s number) := by
  unfold jins; rw [if_neg (by omega), if_neg (by omega), if_neg (by omega), if_neg (by omega), if_neg (by omega), if_neg (by omega), if_neg (by omega), if_neg (by omega), if_pos (by omega)]
theorem Q93 (h : x.op = 10) : jins m f s x = (ebind (jat s x.a 4) fun _ => ebind (jkind s x.b 1) fun _ => ebind (jkind s x.c 1) fun _ => .ok s) := by
  unfold jins; rw [if_neg (by omega), if_neg (by omega), if_neg (by omega), if_neg (by omega), if_neg (by omega), if_neg (by omega), if_neg (by omega), if_neg (by omega), if_neg (by omega), if_pos (by omega)]
theorem QbR (h : x.op = 11) : jins m f s x = (ebind (jat s x.a 4) fun _ => jput s number) := by
  unfold jins; rw [if_neg (by omega), if_neg (by omega), if_neg (by omega), if_neg (by omega), if_neg (by omega), if_neg (by omega), if_neg (by omega), if_neg (by omega), if_neg (by omega), if_neg (by omega), if_pos (by omega)]
theorem QhT (h : x.op = 13) : jins m f s x = (ebind (jkind s x.a 1) fun _ => .ok s) := by
  unfold jins; rw [if_neg (by omega), if_neg (by omega), if_neg (by omega), if_neg (by omega), if_neg (by omega), if_neg (by omega), if_neg (by omega), if_neg (by omega), if_neg (by omega), if_neg (by omega), if_neg (by omega), if_pos (by omega)]
theorem QhS (h : x.op = 14) : jins m f s x = (Qf1 m s x) := by
  unfold jins; rw [if_neg (by omega), if_neg (by omega), if_neg (by omega), if_neg (by omega), if_neg (by omega), if_neg (by omega), if_neg (by omega), if_neg (by omega), if_neg (by omega), if_neg (by omega), if_neg (by omega), if_neg (by omega)]
theorem Q5i {t : Ty} (h : s.l.length ≠ 80) : jput s t = .ok ⟨s.h, s.l ++ [t]⟩ := if_neg h
theorem Q92 {t : Ty} (h : s.l.length = 80) : jput s t = .error 2 := if_pos h
theorem QrK {q : Nat} {k c : Int} {ts : List Ty} (hx : x.args[q]? = some k) (hd : jfields s x.args = ebind (jfields s (x.args.drop q)) fun l => .ok (ts ++ l)) (h : jval s k = .error c) : jfields s x.args = .error c := by
  rw [hd, Q7 hx, jfields, Qu h]; rfl
theorem QrJ {q : Nat} {k : Int} {t : Ty} {ts : List Ty} (hx : x.args[q]? = some k) (hd : jfields s x.args = ebind (jfields s (x.args.drop q)) fun l => .ok (ts ++ l)) (h : jval s k = .ok t) : jfields s x.args = ebind (jfields s (x.args.drop (q + 1))) fun l => .ok ((ts ++ [t]) ++ l) := by
  rw [hd, Q7 hx, jfields, Q9 h]
  cases jfields s (x.args.drop (q + 1)) with
  | error c => rfl
  | ok l => simp [ebind]
theorem QrI {q : Nat} {ts : List Ty} (hd : jfields s x.args = ebind (jfields s (x.args.drop q)) fun l => .ok (ts ++ l)) (h : x.args.length ≤ q) : jfields s x.args = .ok ts := by
  rw [hd, List.drop_of_length_le h, jfields]; simp [ebind]
end
theorem kept_s (l : List Int) (n : Nat) : Q3S l (n + 1) = (Q3S l n && decide (l[n]? = some (n : Int))) := by
  unfold Q3S; rw [List.range_succ, List.all_append]; simp
theorem QoF {l : List Int} {n q : Nat} (hq : q < n) (h : l[q]? ≠ some (q : Int)) : Q3S l n = false := by
  unfold Q3S
  rw [List.all_eq_false]
  exact ⟨q, List.mem_range.2 hq, by simpa using h⟩
theorem Qv3 (n : Nat) : upTo (n + 1) = upTo n ++ [(n : Int)] := by unfold upTo; rw [List.range_succ, List.map_append]; rfl
section
variable {f : Fun} {s : JS} {t : To} {b : Block} {e : Tail}
theorem Qxg (hb : f.blocks[t.block.toNat]? = some b) (h : (t.regs.length : Int) ≠ b.regs) : jto f s t = .error 2 := by unfold jto; rw [hb]; exact if_pos h
theorem Qvn (hb : f.blocks[t.block.toNat]? = some b) (h : ¬ (t.regs.length : Int) ≠ b.regs) (h2 : Q3S t.regs f.regs.toNat = false) : jto f s t = .error 11 := by unfold jto; rw [hb]; simp only; rw [if_neg h, if_pos h2]
theorem jto_p (hb : f.blocks[t.block.toNat]? = some b) (h : ¬ (t.regs.length : Int) ≠ b.regs) (h2 : Q3S t.regs f.regs.toNat = true) (h3 : Q1N s.h [] t.regs ≠ 0) : jto f s t = .error (Q1N s.h [] t.regs) := by unfold jto; rw [hb]; simp only; rw [if_neg h, if_neg (by rw [h2]; decide), if_pos h3]
theorem jto_a (hb : f.blocks[t.block.toNat]? = some b) (h : ¬ (t.regs.length : Int) ≠ b.regs) (h2 : Q3S t.regs f.regs.toNat = true) (h3 : Q1N s.h [] t.regs = 0) : jto f s t = Q6c s t.args b.params t.regs := by unfold jto; rw [hb]; simp only; rw [if_neg h, if_neg (by rw [h2]; decide), if_neg (fun h => h h3)]
theorem Qxk (h : e.op = 1) : jend f s e = jto f s e.yes := by unfold jend; rw [if_pos h]
theorem QhU (h : e.op = 2) : jend f s e = ebind (jkind s e.a 1) fun _ => ebind (jto f s e.yes) fun _ => jto f s e.no := by unfold jend; rw [if_neg (by omega), if_pos h]
theorem Qo3 (h : e.op = 3) : jend f s e = ebind (Q6c s e.args f.results (upTo f.regs.toNat)) fun _ => if f.regs < (Q21 s.h).length then .error 12 else .ok () := by unfold jend; rw [if_neg (by omega), if_neg (by omega)]
theorem Qgl {n : Nat} (h : Q2e n t true = 0) : 0 ≤ t.block ∧ t.block < n := by
  unfold Q2e at h
  simp at h; omega
theorem Qo7 {n : Nat} (h : Q1P n e = 0) : 1 ≤ e.op ∧ e.op ≤ 3 ∧ Q2e n e.yes (decide (e.op ≠ 3)) = 0 ∧ Q2e n e.no (decide (e.op = 2)) = 0 := by
  unfold Q1P at h
  split at h
  · cases h
  · split at h
    · cases h
    · split at h
      · cases h
      · unfold orC at h
        split at h
        · rename_i h1; exact absurd h h1
        · rename_i h1; exact ⟨by omega, by omega, Classical.not_not.1 h1, h⟩
end
/-! ### A code that is told is not 0 -/
def NZ {α : Type} (x : Except Int α) : Prop := ∀ c, x = .error c → c ≠ 0
theorem NZ.e {α : Type} {c : Int} (h : c ≠ 0) : NZ (.error c : Except Int α) := fun _ h' => by cases h'; exact h
theorem NZ.o {α : Type} (a : α) : NZ (.ok a : Except Int α) := fun _ h' => by cases h'
theorem NZ.bind {α β : Type} {x : Except Int α} {f : α → Except Int β} (h1 : NZ x) (h2 : ∀ a, x = .ok a → NZ (f a)) : NZ (ebind x f) := by
  cases x with
  | error e => exact fun c h => by cases h; exact h1 _ rfl
  | ok a => exact h2 a rfl
theorem NZ.ite {α : Type} {p : Prop} [Decidable p] {a b : Except Int α} (h1 : NZ a) (h2 : NZ b) : NZ (if p then a else b) := by
  split
  · exact h1
  · exact h2
theorem QhH (s : JS) (k : Int) : NZ (jval s k) := by
  unfold jval
  split
  · exact .e (by decide)
  · split
    · exact .e (by decide)
    · exact .o _
theorem Q3p (s : JS) (k kind : Int) : NZ (jkind s k kind) := by
  refine .bind (QhH s k) fun t _ => ?_
  split
  · exact .e (by decide)
  · exact .o _
theorem QhV (s : JS) (k kind : Int) : NZ (jat s k kind) := by
  refine .bind (Q3p s k kind) fun t _ => ?_
  split
  · exact .e (by decide)
  · exact .o _
theorem jput_nz (s : JS) (t : Ty) : NZ (jput s t) := by
  unfold jput
  split
  · exact .e (by decide)
  · exact .o _
theorem QrN (s : JS) (regs : List Int) : ∀ (l : List Int) (want : List Ty), NZ (Q2s s regs l want)
  | [], [] => by unfold Q2s; exact .o _
  | [], _ :: _ => by unfold Q2s; exact .o _
  | _ :: _, [] => by unfold Q2s; exact .o _
  | k :: l, u :: want => by
    unfold Q2s
    refine .bind (QhH s k) fun t _ => ?_
    split
    · exact .e (by decide)
    · split
      · exact .e (by decide)
      · exact QrN s regs l want
theorem Qar (s : JS) (l : List Int) (want : List Ty) (regs : List Int) : NZ (Q6c s l want regs) := by
  unfold Q6c
  split
  · exact .e (by decide)
  · exact QrN s regs l want
theorem QrM (t : Ty) (k : Int) : NZ (Q3c t k) := by
  unfold Q3c
  split
  · exact .e (by decide)
  · exact .o _
theorem QoM (h : List Bool) : ∀ (l p : List Int), NZ (Q2N h p l)
  | [], _ => by unfold Q2N; exact .o _
  | r :: l, p => by
    unfold Q2N
    split
    · exact .e (by decide)
    · split
      · exact .e (by decide)
      · exact QoM h l _
theorem QbS (s : JS) : ∀ (l : List Int), NZ (jfields s l)
  | [] => by unfold jfields; exact .o _
  | k :: l => by
    unfold jfields
    exact .bind (QhH s k) fun _ _ => .bind (QbS s l) fun _ _ => .o _
theorem jcall_nz (m : Module) (s : JS) (x : Ins) : NZ (Qf1 m s x) := by
  unfold Qf1
  split
  · exact .e (by decide)
  · split
    · exact .e (by decide)
    · refine .bind (QoM _ _ _) fun _ _ => .bind (Qar _ _ _ _) fun _ _ => ?_
      split
      · exact .e (by decide)
      · exact .o _
theorem jins_nz (m : Module) (f : Fun) (s : JS) (x : Ins) : NZ (jins m f s x) := by
  unfold jins Q7C
  repeat' (first | exact jput_nz _ _ | exact jcall_nz _ _ _ | exact .o _ | exact .e (by decide) | refine .bind (Q3p _ _ _) fun _ _ => ?_ | refine .bind (QhV _ _ _) fun _ _ => ?_ | refine .bind (QrM _ _) fun _ _ => ?_ | refine .bind (QhH _ _) fun _ _ => ?_ | refine .bind (QbS _ _) fun _ _ => ?_ | refine .ite ?_ ?_)
theorem Qxn {m : Module} {f : Fun} {s : JS} {x : Ins} (h : (jIns m f s x).1 = 0) : QF m.funcs.length x = 0 ∧ jins m f s x = .ok (jIns m f s x).2 := by
  unfold jIns at h ⊢
  split at h
  · rename_i hf; exact absurd h hf
  · rename_i hf
    rw [if_neg hf]
    refine ⟨Classical.not_not.1 hf, ?_⟩
    cases hj : jins m f s x with
    | error c => rw [hj] at h; exact absurd h (jins_nz m f s x c hj)
    | ok s' => rfl
theorem Qxo {m : Module} {f : Fun} {s : JS} {x : Ins} (h : (jIns m f s x).1 ≠ 0) : (jIns m f s x).2 = s := by
  unfold jIns at h ⊢
  split
  · rfl
  · rename_i hf
    rw [if_neg hf] at h
    cases hj : jins m f s x with
    | error c => rfl
    | ok s' => rw [hj] at h; exact absurd rfl h
end Go.Lir
namespace Go.Proofs.YtanlkfeogoganaaGreat
open Go.Lir
set_option maxHeartbeats 1000000
attribute [local irreducible] LC.wp Q5 Q11 Q1f retQ Q2h LO.wp QD Calls
set_option linter.unusedSimpArgs false
set_option linter.unusedVariables false
theorem QhA {l m : List Int} {cx : Cx} {w : World} {L : List Res} {v v2 : Value} (hl : intR.sl cx v l) (hm : intR.sl cx v2 m) (hS : St cx w L) : Rets Tryz.prog Q3I [v, v2] w fun u w' => u = .bool (decide (l = m)) ∧ St cx w' L := by
  have hlen := hl.len
  all_goals refine QpS ?_
  all_goals (unfold R_SameInts_lc; refine Q0 ?_; refine Q2 ?_; refine zm ?_; refine zn ?_; refine Q0 ?_; refine Q0 ?_; refine Q2 ?_; refine zm ?_; refine zL ?_; refine zm ?_; refine zL ?_)
  all_goals (first | (refine QQ ?_) | (refine QR ?_) | (refine Qm rfl rfl (fun hc => ?_) (fun hc => ?_)))
  all_goals (refine zn ?_)
  all_goals
    first
    | (refine Q3 rfl ?_ -- Q3I c0
       all_goals (refine Q0 ?_; refine Q2 ?_; refine zm ?_; refine zn ?_; refine zr ?_; refine zf ?_)
       all_goals (refine ⟨_, rfl, ?_, hS.sp⟩; rw [decide_eq_false]; exact fun e => absurd (congrArg List.length e) (by omega); done))
    | (refine Q4 rfl ?_ -- Q3I c0
       all_goals refine zsk ?_)
  all_goals (refine Q0 ?_; refine Q0 ?_; refine Q2 ?_; refine zm ?_; refine zn ?_; refine Qa ?_)
  refine zoL hS [0, 1] (fun A LL ρ' w' => ∃ (j : Nat), Has ρ' A ∧ Has ρ' [(5, .int .i64 j)] ∧ (j ≤ l.length) ∧ (l.length = m.length) ∧ (l = m ↔ l.drop j = m.drop j) ∧ St cx w' (LL)) (fun ρ' _ => (l.length - iv (ρ' 5)).toNat) ?_ ?_
  · exact ⟨0, zh, zh, (by omega), (by omega), by simp, hS.sp⟩
  rintro ρ w1 ⟨j, hA, hρ, hj, hlm, hd, hS⟩; obtain ⟨ρ, rfl⟩ := env2 hA hρ
  unfold Qb6
  all_goals (refine Q0 ?_; refine Q0 ?_; refine Q2 ?_; refine zm ?_; refine zm ?_; refine zL ?_; refine Qr rfl rfl ?_; refine zn ?_)
  refine Qn rfl (fun hc => ?_) (fun hc => ?_)
  · skip
    all_goals (refine zsk ?_; refine Q0 ?_; refine Qa ?_; refine Q0 ?_; refine zD [(0, none), (1, none), (2, none), (3, none), (4, none), (5, none), (6, none), (7, none), (8, some none)] ?_; have hS := hS.drew; refine zm ?_; refine zm ?_; refine zi ?_; intro b1 o1 cs1 x1 hat1 hx1 he1; obtain rfl := QJ he1; (first | (refine zl hS ?_) | (refine zlk hS ?_)); refine zm ?_; refine zm ?_; refine zi ?_; intro b2 o2 cs2 x2 hat2 hx2 he2; obtain rfl := QJ he2; (first | (refine zl hS ?_) | (refine zlk hS ?_)))
    all_goals (first | (refine QQ ?_) | (refine QR ?_) | (refine Qm rfl rfl (fun hc => ?_) (fun hc => ?_)))
    all_goals (refine zn ?_)
    all_goals
      first
      | (refine Q3 rfl ?_ -- Q3I c2
         all_goals (refine Q0 ?_; refine Q2 ?_; refine zm ?_; refine zn ?_; refine zr ?_; refine zf ?_)
         all_goals (first | (refine ⟨_, rfl, ?_, hS.sp⟩; rw [decide_eq_false]; exact fun e => absurd (congrArg List.length e) (by omega); done) | (refine ⟨_, rfl, ?_, hS.sp⟩; rw [decide_eq_false]; rw [hd, Q7 hx1, Q7 hx2]; simp [*]; done)))
      | (refine Q4 rfl ?_ -- Q3I c2
         all_goals refine zsk ?_)
    all_goals (refine Q2 ?_; refine zm ?_; refine zad ?_; refine zm ?_; refine zn ?_; exact ⟨⟨j + 1, zh, zh, (by omega), (by omega), by rw [hd, Q7 hx1, Q7 hx2, show x1 = x2 by omega]; simp, hS.sp⟩, Qo (by omega)⟩)
  · skip
    all_goals (refine zex ?_; refine Q0 ?_; refine Q2 ?_; refine zm ?_; refine zn ?_; refine zr ?_; refine zf ?_; (first | (refine ⟨_, rfl, ?_, hS.sp⟩; rw [decide_eq_false]; exact fun e => absurd (congrArg List.length e) (by omega); done) | (refine ⟨_, rfl, ?_, hS.sp⟩; rw [decide_eq_false]; rw [hd, Q7 hx1, Q7 hx2]; simp [*]; done) | (refine ⟨_, rfl, ?_, hS.sp⟩; rw [decide_eq_true]; rw [hd, List.drop_of_length_le (by omega), List.drop_of_length_le (by omega)]; done)))
theorem Qrd {x y : To} {cx : Cx} {w : World} {L : List Res} {cs ds : List Value} (hx : toR.at cx cs x) (hy : toR.at cx ds y) (hS : St cx w L) : Rets Tryz.prog QvB [.agg ⟨cs⟩, .agg ⟨ds⟩] w fun u w' => u = .bool (decide (x = y)) ∧ St cx w' L := by
  obtain ⟨n, xr, xa⟩ := x
  obtain ⟨n2, yr, ya⟩ := y
  obtain ⟨v1, v2, rfl, h1, h2⟩ := Q3v hx
  obtain ⟨v3, v4, rfl, h3, h4⟩ := Q3v hy
  simp only [To.mk.injEq] at *
  all_goals refine QuG ?_
  all_goals (unfold R_sameTo_lc; refine Q0 ?_; refine Q2 ?_; refine zb hS ?_; intro p2 w1 hS; refine zb hS ?_; intro p3 w1 hS; refine zm ?_; refine zn ?_; refine Q0 ?_; refine Q2 ?_; refine Q1 rfl ?_; refine zl hS ?_; refine Q1 rfl ?_; refine zl hS ?_)
  all_goals (first | (refine Qw ?_) | (refine Qy ?_) | (refine Ql rfl rfl (fun hc => ?_) (fun hc => ?_)))
  all_goals (refine zm ?_; (first | refine s_gn rfl rfl ?_ | (refine s_gy rfl ?_; refine Q1 rfl ?_)); (first | refine s_gn rfl rfl ?_ | (refine s_gy rfl ?_; refine zl hS ?_)); (first | refine s_gn rfl rfl ?_ | (refine s_gy rfl ?_; refine Q1 rfl ?_)); (first | refine s_gn rfl rfl ?_ | (refine s_gy rfl ?_; refine zl hS ?_)))
  all_goals ((first | (refine s_gn rfl rfl ?_) | (refine s_gy rfl ?_; refine zR2 (c := QhA h1 h3 hS) (h := ?_); rintro v1 w1 ⟨rfl, hS⟩; (cases hdec : decide (xr = yr)); have hg := of_decide_eq_false hdec; rotate_left; have hg := of_decide_eq_true hdec; all_goals skip)))
  all_goals ((first | (refine zpt ?_) | (refine zpf ?_)); refine zm ?_; (first | refine s_gn rfl rfl ?_ | (refine s_gy rfl ?_; refine Q1 rfl ?_)); (first | refine s_gn rfl rfl ?_ | (refine s_gy rfl ?_; refine zl hS ?_)); (first | refine s_gn rfl rfl ?_ | (refine s_gy rfl ?_; refine Q1 rfl ?_)); (first | refine s_gn rfl rfl ?_ | (refine s_gy rfl ?_; refine zl hS ?_)); (first | (refine s_gn rfl rfl ?_) | (refine s_gy rfl ?_; refine zR2 (c := QhA h2 h4 hS) (h := ?_); rintro v1 w1 ⟨rfl, hS⟩)); (first | (refine zpt ?_) | (refine zpf ?_)); refine zm ?_; refine zn ?_; refine zr ?_; refine zf ?_; refine ⟨_, rfl, ?_, hS.sp⟩; (simp [*]); done)
theorem QvJ {x y : Ins} {cx : Cx} {w : World} {L : List Res} {cs ds : List Value} (hx : insR.at cx cs x) (hy : insR.at cx ds y) (hS : St cx w L) : Rets Tryz.prog Qsq [.agg ⟨cs⟩, .agg ⟨ds⟩] w fun u w' => u = .bool (decide (x = y)) ∧ St cx w' L := by
  obtain ⟨n, a, b, c, k, nn, xr, xa⟩ := x
  obtain ⟨n2, a2, b2, c2, k2, nn2, yr, ya⟩ := y
  obtain ⟨v1, v2, rfl, h1, h2⟩ := Q1h hx
  obtain ⟨v3, v4, rfl, h3, h4⟩ := Q1h hy
  simp only [Ins.mk.injEq] at *
  all_goals refine Qsp ?_
  all_goals (unfold R_sameIns_lc; refine Q0 ?_; refine Q2 ?_; refine zb hS ?_; intro p2 w1 hS; refine zb hS ?_; intro p3 w1 hS; refine zm ?_; refine zn ?_; refine Q0 ?_; refine Q2 ?_; refine Q1 rfl ?_; refine zl hS ?_; refine Q1 rfl ?_; refine zl hS ?_)
  all_goals (first | (refine Qw ?_) | (refine Qy ?_) | (refine Ql rfl rfl (fun hc => ?_) (fun hc => ?_)))
  all_goals (refine zm ?_; (first | refine s_gn rfl rfl ?_ | (refine s_gy rfl ?_; refine Q1 rfl ?_)); (first | refine s_gn rfl rfl ?_ | (refine s_gy rfl ?_; refine zl hS ?_)); (first | refine s_gn rfl rfl ?_ | (refine s_gy rfl ?_; refine Q1 rfl ?_)); (first | refine s_gn rfl rfl ?_ | (refine s_gy rfl ?_; refine zl hS ?_)))
  all_goals (first | refine s_gn rfl rfl ?_ | (refine s_gy rfl ?_; (first | (refine Qw ?_) | (refine Qy ?_) | (refine Ql rfl rfl (fun hc => ?_) (fun hc => ?_)))))
  all_goals ((first | (refine zpt ?_) | (refine zpf ?_)); refine zm ?_; (first | refine s_gn rfl rfl ?_ | (refine s_gy rfl ?_; refine Q1 rfl ?_)); (first | refine s_gn rfl rfl ?_ | (refine s_gy rfl ?_; refine zl hS ?_)); (first | refine s_gn rfl rfl ?_ | (refine s_gy rfl ?_; refine Q1 rfl ?_)); (first | refine s_gn rfl rfl ?_ | (refine s_gy rfl ?_; refine zl hS ?_)))
  all_goals (first | refine s_gn rfl rfl ?_ | (refine s_gy rfl ?_; (first | (refine Qw ?_) | (refine Qy ?_) | (refine Ql rfl rfl (fun hc => ?_) (fun hc => ?_)))))
  all_goals ((first | (refine zpt ?_) | (refine zpf ?_)); refine zm ?_; (first | refine s_gn rfl rfl ?_ | (refine s_gy rfl ?_; refine Q1 rfl ?_)); (first | refine s_gn rfl rfl ?_ | (refine s_gy rfl ?_; refine zl hS ?_)); (first | refine s_gn rfl rfl ?_ | (refine s_gy rfl ?_; refine Q1 rfl ?_)); (first | refine s_gn rfl rfl ?_ | (refine s_gy rfl ?_; refine zl hS ?_)))
  all_goals (first | refine s_gn rfl rfl ?_ | (refine s_gy rfl ?_; (first | (refine Qw ?_) | (refine Qy ?_) | (refine Ql rfl rfl (fun hc => ?_) (fun hc => ?_)))))
  all_goals ((first | (refine zpt ?_) | (refine zpf ?_)); refine zm ?_; (first | refine s_gn rfl rfl ?_ | (refine s_gy rfl ?_; refine Q1 rfl ?_)); (first | refine s_gn rfl rfl ?_ | (refine s_gy rfl ?_; refine zl hS ?_)); (first | refine s_gn rfl rfl ?_ | (refine s_gy rfl ?_; refine Q1 rfl ?_)); (first | refine s_gn rfl rfl ?_ | (refine s_gy rfl ?_; refine zl hS ?_)))
  all_goals (first | refine s_gn rfl rfl ?_ | (refine s_gy rfl ?_; (first | (refine Qw ?_) | (refine Qy ?_) | (refine Ql rfl rfl (fun hc => ?_) (fun hc => ?_)))))
  all_goals ((first | (refine zpt ?_) | (refine zpf ?_)); refine zm ?_; (first | refine s_gn rfl rfl ?_ | (refine s_gy rfl ?_; refine Q1 rfl ?_)); (first | refine s_gn rfl rfl ?_ | (refine s_gy rfl ?_; refine zl hS ?_)); (first | refine s_gn rfl rfl ?_ | (refine s_gy rfl ?_; refine Q1 rfl ?_)); (first | refine s_gn rfl rfl ?_ | (refine s_gy rfl ?_; refine zl hS ?_)))
  all_goals (first | refine s_gn rfl rfl ?_ | (refine s_gy rfl ?_; (first | (refine Qw ?_) | (refine Qy ?_) | (refine Ql rfl rfl (fun hc => ?_) (fun hc => ?_)))))
  all_goals ((first | (refine zpt ?_) | (refine zpf ?_)); refine zm ?_; (first | refine s_gn rfl rfl ?_ | (refine s_gy rfl ?_; refine Q1 rfl ?_)); (first | refine s_gn rfl rfl ?_ | (refine s_gy rfl ?_; refine zl hS ?_)); (first | refine s_gn rfl rfl ?_ | (refine s_gy rfl ?_; refine Q1 rfl ?_)); (first | refine s_gn rfl rfl ?_ | (refine s_gy rfl ?_; refine zl hS ?_)))
  all_goals ((first | (refine s_gn rfl rfl ?_) | (refine s_gy rfl ?_; refine zR2 (c := QhA h1 h3 hS) (h := ?_); rintro v1 w1 ⟨rfl, hS⟩; (cases hdec : decide (xr = yr)); have hg := of_decide_eq_false hdec; rotate_left; have hg := of_decide_eq_true hdec; all_goals skip)))
  all_goals ((first | (refine zpt ?_) | (refine zpf ?_)); refine zm ?_; (first | refine s_gn rfl rfl ?_ | (refine s_gy rfl ?_; refine Q1 rfl ?_)); (first | refine s_gn rfl rfl ?_ | (refine s_gy rfl ?_; refine zl hS ?_)); (first | refine s_gn rfl rfl ?_ | (refine s_gy rfl ?_; refine Q1 rfl ?_)); (first | refine s_gn rfl rfl ?_ | (refine s_gy rfl ?_; refine zl hS ?_)); (first | (refine s_gn rfl rfl ?_) | (refine s_gy rfl ?_; refine zR2 (c := QhA h2 h4 hS) (h := ?_); rintro v1 w1 ⟨rfl, hS⟩)); (first | (refine zpt ?_) | (refine zpf ?_)); refine zm ?_; refine zn ?_; refine zr ?_; refine zf ?_; refine ⟨_, rfl, ?_, hS.sp⟩; (simp [*]); done)
theorem Q4D {l : List Int} (hb : l.length ≤ 1000000) {cx : Cx} {w : World} {L : List Res} {v : Value} (hl : intR.sl cx v l) (hS : St cx w L) : Rets Tryz.prog Qsv [v] w fun u w' => ∃ c', cx.Le c' ∧ intR.sl c' u l ∧ St c' w' L := by
  have hS := hS.nil (T := 3) (es := 1)
  have hn : intR.ls cx [] [] := Rep.LR.nil _ _ _
  all_goals refine Qsu ?_
  all_goals (unfold R_ownInts_lc; refine Q0 ?_; refine Q2 ?_; refine zm ?_; refine zn ?_; refine Q0 ?_; refine Q2 ?_; refine zm ?_; refine zn ?_; refine Q0 ?_; refine Q2 ?_; refine zm ?_; refine zm ?_; (first | (refine za Q7D Qoj hS ?_; intro vp1 w1 css1 hls1 hv1 hS; have hS := hS.ns) | (refine zak Q7D Qoj hS ?_; intro vp1 w1 css1 hls1 hv1 hS; have hS := hS.ns)); refine zm ?_; refine zn ?_; refine zr ?_; refine zf ?_; obtain ⟨c3, hle3, hS, hl3⟩ := St.freezeL (r := intR) (l := l) (T := 3) (es := 1) (L := L) hS.sp hls1 rfl (by omega); exact ⟨_, rfl, c3, hle3, hl3, hS⟩)
theorem Q9C {l : List Int} (hb : l.length ≤ 1000000) {cx : Cx} {w : World} {L : List Res} {v : Value} (hl : intR.sl cx v l) (hS : St cx w L) : Rets Tryz.prog Q2D [v] w fun u w' => ∃ c', cx.Le c' ∧ intR.sl c' u l ∧ St c' w' L := by
  obtain ⟨a, c, hv⟩ := Rep.SR.shape hl
  cases a with
  | none =>
    have hl0 := Rep.SR.nil_of hl hv
    subst hl0
    subst hv
    all_goals refine Q30 ?_
    all_goals (unfold slices_Clone_int_int_lc; refine Q0 ?_; refine Q2 ?_; refine zm ?_; refine zn ?_; refine Q0 ?_; refine Q0 ?_; refine Q2 ?_; refine zm ?_; refine Qoz (e := 3) (by kernel_rfl) rfl rfl ?_; refine zn ?_)
    all_goals
      first
      | (refine Q3 rfl ?_ -- Q2D c0
         all_goals (refine Q0 ?_; refine Q2 ?_; refine zm ?_; refine zn ?_; refine zr ?_; refine zf ?_)
         all_goals (exact ⟨_, rfl, cx, St.refl hS, Rep.SR.nil _ _ _, hS⟩))
    all_goals (refine Q0 ?_; refine Q2 ?_; fail "no law for buildSlice"; refine zm ?_; refine za Q7D Qoj hS ?_; intro vp1 w1 css1 hls1 hv1 hS; have hS := hS.ns; refine zm ?_; refine zn ?_; refine zr ?_; refine zf ?_; exact ⟨_, rfl, cx, St.refl hS, Rep.SR.nil _ _ _, hS⟩)
  | some a =>
    have hn : intR.ls cx [] [] := Rep.LR.nil _ _ _
    all_goals refine Q30 ?_
    all_goals (unfold slices_Clone_int_int_lc; refine Q0 ?_; refine Q2 ?_; refine zm ?_; refine zn ?_; refine Q0 ?_; refine Q0 ?_; refine Q2 ?_; refine zm ?_; refine Qoz (e := 3) (by kernel_rfl) hv rfl ?_; refine zn ?_)
    all_goals refine Q4 rfl ?_
    all_goals (refine zsk ?_; refine Q0 ?_; refine Q2 ?_; refine QwE Q7D ?_; intro v1 w1 hf1 hs1 hz1; have hS := hS.new (r := sl 3 1 v1 []) hs1 hf1 (fun b hb => Nat.le_of_eq hb.symm); refine zm ?_; (first | (refine za Q7D Qoj hS ?_; intro vp1 w1 css1 hls1 hv1 hS; have hS := hS.ns) | (refine zak Q7D Qoj hS ?_; intro vp1 w1 css1 hls1 hv1 hS; have hS := hS.ns)); refine zm ?_; refine zn ?_; refine zr ?_; refine zf ?_; obtain ⟨c3, hle3, hS, hl3⟩ := St.freezeL (r := intR) (l := l) (T := 3) (es := 1) (L := L) hS.sp hls1 rfl (by omega); exact ⟨_, rfl, c3, hle3, hl3, hS⟩)
theorem Qv9 {x : To} (hb1 : x.regs.length ≤ 1000000) (hb2 : x.args.length ≤ 1000000) {cx : Cx} {w : World} {L : List Res} {cs : List Value} (hx : toR.at cx cs x) (hS : St cx w L) : Rets Tryz.prog QxI [.agg ⟨cs⟩] w fun u w' => ∃ c' ds, u = .agg ⟨ds⟩ ∧ cx.Le c' ∧ toR.at c' ds x ∧ St c' w' L := by
  obtain ⟨v1, v2, rfl, h1, h2⟩ := Q3v hx
  all_goals refine Qw6 ?_
  all_goals (unfold R_ownTo_lc; refine Q0 ?_; refine Q2 ?_; refine zb hS ?_; intro p1 w1 hS; refine Qb hS ?_; intro p2 w1 hS; refine zn ?_; refine Q0 ?_; refine zC [(0, none), (1, none), (2, none), (3, none), (5, none), (6, none), (4, some (some [1, 6])), (7, some (some [1])), (8, none), (9, some none)] ?_; have hS := hS.drew; refine s_cq ?_; refine Q1 rfl ?_; refine zt ?_; refine s_cq ?_; refine zl hS ?_; refine zt ?_; refine s_cq ?_; refine Q1 rfl ?_; refine zt ?_; refine s_cq ?_; refine zl hS ?_; refine zt ?_; refine s_cq ?_; refine Q1 rfl ?_; refine zt ?_; refine s_cq ?_; refine zl hS ?_; refine zt ?_; refine QE ?_; refine zR1 (c := Q4D hb1 h1 hS) (h := ?_); rintro v1 w1 ⟨c1, hle, hl1, hS⟩; obtain ⟨a1, n1, rfl⟩ := Rep.SR.shape hl1; have h2 := Rep.SR.up h2 hle; refine zt ?_; refine zy ?_; refine QE ?_; refine zR1 (c := Q4D hb2 h2 hS) (h := ?_); rintro v1 w1 ⟨c2, hle2, hl2, hS⟩; obtain ⟨a2, n2, rfl⟩ := Rep.SR.shape hl2; have hl1 := Rep.SR.up hl1 hle2; refine zt ?_; refine zy ?_; refine s_cq ?_; refine zb3 [_, _, _] ?_; refine zt ?_; refine s_cf ?_; refine zsn hS ?_; intro w1 hS; have hS := hS.ns; refine zt ?_)
  all_goals (refine zcn ?_; refine zr ?_; refine Q1e vw (Qc (n := 3) (by kernel_rfl) (by kernel_rfl) (hS.blkAt fd) (by rfl) (by rfl)) ?_; exact ⟨_, rfl, c2, _, rfl, hle.trans hle2, ⟨_, _, rfl, hl1, hl2⟩, hS.sp⟩)
theorem Qvf {x : To} (hb1 : x.regs.length ≤ 1000000) (hb2 : x.args.length ≤ 1000000) {cx : Cx} {w : World} {L : List Res} {cs : List Value} (hx : toR.at cx cs x) (hS : St cx w L) : Rets Tryz.prog Qo9 [.agg ⟨cs⟩] w fun u w' => ∃ c' ds, u = .agg ⟨ds⟩ ∧ cx.Le c' ∧ toR.at c' ds x ∧ St c' w' L := by
  obtain ⟨v1, v2, rfl, h1, h2⟩ := Q3v hx
  all_goals refine QoY ?_
  all_goals (unfold code_ownTo_lc; refine Q0 ?_; refine Q2 ?_; refine zb hS ?_; intro p1 w1 hS; refine Qb hS ?_; intro p2 w1 hS; refine zn ?_; refine Q0 ?_; refine zC [(0, none), (1, none), (2, none), (3, none), (5, none), (6, none), (4, some (some [1, 6])), (7, some (some [1])), (8, none), (9, some none)] ?_; have hS := hS.drew; refine s_cq ?_; refine Q1 rfl ?_; refine zt ?_; refine s_cq ?_; refine zl hS ?_; refine zt ?_; refine s_cq ?_; refine Q1 rfl ?_; refine zt ?_; refine s_cq ?_; refine zl hS ?_; refine zt ?_; refine s_cq ?_; refine Q1 rfl ?_; refine zt ?_; refine s_cq ?_; refine zl hS ?_; refine zt ?_; refine QE ?_; refine zR1 (c := Q9C hb1 h1 hS) (h := ?_); rintro v1 w1 ⟨c1, hle, hl1, hS⟩; obtain ⟨a1, n1, rfl⟩ := Rep.SR.shape hl1; have h2 := Rep.SR.up h2 hle; refine zt ?_; refine zy ?_; refine QE ?_; refine zR1 (c := Q9C hb2 h2 hS) (h := ?_); rintro v1 w1 ⟨c2, hle2, hl2, hS⟩; obtain ⟨a2, n2, rfl⟩ := Rep.SR.shape hl2; have hl1 := Rep.SR.up hl1 hle2; refine zt ?_; refine zy ?_; refine s_cq ?_; refine zb3 [_, _, _] ?_; refine zt ?_; refine s_cf ?_; refine zsn hS ?_; intro w1 hS; have hS := hS.ns; refine zt ?_; refine zcn ?_)
  all_goals (refine zr ?_; refine Q1e vw (Qc (n := 3) (by kernel_rfl) (by kernel_rfl) (hS.blkAt fd) (by rfl) (by rfl)) ?_; exact ⟨_, rfl, c2, _, rfl, hle.trans hle2, ⟨_, _, rfl, hl1, hl2⟩, hS.sp⟩)
end Go.Proofs.YtanlkfeogoganaaGreat
